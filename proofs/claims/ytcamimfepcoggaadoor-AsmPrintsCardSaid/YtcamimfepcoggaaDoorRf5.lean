/- The walk of the reference's aimed; and of its Print, where it finds nothing to print. -/
import Derived.Test.YtcamimfepcoggaaDoorRf4
namespace Go.Proofs.YtcamimfepcoggaaDoor
open Go.RowKit
theorem cnt_zero {l : List Ins} {k : Nat} (h : ∀ (j : Nat) (h : j < l.length), aimsAt (k : Int) l[j] = false) : ¬ 0 < cntAt l k := by
  unfold cntAt
  intro hp
  obtain ⟨x, hx⟩ := List.exists_mem_of_length_pos hp
  obtain ⟨hm, ha⟩ := List.mem_filter.1 hx
  obtain ⟨j, hj, rfl⟩ := List.getElem_of_mem hm
  rw [h j hj] at ha
  cases ha
theorem cnt_some {l : List Ins} {k j : Nat} (hj : j < l.length) (h : aimsAt (k : Int) l[j] = true) : 0 < cntAt l k := by
  unfold cntAt
  exact List.length_pos_of_mem (List.mem_filter.2 ⟨List.getElem_mem hj, h⟩)
set_option maxRecDepth 100000 in
set_option maxHeartbeats 4000000 in
theorem aimed_some (l : List Ins) (g kk cap k : Nat) (w : World) (hn : l.length ≤ 4294967296) (hg : g < w.heap.size)
    (hc : ∀ (i : Nat) (h : i < l.length), w.cell? ⟨g, kk + i * 4, none⟩ = some (.int .i64 l[i].1) ∧ w.cell? ⟨g, kk + i * 4 + 1, none⟩ = some (.int .i64 l[i].2.1) ∧ w.cell? ⟨g, kk + i * 4 + 2, none⟩ = some (.int .i64 l[i].2.2.1) ∧ w.cell? ⟨g, kk + i * 4 + 3, none⟩ = some (.int .i64 l[i].2.2.2)) :
    Calls Tryd.prog 24 #[.slice (some ⟨g, kk, none⟩) l.length cap, .int .i64 (k : Int)] w fun e w' => e = .returned (.bool (decide (0 < cntAt l k))) ∧ Below w.heap.size w w' := by
  have HC := Lib.hid hc
  have HG := Lib.hid hg
  clear hc hg
  go_enter Tryd.func24, Tryd.ntmps24
  go_wp2
  go_loopw [5] (fun i wr => ∃ x : Nat, x ≤ l.length ∧ i = .int .i64 x ∧ Below w.heap.size w wr ∧ Hid (∀ (j : Nat) (h : j < l.length), j < x → aimsAt (k : Int) l[j] = false)) (fun i _ => l.length - (intOf i).toNat)
  case atStart => exact ⟨0, Nat.zero_le _, rfl, Below.refl _ _, Lib.hid (fun j h h' => absurd h' (by omega))⟩
  case round =>
    obtain ⟨x, hx, rfl, hb, HX⟩ := hrel
    have HB := Lib.hid hb
    clear hb
    by_cases hlt : x < l.length
    · obtain ⟨a0, a1, a2, a3⟩ := HC.out x hlt
      have b0 := (HB.out.cell (p := ⟨g, kk + x * 4, none⟩) HG.out).trans a0
      have b1 := (HB.out.cell (p := ⟨g, kk + x * 4 + 1, none⟩) HG.out).trans a1
      have b2 := (HB.out.cell (p := ⟨g, kk + x * 4 + 2, none⟩) HG.out).trans a2
      have b3 := (HB.out.cell (p := ⟨g, kk + x * 4 + 3, none⟩) HG.out).trans a3
      clear a0 a1 a2 a3
      generalize hi : l[x] = i at b0 b1 b2 b3
      obtain ⟨op, a, b, c⟩ := i
      have HI := Lib.hid hi
      clear hi
      dsimp only at b0 b1 b2 b3
      have hxI : (x : Int) < (l.length : Int) := by omega
      cases ht : targetOf (op, a, b, c) with
      | mk tv tb =>
      have HT := Lib.hid ht
      clear ht
      cases tb with
      | false =>
        go_wp2_with (go_at_call 22; refine (rtgt_eq HT.out _).mono ?_; rintro e w1 ⟨rfl, hb1⟩; have HB1 := Lib.hid (HB.out.trans (hb1.mono HB.out.size)); clear hb1)
        go_roundw
        case rel => exact ⟨x + 1, by omega, by go_num, HB1.out, Lib.hid (fun j h hj => by
            by_cases e : j = x
            · subst e
              rw [HI.out]
              unfold aimsAt
              rw [HT.out]; rfl
            · exact HX.out j h (by omega))⟩
        case measure => simp [intOf]; omega
      | true =>
        by_cases he : tv = (k : Int)
        · have hb : (tv == (k : Int)) = true := by simpa using he
          have HE := Lib.hid he
          clear he
          go_wp2_with (go_at_call 22; refine (rtgt_eq HT.out _).mono ?_; rintro e w1 ⟨rfl, hb1⟩; have HB1 := Lib.hid (HB.out.trans (hb1.mono HB.out.size)); clear hb1)
          go_ret
          exact ⟨by rw [decide_eq_true (cnt_some hlt (by rw [HI.out]; unfold aimsAt; rw [HT.out]; simpa using HE.out))]; rfl, HB1.out⟩
        · have hb : (tv == (k : Int)) = false := by simpa using he
          have HE := Lib.hid he
          clear he
          go_wp2_with (go_at_call 22; refine (rtgt_eq HT.out _).mono ?_; rintro e w1 ⟨rfl, hb1⟩; have HB1 := Lib.hid (HB.out.trans (hb1.mono HB.out.size)); clear hb1)
          go_roundw
          case rel => exact ⟨x + 1, by omega, by go_num, HB1.out, Lib.hid (fun j h hj => by
              by_cases e : j = x
              · subst e
                rw [HI.out]
                unfold aimsAt
                rw [HT.out]
                simpa using HE.out
              · exact HX.out j h (by omega))⟩
          case measure => simp [intOf]; omega
    · have hxI : ¬ (x : Int) < (l.length : Int) := by omega
      go_wp2
      go_ret
      exact ⟨by rw [decide_eq_false (cnt_zero fun j h => HX.out j h (by omega))]; rfl, HB.out⟩
theorem aimed_nil (ao : Option Addr) (cap : Nat) (k : Int) (w : World) : Calls Tryd.prog 24 #[.slice ao 0 cap, .int .i64 k] w fun e w' => e = .returned (.bool false) ∧ Below w.heap.size w w' := by
  go_enter Tryd.func24, Tryd.ntmps24
  go_wp2
  refine wp_loop_rounds 1 ?_
  rw [rounds_succ]
  go_wp2
  go_ret
  exact ⟨rfl, Below.refl _ _⟩
theorem aimed_any (v : Value) (l : List Ins) (k : Nat) (w : World) (hv : InsAt w v l) (hn : l.length ≤ 4294967296) :
    Calls Tryd.prog 24 #[v, .int .i64 (k : Int)] w fun e w' => e = .returned (.bool (decide (0 < cntAt l k))) ∧ Below w.heap.size w w' := by
  by_cases h0 : l = []
  · subst h0
    obtain ⟨ao, cap, rfl, _⟩ := hv
    rw [decide_eq_false (show ¬ 0 < cntAt [] k by simp [cntAt])]
    exact aimed_nil ao cap k w
  · obtain ⟨g, kk, cap, rfl, hg, hc⟩ := hv.cells h0
    exact aimed_some l g kk cap k w hn hg hc
theorem aimed_eq {v : Value} {l : List Ins} {k : Nat} {b : Bool} (h : decide (0 < cntAt l k) = b) (w : World) (hv : InsAt w v l) (hn : l.length ≤ 4294967296) :
    Calls Tryd.prog 24 #[v, .int .i64 (k : Int)] w fun e w' => e = .returned (.bool b) ∧ Below w.heap.size w w' := by
  rw [← h]
  exact aimed_any v l k w hv hn
end Go.Proofs.YtcamimfepcoggaaDoor
