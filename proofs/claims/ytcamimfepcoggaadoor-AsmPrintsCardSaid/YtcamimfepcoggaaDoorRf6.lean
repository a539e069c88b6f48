/- The walk of the reference's Print. -/
import Derived.Test.YtcamimfepcoggaaDoorRf5
import Derived.OwnWalk
import Derived.Lib.AppendStr
namespace Go.Proofs.YtcamimfepcoggaaDoor
open Go.RowKit
theorem rline_ok {op a b c : Int} (h : insOk (op, a, b, c) = true) (w : World) :
    Calls Tryd.prog 12 #[insV op a b c] w fun e w' => e = .returned (.tuple #[.string ⟨(lineOf (op, a, b, c)).toArray⟩, .int .i64 0]) ∧ Below w.heap.size w w' := by
  refine (rline_any op a b c w).mono ?_
  rintro e w' ⟨rfl, hb⟩
  refine ⟨?_, hb⟩
  rw [h]; rfl
theorem cell_ten (w : World) : ∀ (j : Nat) (u : Value), [Value.int .u8 10][j]? = some u → (w.alloc (.cells #[.int .u8 10] 5)).cell? ((⟨w.heap.size, 0, none⟩ : Addr).add j) = some u := by
  intro j u hj
  match j, hj with
  | 0, hj => simp at hj; subst hj; simp [Addr.add]
theorem cell_two (w : World) : ∀ (j : Nat) (u : Value), [Value.int .u8 58, Value.int .u8 76][j]? = some u → (w.alloc (.cells #[.int .u8 58, .int .u8 76] 5)).cell? ((⟨w.heap.size, 0, none⟩ : Addr).add j) = some u := by
  intro j u hj
  match j, hj with
  | 0, hj => simp at hj; subst hj; simp [Addr.add]
  | 1, hj => simp at hj; subst hj; simp [Addr.add]
theorem own_text {w : World} {B n m : Nat} {v : Value} {xs ys : List Value} (h : w.ownsRow B 5 1 v n xs) (hn : n = m) (hx : xs = ys) : w.ownsRow B 5 1 v m ys := by
  subst hn hx
  exact h
set_option maxRecDepth 100000 in
theorem own_str {w : World} {B : Nat} {v : Value} {t : Bs} (h : w.ownsRow B 5 1 v t.length (Lib.byteCells t)) : (convert 43 9 v).run Tryd.prog w = .ok (.string ⟨t.toArray⟩) w := by
  rcases h.2 with ⟨rfl, h0⟩ | ⟨g, cap, cur, rfl, r⟩
  · have : t = [] := List.eq_nil_of_length_eq_zero h0
    subst this
    rw [run_convert_bytes_string (P := Tryd.prog) w 43 9 5 none 0 0 Tryd.underlying43 Tryd.underlying5 Tryd.underlying9]
    rfl
  · have := run_convert_bytes_arg (P := Tryd.prog) w 43 5 Tryd.underlying43 Tryd.underlying5 g 0 t.length cap (t.map fun b => (b.toNat : Int)) (by simp) (fun i hi => by
      have hc := h.cells (g := g) rfl i (.int .u8 (t[i].toNat : Int)) (by simp [Lib.byteCells, hi])
      simp only [Addr.add_lit, Nat.zero_add] at hc
      rw [Nat.zero_add, hc]
      simp [List.getD_eq_getElem?_getD, hi]) 9 Tryd.underlying9
    rw [this]
    unfold strOfNums
    congr 3
    rw [List.map_map]
    congr 1
    apply List.map_id''
    intro x
    simp
theorem rprint_long (ao : Option Addr) (n cap : Nat) (w : World) (h : (512 : Int) < (n : Int)) :
    Calls Tryd.prog 10 #[.slice ao n cap] w fun e w' => e = .returned (.tuple #[.string ⟨#[]⟩, .int .i64 3]) ∧ Below w.heap.size w w' := by
  go_enter Tryd.func10, Tryd.ntmps10
  go_wp2
  go_ret2
  exact ⟨rfl, Below.refl _ _⟩
set_option maxRecDepth 100000 in
set_option maxHeartbeats 8000000 in
theorem rprint_some (l : List Ins) (g kk cap : Nat) (w : World) (hn : l.length ≤ 512) (hg : g < w.heap.size)
    (hc : ∀ (i : Nat) (h : i < l.length), w.cell? ⟨g, kk + i * 4, none⟩ = some (.int .i64 l[i].1) ∧ w.cell? ⟨g, kk + i * 4 + 1, none⟩ = some (.int .i64 l[i].2.1) ∧ w.cell? ⟨g, kk + i * 4 + 2, none⟩ = some (.int .i64 l[i].2.2.1) ∧ w.cell? ⟨g, kk + i * 4 + 3, none⟩ = some (.int .i64 l[i].2.2.2))
    (hv : InsAt w (.slice (some ⟨g, kk, none⟩) l.length cap) l) :
    Calls Tryd.prog 10 #[.slice (some ⟨g, kk, none⟩) l.length cap] w fun e w' => e = .returned (.tuple #[.string ⟨(printL l).1.toArray⟩, .int .i64 (printL l).2]) ∧ Below w.heap.size w w' := by
  obtain ⟨i0, hi0, hz0, hz1, hz2⟩ := info_parts inf5
  have HC := Lib.hid hc
  have HG := Lib.hid hg
  have HV := Lib.hid hv
  clear hc hg hv
  have hn' : ¬ (512 : Int) < (l.length : Int) := by omega
  go_enter Tryd.func10, Tryd.ntmps10
  go_wp2
  go_loopw [4] (fun i wr => ∃ k : Nat, k ≤ l.length ∧ i = .int .i64 k ∧ Below w.heap.size w wr ∧ Hid (∀ (j : Nat) (h : j < l.length), j < k → okAt l.length l[j] = true)) (fun i _ => l.length - (intOf i).toNat)
  case atStart => exact ⟨0, Nat.zero_le _, rfl, Below.refl _ _, Lib.hid (fun j h h' => absurd h' (by omega))⟩
  case round =>
    obtain ⟨k, hk, rfl, hb, HA⟩ := hrel
    have HB := Lib.hid hb
    clear hb
    by_cases hlk : k < l.length
    · obtain ⟨a0, a1, a2, a3⟩ := HC.out k hlk
      have b0 := (HB.out.cell (p := ⟨g, kk + k * 4, none⟩) HG.out).trans a0
      have b1 := (HB.out.cell (p := ⟨g, kk + k * 4 + 1, none⟩) HG.out).trans a1
      have b2 := (HB.out.cell (p := ⟨g, kk + k * 4 + 2, none⟩) HG.out).trans a2
      have b3 := (HB.out.cell (p := ⟨g, kk + k * 4 + 3, none⟩) HG.out).trans a3
      clear a0 a1 a2 a3
      generalize hi : l[k] = i at b0 b1 b2 b3
      obtain ⟨op, a, b, c⟩ := i
      have HI := Lib.hid hi
      clear hi
      dsimp only at b0 b1 b2 b3
      have hkI : (k : Int) < (l.length : Int) := by omega
      cases ht : targetOf (op, a, b, c) with
      | mk tv tb =>
      have HT := Lib.hid ht
      clear ht
      have HBS := Lib.hid HB.out.size
      have hstep : ∀ w1 : World, Below wr.heap.size wr w1 → Below w.heap.size w w1 ∧ (w1.cell? ⟨g, kk + k * 4, none⟩ = some (.int .i64 op) ∧ w1.cell? ⟨g, kk + k * 4 + 1, none⟩ = some (.int .i64 a) ∧ w1.cell? ⟨g, kk + k * 4 + 2, none⟩ = some (.int .i64 b) ∧ w1.cell? ⟨g, kk + k * 4 + 3, none⟩ = some (.int .i64 c)) := by
        intro w1 hb1
        have hgr : g < wr.heap.size := Nat.lt_of_lt_of_le HG.out HBS.out
        exact ⟨HB.out.trans (hb1.mono HBS.out), (hb1.cell (p := ⟨g, kk + k * 4, none⟩) hgr).trans b0, (hb1.cell (p := ⟨g, kk + k * 4 + 1, none⟩) hgr).trans b1, (hb1.cell (p := ⟨g, kk + k * 4 + 2, none⟩) hgr).trans b2, (hb1.cell (p := ⟨g, kk + k * 4 + 3, none⟩) hgr).trans b3⟩
      have HST := Lib.hid hstep
      clear hstep
      cases hok : insOk (op, a, b, c) with
      | false =>
        have HOK := Lib.hid hok
        clear hok
        go_wp2_with (first
          | (go_at_call 22; refine (rtgt_eq HT.out _).mono ?_; rintro e w1 ⟨rfl, hb1⟩; obtain ⟨hbw, c0, c1, c2, c3⟩ := HST.out w1 hb1; have HB1 := Lib.hid hbw; clear hb1 hbw b0 b1 b2 b3)
          | (go_at_call 23; refine (ris_eq HOK.out _).mono ?_; rintro e w2 ⟨rfl, hb2⟩; have HB2 := Lib.hid (HB1.out.trans (hb2.mono HB1.out.size)); clear hb2))
        go_ret2
        exact ⟨ret_print (print_bad hn hlk HI.out (by unfold okAt; rw [HOK.out]; rfl)), HB2.out⟩
      | true =>
        have HOK := Lib.hid hok
        clear hok
        cases tb with
        | false =>
          go_wp2_with (first
            | (go_at_call 22; refine (rtgt_eq HT.out _).mono ?_; rintro e w1 ⟨rfl, hb1⟩; obtain ⟨hbw, c0, c1, c2, c3⟩ := HST.out w1 hb1; have HB1 := Lib.hid hbw; clear hb1 hbw b0 b1 b2 b3)
            | (go_at_call 23; refine (ris_eq HOK.out _).mono ?_; rintro e w2 ⟨rfl, hb2⟩; have HB2 := Lib.hid (HB1.out.trans (hb2.mono HB1.out.size)); clear hb2))
          go_roundw
          case rel => exact ⟨k + 1, by omega, by go_num, HB2.out, Lib.hid fun j h hj => by
              by_cases e : j = k
              · subst e
                rw [HI.out]
                unfold okAt
                rw [HOK.out, HT.out]; rfl
              · exact HA.out j h (by omega)⟩
          case measure => simp [intOf]; omega
        | true =>
          by_cases hle : tv ≤ (l.length : Int)
          · have hlt' : ¬ (l.length : Int) < tv := by omega
            have HLE := Lib.hid hle
            clear hle
            go_wp2_with (first
              | (go_at_call 22; refine (rtgt_eq HT.out _).mono ?_; rintro e w1 ⟨rfl, hb1⟩; obtain ⟨hbw, c0, c1, c2, c3⟩ := HST.out w1 hb1; have HB1 := Lib.hid hbw; clear hb1 hbw b0 b1 b2 b3)
              | (go_at_call 23; refine (ris_eq HOK.out _).mono ?_; rintro e w2 ⟨rfl, hb2⟩; have HB2 := Lib.hid (HB1.out.trans (hb2.mono HB1.out.size)); clear hb2))
            go_roundw
            case rel => exact ⟨k + 1, by omega, by go_num, HB2.out, Lib.hid fun j h hj => by
                by_cases e : j = k
                · subst e
                  rw [HI.out]
                  unfold okAt
                  rw [HOK.out, HT.out]
                  simpa using HLE.out
                · exact HA.out j h (by omega)⟩
            case measure => simp [intOf]; omega
          · have hlt' : (l.length : Int) < tv := by omega
            have HLE := Lib.hid hle
            clear hle
            go_wp2_with (first
              | (go_at_call 22; refine (rtgt_eq HT.out _).mono ?_; rintro e w1 ⟨rfl, hb1⟩; obtain ⟨hbw, c0, c1, c2, c3⟩ := HST.out w1 hb1; have HB1 := Lib.hid hbw; clear hb1 hbw b0 b1 b2 b3)
              | (go_at_call 23; refine (ris_eq HOK.out _).mono ?_; rintro e w2 ⟨rfl, hb2⟩; have HB2 := Lib.hid (HB1.out.trans (hb2.mono HB1.out.size)); clear hb2))
            go_ret2
            exact ⟨ret_print (print_bad hn hlk HI.out (by
              unfold okAt
              rw [HOK.out, HT.out]
              have := HLE.out
              simp; omega)), HB2.out⟩
    · obtain rfl : k = l.length := by omega
      have HAL : Hid (∀ (j : Nat) (h : j < l.length), okAt l.length l[j] = true) := Lib.hid (fun j h => HA.out j h h)
      clear HA
      obtain ⟨wa, hwa⟩ : ∃ x : World, x = wr := ⟨wr, rfl⟩
      subst hwa
      go_wp2
      go_loopw [7, 8] (fun v i wq => ∃ k : Nat, k ≤ l.length + 1 ∧ i = .int .i64 k ∧ Below w.heap.size w wq ∧ wq.ownsRow w.heap.size 5 1 v (textK l k).length (Lib.byteCells (textK l k))) (fun _ i _ => l.length + 1 - (intOf i).toNat)
      case atStart => exact ⟨0, by omega, rfl, HB.out, World.ownsRow_nil _ _ _ _⟩
      case round =>
        obtain ⟨k, hk, rfl, hb2, ho2⟩ := hrel
        have HB2' := Lib.hid hb2
        have HO2' := Lib.hid ho2
        clear hb2 ho2
        by_cases hle : k ≤ l.length
        · have hI : (k : Int) ≤ (l.length : Int) := by omega
          have htk := textK_len HAL.out k (by omega)
          by_cases hp : 0 < cntAt l k
          · have hpd : decide (0 < cntAt l k) = true := decide_eq_true hp
            have HPD := Lib.hid hpd
            clear hpd
            go_wp2_with (first
              | (go_at_call 24; refine (aimed_eq HPD.out _ (HV.out.on HB2'.out (Nat.le_refl _)) (by omega)).mono ?_; rintro e w2 ⟨rfl, hb⟩; have HB2 := Lib.hid (HB2'.out.trans (hb.mono HB2'.out.size)); have HO2 := Lib.hid (own_lift HO2'.out hb); clear hb)
              | (at_builtin; refine wpList_append_own _ rfl (.tmp 52) (.tmp 53) 43 rfl w.heap.size 5 i0 (.int .u8 0) 1 1 Tryd.underlying43 hi0 hz0 hz1 hz2 rfl (by decide) _ _ _ rfl (HO2.out.alloc _) ⟨w2.heap.size, 0, none⟩ 2 2 [.int .u8 58, .int .u8 76] rfl rfl ?_ ?_ ?_ ?_ ?_ ?_))
            · exact cell_two w2
            · intro u hu; simp at hu; rcases hu with rfl | rfl <;> rfl
            · unfold maxLen; omega
            · omega
            · have := HB2.out.size; simp; omega
            intro v3 w3 hown3 hgrow3 hnil3
            have HO3 := Lib.hid hown3
            have HB3 := Lib.hid ((HB2.out.alloc HB2.out.size _).grown hgrow3 (by have := HB2.out.size; simp; omega) (fun k hk => (HO2.out.lt k hk).1))
            clear hown3 hgrow3 hnil3
            have hil := Lib.itoa_length_le (k : Int) (by omega) (by omega)
            go_wp2_with (first
              | (go_at_call 25; refine (num_any (k : Int) (by omega) (by omega) _).mono ?_; rintro e wb ⟨rfl, hb⟩; have HBb := Lib.hid (HB3.out.trans (hb.mono HB3.out.size)); have HOb := Lib.hid (own_lift HO3.out hb); clear hb)
              | (at_builtin; refine Lib.wpList_append_own_string _ rfl (.tmp 54) (.tmp 56) 43 9 rfl w.heap.size 5 i0 Tryd.underlying43 Tryd.underlying9 hi0 hz0 hz1 hz2 _ _ _ rfl HOb.out _ rfl ?_ ?_ ?_ ?_))
            · unfold maxLen; rw [mk_size]; omega
            · rw [mk_size]; omega
            · exact HBb.out.size
            intro vc wc hownc hgrowc hnilc
            have HOc : Hid (wc.ownsRow w.heap.size 5 1 vc ((textK l k).length + 2 + (Lib.itoa (k : Int)).length) (Lib.byteCells (textK l k) ++ [.int .u8 58, .int .u8 76] ++ Lib.byteCells (Lib.itoa (k : Int)))) := Lib.hid (own_text hownc rfl (by simp [Lib.strCells_toArray]))
            have HBc := Lib.hid (HBb.out.grown hgrowc HBb.out.size (fun k hk => (HOb.out.lt k hk).1))
            clear hownc hgrowc hnilc
            go_wp2_with (at_builtin; refine wpList_append_own _ rfl (.tmp 57) (.tmp 58) 43 rfl w.heap.size 5 i0 (.int .u8 0) 1 1 Tryd.underlying43 hi0 hz0 hz1 hz2 rfl (by decide) _ _ _ rfl (HOc.out.alloc _) ⟨wc.heap.size, 0, none⟩ 1 1 [.int .u8 10] rfl rfl ?_ ?_ ?_ ?_ ?_ ?_)
            · exact cell_ten wc
            · intro u hu; simp at hu; subst hu; rfl
            · unfold maxLen; omega
            · omega
            · have := HBc.out.size; simp; omega
            intro v4 w4 hown4 hgrow4 hnil4
            have HB4 := Lib.hid ((HBc.out.alloc HBc.out.size _).grown hgrow4 (by have := HBc.out.size; simp; omega) (fun k hk => (HOc.out.lt k hk).1))
            have HO4 : Hid (w4.ownsRow w.heap.size 5 1 v4 (textK l k ++ ([58, 76] ++ Lib.itoa (k : Int) ++ [10])).length (Lib.byteCells (textK l k ++ ([58, 76] ++ Lib.itoa (k : Int) ++ [10])))) := Lib.hid (own_text hown4 (by
              rw [List.length_append, List.length_append, List.length_append]
              simp; omega) (by
              rw [Lib.byteCells_append, Lib.byteCells_append, Lib.byteCells_append]
              simp only [List.append_assoc]
              rfl))
            clear hown4 hgrow4 hnil4
            have hpl : (textK l k ++ ([58, 76] ++ Lib.itoa (k : Int) ++ [10])).length ≤ 200000 := by rw [List.length_append, List.length_append, List.length_append]; simp; omega
            by_cases hlk : k < l.length
            · obtain ⟨a0, a1, a2, a3⟩ := HC.out k hlk
              have b0 := (HB4.out.cell (p := ⟨g, kk + k * 4, none⟩) HG.out).trans a0
              have b1 := (HB4.out.cell (p := ⟨g, kk + k * 4 + 1, none⟩) HG.out).trans a1
              have b2 := (HB4.out.cell (p := ⟨g, kk + k * 4 + 2, none⟩) HG.out).trans a2
              have b3 := (HB4.out.cell (p := ⟨g, kk + k * 4 + 3, none⟩) HG.out).trans a3
              clear a0 a1 a2 a3
              have hok := okAt_ok (HAL.out k hlk)
              generalize hi : l[k] = i at b0 b1 b2 b3 hok
              obtain ⟨op, a, b, c⟩ := i
              have HI := Lib.hid hi
              have hll := lineOf_len hok
              have HOK := Lib.hid hok
              clear hi hok
              dsimp only at b0 b1 b2 b3
              have hkI : (k : Int) < (l.length : Int) := by omega
              go_wp2_with (first
                | (go_at_call 12; refine (rline_ok HOK.out _).mono ?_; rintro e w5 ⟨rfl, hb5⟩; have HB5 := Lib.hid (HB4.out.trans (hb5.mono HB4.out.size)); have HO5 := Lib.hid (own_lift HO4.out hb5); clear hb5 b0 b1 b2 b3)
                | (at_builtin; refine Lib.wpList_append_own_string _ rfl (.tmp 72) (.tmp 73) 43 9 rfl w.heap.size 5 i0 Tryd.underlying43 Tryd.underlying9 hi0 hz0 hz1 hz2 _ _ _ rfl HO5.out _ rfl ?_ ?_ ?_ ?_))
              · unfold maxLen; rw [mk_size]; omega
              · rw [mk_size]; omega
              · exact HB5.out.size
              intro v6 w6 hown6 hgrow6 hnil6
              have HO6 : Hid (w6.ownsRow w.heap.size 5 1 v6 ((textK l k ++ ([58, 76] ++ Lib.itoa (k : Int) ++ [10])).length + (lineOf (op, a, b, c)).length) (Lib.byteCells (textK l k ++ ([58, 76] ++ Lib.itoa (k : Int) ++ [10])) ++ Lib.byteCells (lineOf (op, a, b, c)))) := Lib.hid (own_text hown6 (by simp) (by simp [Lib.strCells_toArray]))
              have HB6 := Lib.hid (HB5.out.grown hgrow6 HB5.out.size (fun k hk => (HO5.out.lt k hk).1))
              clear hown6 hgrow6 hnil6
              go_wp2_with (at_builtin; refine wpList_append_own _ rfl (.tmp 74) (.tmp 75) 43 rfl w.heap.size 5 i0 (.int .u8 0) 1 1 Tryd.underlying43 hi0 hz0 hz1 hz2 rfl (by decide) _ _ _ rfl (HO6.out.alloc _) ⟨w6.heap.size, 0, none⟩ 1 1 [.int .u8 10] rfl rfl ?_ ?_ ?_ ?_ ?_ ?_)
              · exact cell_ten w6
              · intro u hu; simp at hu; subst hu; rfl
              · unfold maxLen; omega
              · omega
              · have := HB6.out.size; simp; omega
              intro v7 w7 hown7 hgrow7 hnil7
              have HO7 := Lib.hid hown7
              have HB7 := Lib.hid ((HB6.out.alloc HB6.out.size _).grown hgrow7 (by have := HB6.out.size; simp; omega) (fun k hk => (HO6.out.lt k hk).1))
              clear hown7 hgrow7 hnil7
              go_wp2
              go_roundw
              case rel => exact ⟨k + 1, by omega, by go_num, HB7.out, by
                rw [text_step (pre := textK l k ++ ([58, 76] ++ Lib.itoa (k : Int) ++ [10])) (by rw [if_pos hp]) hlk HI.out]
                exact own_text HO7.out (by rw [List.length_append, List.length_append]; simp; omega) (by simp [Lib.byteCells])⟩
              case measure => simp [intOf]; omega
            · have hkI : ¬ (k : Int) < (l.length : Int) := by omega
              go_wp2
              go_roundw
              case rel => exact ⟨k + 1, by omega, by go_num, HB4.out, by
                rw [text_last (pre := textK l k ++ ([58, 76] ++ Lib.itoa (k : Int) ++ [10])) (by rw [if_pos hp]) hlk]
                exact HO4.out⟩
              case measure => simp [intOf]; omega
          · have hpd : decide (0 < cntAt l k) = false := decide_eq_false hp
            have HPD := Lib.hid hpd
            clear hpd
            have hpl : (textK l k).length ≤ 200000 := by omega
            by_cases hlk : k < l.length
            · obtain ⟨a0, a1, a2, a3⟩ := HC.out k hlk
              have hok := okAt_ok (HAL.out k hlk)
              have hgr : g < wr.heap.size := Nat.lt_of_lt_of_le HG.out HB2'.out.size
              have hst : ∀ w2 : World, Below wr.heap.size wr w2 → w2.cell? ⟨g, kk + k * 4, none⟩ = some (.int .i64 l[k].1) ∧ w2.cell? ⟨g, kk + k * 4 + 1, none⟩ = some (.int .i64 l[k].2.1) ∧ w2.cell? ⟨g, kk + k * 4 + 2, none⟩ = some (.int .i64 l[k].2.2.1) ∧ w2.cell? ⟨g, kk + k * 4 + 3, none⟩ = some (.int .i64 l[k].2.2.2) := by
                intro w2 hb
                have hbb := HB2'.out
                exact ⟨(hb.cell (p := ⟨g, kk + k * 4, none⟩) hgr).trans ((hbb.cell (p := ⟨g, kk + k * 4, none⟩) HG.out).trans a0), (hb.cell (p := ⟨g, kk + k * 4 + 1, none⟩) hgr).trans ((hbb.cell (p := ⟨g, kk + k * 4 + 1, none⟩) HG.out).trans a1),
                  (hb.cell (p := ⟨g, kk + k * 4 + 2, none⟩) hgr).trans ((hbb.cell (p := ⟨g, kk + k * 4 + 2, none⟩) HG.out).trans a2), (hb.cell (p := ⟨g, kk + k * 4 + 3, none⟩) hgr).trans ((hbb.cell (p := ⟨g, kk + k * 4 + 3, none⟩) HG.out).trans a3)⟩
              clear a0 a1 a2 a3
              generalize hi : l[k] = i at hst hok
              obtain ⟨op, a, b, c⟩ := i
              have HI := Lib.hid hi
              have hll := lineOf_len hok
              have HOK := Lib.hid hok
              have HST := Lib.hid hst
              clear hi hok hst hgr
              have hkI : (k : Int) < (l.length : Int) := by omega
              go_wp2_with (first
                | (go_at_call 24; refine (aimed_eq HPD.out _ (HV.out.on HB2'.out (Nat.le_refl _)) (by omega)).mono ?_; rintro e w2 ⟨rfl, hb⟩; obtain ⟨c0, c1, c2, c3⟩ := HST.out w2 hb; have HB2 := Lib.hid (HB2'.out.trans (hb.mono HB2'.out.size)); have HO2 := Lib.hid (own_lift HO2'.out hb); clear hb)
                | (go_at_call 12; refine (rline_ok HOK.out _).mono ?_; rintro e w5 ⟨rfl, hb5⟩; have HB5 := Lib.hid (HB2.out.trans (hb5.mono HB2.out.size)); have HO5 := Lib.hid (own_lift HO2.out hb5); clear hb5)
                | (at_builtin; refine Lib.wpList_append_own_string _ rfl (.tmp 72) (.tmp 73) 43 9 rfl w.heap.size 5 i0 Tryd.underlying43 Tryd.underlying9 hi0 hz0 hz1 hz2 _ _ _ rfl HO5.out _ rfl ?_ ?_ ?_ ?_))
              · unfold maxLen; rw [mk_size]; omega
              · rw [mk_size]; omega
              · exact HB5.out.size
              intro v6 w6 hown6 hgrow6 hnil6
              have HO6 : Hid (w6.ownsRow w.heap.size 5 1 v6 ((textK l k).length + (lineOf (op, a, b, c)).length) (Lib.byteCells (textK l k) ++ Lib.byteCells (lineOf (op, a, b, c)))) := Lib.hid (own_text hown6 (by simp) (by simp [Lib.strCells_toArray]))
              have HB6 := Lib.hid (HB5.out.grown hgrow6 HB5.out.size (fun k hk => (HO5.out.lt k hk).1))
              clear hown6 hgrow6 hnil6
              go_wp2_with (at_builtin; refine wpList_append_own _ rfl (.tmp 74) (.tmp 75) 43 rfl w.heap.size 5 i0 (.int .u8 0) 1 1 Tryd.underlying43 hi0 hz0 hz1 hz2 rfl (by decide) _ _ _ rfl (HO6.out.alloc _) ⟨w6.heap.size, 0, none⟩ 1 1 [.int .u8 10] rfl rfl ?_ ?_ ?_ ?_ ?_ ?_)
              · exact cell_ten w6
              · intro u hu; simp at hu; subst hu; rfl
              · unfold maxLen; omega
              · omega
              · have := HB6.out.size; simp; omega
              intro v7 w7 hown7 hgrow7 hnil7
              have HO7 := Lib.hid hown7
              have HB7 := Lib.hid ((HB6.out.alloc HB6.out.size _).grown hgrow7 (by have := HB6.out.size; simp; omega) (fun k hk => (HO6.out.lt k hk).1))
              clear hown7 hgrow7 hnil7
              go_wp2
              go_roundw
              case rel => exact ⟨k + 1, by omega, by go_num, HB7.out, by
                rw [text_step (pre := textK l k) (by rw [if_neg hp, List.append_nil]) hlk HI.out]
                exact own_text HO7.out (by rw [List.length_append, List.length_append]; simp; omega) (by simp [Lib.byteCells])⟩
              case measure => simp [intOf]; omega
            · have hkI : ¬ (k : Int) < (l.length : Int) := by omega
              go_wp2_with (go_at_call 24; refine (aimed_eq HPD.out _ (HV.out.on HB2'.out (Nat.le_refl _)) (by omega)).mono ?_; rintro e w2 ⟨rfl, hb⟩; have HB2 := Lib.hid (HB2'.out.trans (hb.mono HB2'.out.size)); have HO2 := Lib.hid (own_lift HO2'.out hb); clear hb)
              go_roundw
              case rel => exact ⟨k + 1, by omega, by go_num, HB2.out, by
                rw [text_last (pre := textK l k) (by rw [if_neg hp, List.append_nil]) hlk]
                exact HO2.out⟩
              case measure => simp [intOf]; omega
        · obtain rfl : k = l.length + 1 := by omega
          have hI : ¬ ((l.length : Int) + 1 ≤ (l.length : Int)) := by omega
          have hcv := own_str HO2'.out
          go_wp2
          go_ret2
          exact ⟨ret_print (print_good hn HAL.out), HB2'.out⟩
set_option maxRecDepth 100000 in
set_option maxHeartbeats 4000000 in
theorem rprint_nil (ao : Option Addr) (cap : Nat) (w : World) :
    Calls Tryd.prog 10 #[.slice ao 0 cap] w fun e w' => e = .returned (.tuple #[.string ⟨#[]⟩, .int .i64 0]) ∧ Below w.heap.size w w' := by
  have hcv : ∀ w : World, (convert 43 9 (.slice none 0 0)).run Tryd.prog w = .ok (.string ⟨#[]⟩) w := fun w => own_str (t := []) (B := 0) (World.ownsRow_nil _ _ _ _)
  go_enter Tryd.func10, Tryd.ntmps10
  go_wp2
  refine wp_loop_rounds 1 ?_
  rw [rounds_succ]
  go_wp2
  refine wp_loop_rounds 2 ?_
  rw [rounds_succ]
  go_wp2_with (go_at_call 24; refine (aimed_nil ao cap 0 _).mono ?_; rintro e w1 ⟨rfl, hb1⟩)
  rw [rounds_succ]
  go_wp2
  go_ret2
  exact ⟨rfl, hb1⟩
theorem rprint_any (v : Value) (l : List Ins) (w : World) (h : InsAt w v l) :
    Calls Tryd.prog 10 #[v] w fun e w' => e = .returned (.tuple #[.string ⟨(printL l).1.toArray⟩, .int .i64 (printL l).2]) ∧ Below w.heap.size w w' := by
  by_cases hn : 512 < l.length
  · obtain ⟨ao, cap, rfl, _⟩ := h
    have hp : printL l = ([], 3) := by unfold printL; rw [if_pos hn]
    rw [hp]
    exact rprint_long ao l.length cap w (by omega)
  · by_cases h0 : l = []
    · subst h0
      obtain ⟨ao, cap, rfl, _⟩ := h
      exact rprint_nil ao cap w
    · have hv := h
      obtain ⟨g, kk, cap, rfl, hg, hc⟩ := h.cells h0
      exact rprint_some l g kk cap w (by omega) hg hc hv
theorem rprint_eq {v : Value} {l : List Ins} {t : Bs} {er : Int} (h : printL l = (t, er)) (w : World) (hv : InsAt w v l) :
    Calls Tryd.prog 10 #[v] w fun e w' => e = .returned (.tuple #[.string ⟨t.toArray⟩, .int .i64 er]) ∧ Below w.heap.size w w' := by
  refine (rprint_any v l w hv).mono ?_
  rw [h]
  exact fun e w' h => h
end Go.Proofs.YtcamimfepcoggaaDoor
