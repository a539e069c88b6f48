/- The walk of the law AsmAlone: true of every instruction. -/
import Derived.Test.YtcamimfepcoggaaDoorLw2
namespace Go.Proofs.YtcamimfepcoggaaDoor
open Go.RowKit
theorem parse_at {s : ByteArray} {l : List Ins} {n er : Int} (h : parseL s.data.toList = (l, n, er)) (w : World) (hE : Env w) :
    Calls Tryd.prog 15 #[.string s] w fun e w' => (∃ v, e = .returned (.tuple #[v, .int .i64 n, .int .i64 er]) ∧ InsAt w' v l) ∧ Below w.heap.size w w' := by
  have := parse_eq h w hE
  rw [back] at this
  exact this
theorem awake_on {w w' : World} (hE : Env w) (hb : Below w.heap.size w w') :
    Calls Tryd.prog 13 #[] w' fun e w'' => e = .returned (.bool true) ∧ Below w.heap.size w w'' := by
  refine (awake_any w' (hE.on hb)).mono ?_
  rintro e w'' ⟨rfl, h⟩
  exact ⟨rfl, hb.trans (h.mono hb.size)⟩
theorem ins_cells {w w1 : World} {op a b c : Int} (hb1 : Below (w.alloc (.cells #[.int .i64 op, .int .i64 a, .int .i64 b, .int .i64 c] 25)).heap.size (w.alloc (.cells #[.int .i64 op, .int .i64 a, .int .i64 b, .int .i64 c] 25)) w1) :
    w1.heap[w.heap.size]? = some (.cells #[.int .i64 op, .int .i64 a, .int .i64 b, .int .i64 c] 25 (0, 0)) := (hb1.block w.heap.size (by simp)).trans (heap_alloc_new w _)
theorem line_bad {op a b c : Int} (w : World) (h : insOk (op, a, b, c) = false) :
    Calls Tryd.prog 11 #[insV op a b c] w fun e w' => e = .returned (.tuple #[.string ⟨#[]⟩, .int .i64 100]) ∧ Below w.heap.size w w' :=
  line_no op a b c w h
set_option maxRecDepth 100000 in
set_option maxHeartbeats 4000000 in
theorem alone_walk (op a b c : Int) (w : World) (hE : Env w) :
    Calls Tryd.prog 7 #[insV op a b c] w fun e w' => e = .returned (.bool true) ∧ Below w.heap.size w w' := by
  have HE := Lib.hid hE
  have HE0 : Hid (Env (w.alloc (.cells #[.int .i64 op, .int .i64 a, .int .i64 b, .int .i64 c] 25))) := Lib.hid (hE.on ((Below.refl _ _).alloc (Nat.le_refl _) _))
  clear hE
  cases hok : insOk (op, a, b, c) with
  | false =>
    go_enter Tryd.func7, Tryd.ntmps7
    go_wp2_with (go_at_call 11; refine (line_bad _ hok).mono ?_)
    rintro e w1 ⟨rfl, hb1⟩
    have hb1' : Below w.heap.size w w1 := ((Below.refl w.heap.size w).alloc (Nat.le_refl _) _).trans (hb1.mono (by simp))
    have HB1 := Lib.hid hb1'
    clear hb1 hb1' hok
    go_wp2_with (go_at_call 13; refine (awake_on HE.out HB1.out).mono ?_)
    rintro e w2 ⟨rfl, hb2⟩
    have HB2 := Lib.hid hb2
    clear hb2
    go_wp2
    go_ret
    exact ⟨rfl, HB2.out⟩
  | true =>
    go_enter Tryd.func7, Tryd.ntmps7
    go_wp2_with (go_at_call 11; refine (line_ok _ HE0.out hok).mono ?_)
    rintro e w1 ⟨rfl, hb1⟩
    have hb1' : Below w.heap.size w w1 := ((Below.refl w.heap.size w).alloc (Nat.le_refl _) _).trans (hb1.mono (by simp))
    have hk1 := ins_cells hb1
    have HB1 := Lib.hid hb1'
    have HOK := Lib.hid hok
    have HK1 := Lib.hid hk1
    clear hb1 hb1' hok hk1
    have hz : (lineOf (op, a, b, c)).length + 1 ≤ 9223372036854775807 := by have := lineOf_len HOK.out; omega
    by_cases hj : op = 8 ∨ op = 9
    · go_wp2_with (go_at_call 15; refine (parse_at (l := []) (n := 1) (er := 130) ?_ _ (HE.out.on HB1.out)).mono ?_)
      · rw [app_data]
        exact alone_jump HOK.out hj
      rintro e w2 ⟨⟨v2, rfl, _⟩, hb2⟩
      have hb2' : Below w.heap.size w w2 := HB1.out.trans (hb2.mono HB1.out.size)
      have hk2 := (hb2.block w.heap.size (Array.getElem?_eq_some_iff.1 HK1.out).1).trans HK1.out
      have c0 := Lib.cell_of_heap hk2 0
      simp at c0
      have HB2 := Lib.hid hb2'
      clear hb2 hb2' hk2
      rcases hj with rfl | rfl
      · go_wp2_with (go_at_call 13; refine (awake_on HE.out HB2.out).mono ?_)
        rintro e w3 ⟨rfl, hb3⟩
        have HB3 := Lib.hid hb3
        clear hb3
        go_wp2
        go_ret
        exact ⟨rfl, HB3.out⟩
      · go_wp2_with (go_at_call 13; refine (awake_on HE.out HB2.out).mono ?_)
        rintro e w3 ⟨rfl, hb3⟩
        have HB3 := Lib.hid hb3
        clear hb3
        go_wp2
        go_ret
        exact ⟨rfl, HB3.out⟩
    · have h8 : ¬ op = 8 := fun e => hj (.inl e)
      have h9 : ¬ op = 9 := fun e => hj (.inr e)
      clear hj
      go_wp2_with (go_at_call 15; refine (parse_at (l := [(op, a, b, c)]) (n := 0) (er := 0) ?_ _ (HE.out.on HB1.out)).mono ?_)
      · rw [app_data]
        exact alone_plain HOK.out h8 h9
      rintro e w2 ⟨⟨v2, rfl, hv2⟩, hb2⟩
      have hb2' : Below w.heap.size w w2 := HB1.out.trans (hb2.mono HB1.out.size)
      have hk2 := (hb2.block w.heap.size (Array.getElem?_eq_some_iff.1 HK1.out).1).trans HK1.out
      have c0 := Lib.cell_of_heap hk2 0
      have c1 := Lib.cell_of_heap hk2 1
      have c2 := Lib.cell_of_heap hk2 2
      have c3 := Lib.cell_of_heap hk2 3
      simp at c0 c1 c2 c3
      have e8 : (op == 8) = false := by simpa using h8
      have e9 : (op == 9) = false := by simpa using h9
      have HB2 := Lib.hid hb2'
      have HV2 := Lib.hid hv2
      clear hb2 hb2' hk2 hv2
      go_wp2_with (first
        | (go_at_call 16; refine (same_true _ (HV2.out.on ((Below.refl w2.heap.size w2).alloc (Nat.le_refl _) _) (Nat.le_refl _)) (insAt_new w2 [(op, a, b, c)] 1) (by simp)).mono ?_))
      rintro e w3 ⟨rfl, hb3⟩
      have hb3' : Below w.heap.size w w3 := (HB2.out.alloc HB2.out.size _).trans (hb3.mono (by have := HB2.out.size; simp; omega))
      have HB3 := Lib.hid hb3'
      clear hb3 hb3'
      go_wp2_with (go_at_call 13; refine (awake_on HE.out HB3.out).mono ?_)
      rintro e w4 ⟨rfl, hb4⟩
      have HB4 := Lib.hid hb4
      clear hb4
      go_wp2
      go_ret
      exact ⟨rfl, HB4.out⟩
end Go.Proofs.YtcamimfepcoggaaDoor
