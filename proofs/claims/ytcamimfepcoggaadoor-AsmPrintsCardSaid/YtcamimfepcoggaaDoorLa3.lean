/- The walk of the law AsmPrints: true of every program and every instruction. -/
import Derived.Test.YtcamimfepcoggaaDoorRf6
import Derived.Test.YtcamimfepcoggaaDoorLa7
namespace Go.Proofs.YtcamimfepcoggaaDoor
open Go.RowKit
theorem rline_bad {op a b c : Int} (w : World) (h : insOk (op, a, b, c) = false) :
    Calls Tryd.prog 12 #[insV op a b c] w fun e w' => e = .returned (.tuple #[.string ⟨#[]⟩, .int .i64 100]) ∧ Below w.heap.size w w' :=
  rline_no op a b c h w
theorem ins_kept {w w1 w2 : World} {op a b c : Int} (h : w1.heap[w.heap.size]? = some (.cells #[.int .i64 op, .int .i64 a, .int .i64 b, .int .i64 c] 25 (0, 0))) (hb : Below w1.heap.size w1 w2) :
    w2.heap[w.heap.size]? = some (.cells #[.int .i64 op, .int .i64 a, .int .i64 b, .int .i64 c] 25 (0, 0)) :=
  (hb.block w.heap.size (Array.getElem?_eq_some_iff.1 h).1).trans h
theorem ins_read {w w1 : World} {op a b c : Int} (h : w1.heap[w.heap.size]? = some (.cells #[.int .i64 op, .int .i64 a, .int .i64 b, .int .i64 c] 25 (0, 0))) :
    w1.cell? ⟨w.heap.size, 0, none⟩ = some (.int .i64 op) ∧ w1.cell? ⟨w.heap.size, 1, none⟩ = some (.int .i64 a) ∧ w1.cell? ⟨w.heap.size, 2, none⟩ = some (.int .i64 b) ∧ w1.cell? ⟨w.heap.size, 3, none⟩ = some (.int .i64 c) :=
  ⟨by rw [Lib.cell_of_heap h]; rfl, by rw [Lib.cell_of_heap h]; rfl, by rw [Lib.cell_of_heap h]; rfl, by rw [Lib.cell_of_heap h]; rfl⟩
set_option maxRecDepth 100000 in
set_option maxHeartbeats 8000000 in
theorem prints_walk (ao : Option Addr) (cap : Nat) (l : List Ins) (op a b c : Int) (w : World) (hE : Env w) (hv : InsAt w (.slice ao l.length cap) l) (hc : l.length ≤ cap) :
    Calls Tryd.prog 3 #[.slice ao l.length cap, insV op a b c] w fun e w' => e = .returned (.bool true) ∧ Below w.heap.size w w' := by
  obtain ⟨w0, hw0⟩ : ∃ w0 : World, w0 = w.alloc (.cells #[.int .i64 op, .int .i64 a, .int .i64 b, .int .i64 c] 25) := ⟨_, rfl⟩
  have hb0 : Below w.heap.size w w0 := by rw [hw0]; exact (Below.refl _ _).alloc (Nat.le_refl _) _
  have hk0 : w0.heap[w.heap.size]? = some (.cells #[.int .i64 op, .int .i64 a, .int .i64 b, .int .i64 c] 25 (0, 0)) := by rw [hw0]; exact heap_alloc_new w _
  have hv0 : InsAt w0 (.slice ao (min l.length 520) cap) (l.take 520) := (hv.on hb0 (Nat.le_refl _)).few
  have HE := Lib.hid hE
  have HC := Lib.hid hc
  have HB0 := Lib.hid hb0
  have HK0 := Lib.hid hk0
  have HV0 := Lib.hid hv0
  have HW := Lib.hid hw0
  clear hE hv hc hb0 hk0 hv0 hw0
  cases hp : printL (l.take 520) with
  | mk t er =>
  have HP := Lib.hid hp
  clear hp
  cases hok : insOk (op, a, b, c) with
  | false =>
    have HOK := Lib.hid hok
    clear hok
    go_enter Tryd.func3, Tryd.ntmps3
    go_wp2_with fail
    rw [← HW.out]
    go_wp2_with (first
      | (go_at_call 8; refine (few_any ao l.length cap _ HC.out).mono ?_; rintro e w1 ⟨rfl, hw⟩; obtain rfl : w0 = w1 := hw.symm; clear hw)
      | (go_at_call 9; refine (print_eq HP.out _ (HE.out.on HB0.out) HV0.out).mono ?_; rintro e w2 ⟨rfl, hb⟩; have HB2 := Lib.hid (HB0.out.trans (hb.mono HB0.out.size)); have HV2 := Lib.hid (HV0.out.on hb (Nat.le_refl _)); have HK2 := Lib.hid (ins_kept HK0.out hb); clear hb)
      | (go_at_call 10; refine (rprint_eq HP.out _ HV2.out).mono ?_; rintro e w3 ⟨rfl, hb⟩; have HB3 := Lib.hid (HB2.out.trans (hb.mono HB2.out.size)); have HK3 := Lib.hid (ins_kept HK2.out hb); obtain ⟨c0, c1, c2, c3⟩ := ins_read HK3.out; clear hb)
      | (go_at_call 11; refine (line_bad _ HOK.out).mono ?_; rintro e w4 ⟨rfl, hb⟩; have HB4 := Lib.hid (HB3.out.trans (hb.mono HB3.out.size)); have HK4 := Lib.hid (ins_kept HK3.out hb); clear c0 c1 c2 c3; obtain ⟨c0, c1, c2, c3⟩ := ins_read HK4.out; clear hb)
      | (go_at_call 12; refine (rline_bad _ HOK.out).mono ?_; rintro e w5 ⟨rfl, hb⟩; have HB5 := Lib.hid (HB4.out.trans (hb.mono HB4.out.size)); clear hb)
      | (go_at_call 13; refine (awake_on HE.out HB5.out).mono ?_; rintro e w6 ⟨rfl, hb⟩; have HB6 := Lib.hid hb; clear hb))
    go_ret
    exact ⟨rfl, HB6.out⟩
  | true =>
    have HOK := Lib.hid hok
    clear hok
    go_enter Tryd.func3, Tryd.ntmps3
    go_wp2_with fail
    rw [← HW.out]
    go_wp2_with (first
      | (go_at_call 8; refine (few_any ao l.length cap _ HC.out).mono ?_; rintro e w1 ⟨rfl, hw⟩; obtain rfl : w0 = w1 := hw.symm; clear hw)
      | (go_at_call 9; refine (print_eq HP.out _ (HE.out.on HB0.out) HV0.out).mono ?_; rintro e w2 ⟨rfl, hb⟩; have HB2 := Lib.hid (HB0.out.trans (hb.mono HB0.out.size)); have HV2 := Lib.hid (HV0.out.on hb (Nat.le_refl _)); have HK2 := Lib.hid (ins_kept HK0.out hb); clear hb)
      | (go_at_call 10; refine (rprint_eq HP.out _ HV2.out).mono ?_; rintro e w3 ⟨rfl, hb⟩; have HB3 := Lib.hid (HB2.out.trans (hb.mono HB2.out.size)); have HK3 := Lib.hid (ins_kept HK2.out hb); obtain ⟨c0, c1, c2, c3⟩ := ins_read HK3.out; clear hb)
      | (go_at_call 11; refine (line_ok _ (HE.out.on HB3.out) HOK.out).mono ?_; rintro e w4 ⟨rfl, hb⟩; have HB4 := Lib.hid (HB3.out.trans (hb.mono HB3.out.size)); have HK4 := Lib.hid (ins_kept HK3.out hb); clear c0 c1 c2 c3; obtain ⟨c0, c1, c2, c3⟩ := ins_read HK4.out; clear hb)
      | (go_at_call 12; refine (rline_ok HOK.out _).mono ?_; rintro e w5 ⟨rfl, hb⟩; have HB5 := Lib.hid (HB4.out.trans (hb.mono HB4.out.size)); clear hb)
      | (go_at_call 13; refine (awake_on HE.out HB5.out).mono ?_; rintro e w6 ⟨rfl, hb⟩; have HB6 := Lib.hid hb; clear hb))
    go_ret
    exact ⟨rfl, HB6.out⟩
end Go.Proofs.YtcamimfepcoggaaDoor
