/- The walks of the reference's Is, Names, Name, Num, operand. -/
import Derived.Test.YtcamimfepcoggaaDoorRf1
import Derived.Laws.BytesArg
import Derived.Deep.RegionLaw
namespace Go.Proofs.YtcamimfepcoggaaDoor
open Go.RowKit
theorem rhas_eq {op f0 f1 f2 : Int} {nm : Bs} {v : Bool} (h : formOf op = (nm, f0, f1, f2)) (ho : isOp op = v) (w : World) :
    Calls Tryd.prog 29 #[.int .i64 op] w fun e w' => e = .returned (.tuple #[.agg #[.int .i64 f0, .int .i64 f1, .int .i64 f2], .bool v]) ∧ Below w.heap.size w w' := by
  refine (rhas_any op w).mono ?_
  rintro e w' ⟨rfl, hb⟩
  refine ⟨?_, hb⟩
  unfold hasV
  rw [h, ho]
theorem rfits_eq {s n f : Int} {v : Bool} (h : fitsB s n f = v) (hs : 0 ≤ s ∧ s ≤ 6) (w : World) :
    Calls Tryd.prog 37 #[.int .i64 s, .int .i64 n, .int .i64 f] w fun e w' => e = .returned (.bool v) ∧ w = w' := by
  rw [← h]
  refine (rfits_any s n f hs w).mono ?_
  rintro e w' ⟨rfl, rfl⟩
  exact ⟨rfl, rfl⟩
theorem ris_pre {W w1 : World} {op a b c : Int} (hb1 : Below (W.alloc (.cells #[.int .i64 op, .int .i64 a, .int .i64 b, .int .i64 c] 25)).heap.size (W.alloc (.cells #[.int .i64 op, .int .i64 a, .int .i64 b, .int .i64 c] 25)) w1) :
    (w1.cell? ⟨W.heap.size, 0, none⟩ = some (.int .i64 op) ∧ w1.cell? ⟨W.heap.size, 1, none⟩ = some (.int .i64 a) ∧ w1.cell? ⟨W.heap.size, 2, none⟩ = some (.int .i64 b) ∧ w1.cell? ⟨W.heap.size, 3, none⟩ = some (.int .i64 c)) ∧ W.heap.size < w1.heap.size ∧ Below W.heap.size W w1 := by
  refine ⟨i25 W w1 op a b c hb1, ?_, ((Below.refl W.heap.size W).alloc (Nat.le_refl _) _).trans (hb1.mono (by simp))⟩
  have := hb1.size
  simp at this
  omega
set_option maxRecDepth 100000 in
set_option maxHeartbeats 4000000 in
theorem ris_a (op a b c f0 f1 f2 : Int) (nm : Bs) (hf : formOf op = (nm, f0, f1, f2)) (ho : isOp op = false) (w : World) :
    Calls Tryd.prog 23 #[insV op a b c] w fun e w' => e = .returned (.bool false) ∧ Below w.heap.size w w' := by
  have HF := Lib.hid hf
  have HO := Lib.hid ho
  clear hf ho
  go_enter Tryd.func23, Tryd.ntmps23
  go_wp2_with (go_at_call 29; refine (rhas_eq HF.out HO.out _).mono ?_; rintro e w1 ⟨rfl, hb1⟩; obtain ⟨⟨c0, c1, c2, c3⟩, hz, hb⟩ := ris_pre hb1; have HB1 := Lib.hid hb; clear hb1 hb)
  go_ret
  exact ⟨rfl, HB1.out.alloc HB1.out.size _⟩
set_option maxRecDepth 100000 in
set_option maxHeartbeats 4000000 in
theorem ris_b (op a b c f0 f1 f2 : Int) (nm : Bs) (hf : formOf op = (nm, f0, f1, f2)) (ho : isOp op = true) (s0 : 0 ≤ f0 ∧ f0 ≤ 6) (h0 : fitsB f0 a 0 = false) (w : World) :
    Calls Tryd.prog 23 #[insV op a b c] w fun e w' => e = .returned (.bool false) ∧ Below w.heap.size w w' := by
  have HF := Lib.hid hf
  have HO := Lib.hid ho
  have H0 := Lib.hid h0
  have S0 := Lib.hid s0
  clear hf ho h0 s0
  go_enter Tryd.func23, Tryd.ntmps23
  go_wp2_with (first
    | (go_at_call 29; refine (rhas_eq HF.out HO.out _).mono ?_; rintro e w1 ⟨rfl, hb1⟩; obtain ⟨⟨c0, c1, c2, c3⟩, hz, hb⟩ := ris_pre hb1; have HB1 := Lib.hid hb; clear hb1 hb)
    | (go_at_call 37; refine (rfits_eq H0.out S0.out _).mono ?_; rintro e w2 ⟨rfl, rfl⟩))
  go_ret
  exact ⟨rfl, HB1.out.alloc HB1.out.size _⟩
set_option maxRecDepth 100000 in
set_option maxHeartbeats 4000000 in
theorem ris_c (op a b c f0 f1 f2 : Int) (nm : Bs) (hf : formOf op = (nm, f0, f1, f2)) (ho : isOp op = true) (s0 : 0 ≤ f0 ∧ f0 ≤ 6) (h0 : fitsB f0 a 0 = true) (s1 : 0 ≤ f1 ∧ f1 ≤ 6) (h1 : fitsB f1 b 0 = false) (w : World) :
    Calls Tryd.prog 23 #[insV op a b c] w fun e w' => e = .returned (.bool false) ∧ Below w.heap.size w w' := by
  have HF := Lib.hid hf
  have HO := Lib.hid ho
  have H0 := Lib.hid h0
  have S0 := Lib.hid s0
  have H1 := Lib.hid h1
  have S1 := Lib.hid s1
  clear hf ho h0 s0 h1 s1
  have M0 := Lib.hid trivial
  have M1 := Lib.hid trivial
  go_enter Tryd.func23, Tryd.ntmps23
  go_wp2_with (first
    | (go_at_call 29; refine (rhas_eq HF.out HO.out _).mono ?_; rintro e w1 ⟨rfl, hb1⟩; obtain ⟨⟨c0, c1, c2, c3⟩, hz, hb⟩ := ris_pre hb1; have HB1 := Lib.hid hb; clear hb1 hb)
    | (go_at_call 37; have hone := M0; refine (rfits_eq H0.out S0.out _).mono ?_; rintro e w2 ⟨rfl, rfl⟩; clear M0 hone)
    | (go_at_call 37; have hone := M1; refine (rfits_eq H1.out S1.out _).mono ?_; rintro e w2 ⟨rfl, rfl⟩; clear M1 hone))
  go_ret
  exact ⟨rfl, HB1.out.alloc HB1.out.size _⟩
set_option maxRecDepth 100000 in
set_option maxHeartbeats 4000000 in
theorem ris_d (op a b c f0 f1 f2 : Int) (nm : Bs) (hf : formOf op = (nm, f0, f1, f2)) (ho : isOp op = true) (s0 : 0 ≤ f0 ∧ f0 ≤ 6) (h0 : fitsB f0 a 0 = true) (s1 : 0 ≤ f1 ∧ f1 ≤ 6) (h1 : fitsB f1 b 0 = true) (s2 : 0 ≤ f2 ∧ f2 ≤ 6) (v : Bool) (h2 : fitsB f2 c b = v) (w : World) :
    Calls Tryd.prog 23 #[insV op a b c] w fun e w' => e = .returned (.bool v) ∧ Below w.heap.size w w' := by
  have HF := Lib.hid hf
  have HO := Lib.hid ho
  have H0 := Lib.hid h0
  have S0 := Lib.hid s0
  have H1 := Lib.hid h1
  have S1 := Lib.hid s1
  have H2 := Lib.hid h2
  have S2 := Lib.hid s2
  clear hf ho h0 s0 h1 s1 h2 s2
  have M0 := Lib.hid trivial
  have M1 := Lib.hid trivial
  go_enter Tryd.func23, Tryd.ntmps23
  go_wp2_with (first
    | (go_at_call 29; refine (rhas_eq HF.out HO.out _).mono ?_; rintro e w1 ⟨rfl, hb1⟩; obtain ⟨⟨c0, c1, c2, c3⟩, hz, hb⟩ := ris_pre hb1; have HB1 := Lib.hid hb; clear hb1 hb)
    | (go_at_call 37; have hone := M0; refine (rfits_eq H0.out S0.out _).mono ?_; rintro e w2 ⟨rfl, rfl⟩; clear M0 hone)
    | (go_at_call 37; have hone := M1; refine (rfits_eq H1.out S1.out _).mono ?_; rintro e w2 ⟨rfl, rfl⟩; clear M1 hone)
    | (go_at_call 37; refine (rfits_eq H2.out S2.out _).mono ?_; rintro e w2 ⟨rfl, rfl⟩))
  go_ret
  exact ⟨rfl, HB1.out.alloc HB1.out.size _⟩
theorem ris_any (op a b c : Int) (w : World) :
    Calls Tryd.prog 23 #[insV op a b c] w fun e w' => e = .returned (.bool (insOk (op, a, b, c))) ∧ Below w.heap.size w w' := by
  obtain ⟨s0, s1, s2⟩ := form_sorts op
  cases hf : formOf op with
  | mk nm r =>
  obtain ⟨f0, f1, f2⟩ := r
  rw [hf] at s0 s1 s2
  dsimp only at s0 s1 s2
  have hok : insOk (op, a, b, c) = (isOp op && fitsB f0 a 0 && fitsB f1 b 0 && fitsB f2 c b) := by
    simp only [insOk, hf]
  rw [hok]
  cases ho : isOp op with
  | false => exact ris_a op a b c f0 f1 f2 nm hf ho w
  | true =>
    cases h0 : fitsB f0 a 0 with
    | false => exact ris_b op a b c f0 f1 f2 nm hf ho s0 h0 w
    | true =>
      cases h1 : fitsB f1 b 0 with
      | false => exact ris_c op a b c f0 f1 f2 nm hf ho s0 h0 s1 h1 w
      | true => exact ris_d op a b c f0 f1 f2 nm hf ho s0 h0 s1 h1 s2 _ rfl w
theorem ris_eq {op a b c : Int} {v : Bool} (h : insOk (op, a, b, c) = v) (w : World) :
    Calls Tryd.prog 23 #[insV op a b c] w fun e w' => e = .returned (.bool v) ∧ Below w.heap.size w w' := by
  rw [← h]
  exact ris_any op a b c w
/-- The names as they lie. -/
def namesL : List Value := (List.range 21).map fun k => .string ⟨(nmAt k).toArray⟩
theorem rnames_any (w : World) : Calls Tryd.prog 38 #[] w fun e w' => e = .returned (.slice (some ⟨w.heap.size, 0, none⟩) 21 21) ∧ w' = w.alloc (.cells namesL.toArray 9) := by
  go_enter Tryd.func38, Tryd.ntmps38
  go_wp2
  go_ret
  exact ⟨rfl, rfl⟩
theorem name_form {op : Int} (h1 : 1 ≤ op) (h2 : op ≤ 20) : nmAt op.toNat = (formOf op).1 := by
  unfold nmAt formOf
  rw [if_pos ⟨h1, h2⟩]
set_option maxRecDepth 100000 in
theorem rname_any (op : Int) (h1 : 1 ≤ op) (h2 : op ≤ 20) (w : World) : Calls Tryd.prog 30 #[.int .i64 op] w fun e w' => e = .returned (.string ⟨((formOf op).1).toArray⟩) ∧ Below w.heap.size w w' := by
  have hnm := name_form h1 h2
  obtain ⟨n, rfl⟩ := Int.eq_ofNat_of_zero_le (show 0 ≤ op by omega)
  have hn : n < 21 := by omega
  have hc : (w.alloc (.cells namesL.toArray 9)).cell? ⟨w.heap.size, n, none⟩ = some (.string ⟨((formOf (n : Int)).1).toArray⟩) := by
    rw [Lib.cell_of_heap (heap_alloc_new w _), ← hnm]
    unfold namesL
    simp [hn]
  have hnI : (n : Int) < 21 := by omega
  generalize (formOf (n : Int)).1 = nm at hc
  clear hnm
  go_enter Tryd.func30, Tryd.ntmps30
  go_wp2_with (go_at_call 38; refine (rnames_any _).mono ?_; rintro e w2 ⟨rfl, rfl⟩)
  go_ret
  exact ⟨rfl, (Below.refl _ _).alloc (Nat.le_refl _) _⟩
end Go.Proofs.YtcamimfepcoggaaDoor
