/- The walk of the reference's Line. -/
import Derived.Test.YtcamimfepcoggaaDoorRf3
import Derived.Deep.RegionHeld3
namespace Go.Proofs.YtcamimfepcoggaaDoor
open Go.RowKit
theorem operand_part {f s n : Int} (hp : pair f s = true) (hf : f ≠ 0) : operandT f n = 32 :: wordOf s n := by
  unfold pair at hp
  simp at hp
  unfold operandT wordOf
  rw [if_neg hf]
  rcases hp with ((h0 | ⟨h1, h2⟩) | ⟨h1, h2⟩) | ⟨h1, h2⟩
  · exact absurd h0 hf
  · subst h1 h2; rfl
  · subst h1 h2; rfl
  · subst h2
    rw [if_neg (by omega), if_neg (by omega), if_pos rfl]
theorem operand_none (n : Int) : operandT 0 n = [] := rfl
/-- The reference's line is the line. -/
theorem line_same {op a b c f0 f1 f2 : Int} {nm : Bs} (hf : formOf op = (nm, f0, f1, f2)) (h1 : 1 ≤ op) (h2 : op ≤ 20) :
    nm ++ operandT f0 a ++ operandT f1 b ++ operandT f2 c = lineOf (op, a, b, c) := by
  obtain ⟨p0, p1, p2, z0, z1, _⟩ := tab h1 h2
  rw [lineOf_eq]
  have hop : operands op = (if (formOf op).2.1 = 0 then 0 else 1) + (if (formOf op).2.2.1 = 0 then 0 else 1) + (if (formOf op).2.2.2 = 0 then 0 else 1) := rfl
  unfold wordsOf
  dsimp only
  rw [hf] at p0 p1 p2 z0 z1 hop ⊢
  dsimp only at p0 p1 p2 z0 z1 hop ⊢
  by_cases e0 : f0 = 0
  · have e1 := z0 e0
    have e2 := z1 e1
    rw [if_pos e0, if_pos e1, if_pos e2] at hop
    rw [hop, e0, e1, e2]
    simp [operand_none]
  · by_cases e1 : f1 = 0
    · have e2 := z1 e1
      rw [if_neg e0, if_pos e1, if_pos e2] at hop
      rw [hop, e1, e2, operand_part p0 e0]
      simp [operand_none]
    · by_cases e2 : f2 = 0
      · rw [if_neg e0, if_neg e1, if_pos e2] at hop
        rw [hop, e2, operand_part p0 e0, operand_part p1 e1]
        simp [operand_none]
      · rw [if_neg e0, if_neg e1, if_neg e2] at hop
        rw [hop, operand_part p0 e0, operand_part p1 e1, operand_part p2 e2]
        simp
theorem operand_len (f n : Int) (h0 : -9223372036854775808 < n) (h1 : n < 9223372036854775808) : (operandT f n).length ≤ 30 := by
  have := Lib.itoa_length_le n (by omega) (by omega)
  unfold operandT
  split
  · simp
  · split
    · simp; omega
    · split <;> (simp; omega)
theorem fits_strict {s n f : Int} (h : fitsB s n f = true) : -9223372036854775808 < n ∧ n < 9223372036854775808 := by
  unfold fitsB withinB at h
  by_cases h1 : s = 1
  · rw [if_pos h1] at h; simp at h; omega
  · by_cases h2 : s = 2
    · rw [if_neg h1, if_pos h2] at h; simp at h; omega
    · by_cases h3 : s = 3
      · rw [if_neg h1, if_neg h2, if_pos h3] at h; simp at h; omega
      · by_cases h4 : s = 4
        · rw [if_neg h1, if_neg h2, if_neg h3, if_pos h4] at h; simp at h; omega
        · by_cases h5 : s = 5
          · rw [if_neg h1, if_neg h2, if_neg h3, if_neg h4, if_pos h5] at h; simp at h; omega
          · by_cases h6 : s = 6
            · rw [if_neg h1, if_neg h2, if_neg h3, if_neg h4, if_neg h5, if_pos h6] at h
              simp at h
              have := two_pow_le f h.1.1 h.1.2
              omega
            · rw [if_neg h1, if_neg h2, if_neg h3, if_neg h4, if_neg h5, if_neg h6] at h
              simp at h; omega
theorem keep_cells {B G : Nat} {op a b c f0 f1 f2 : Int} {w w1 w2 : World}
    (h : w1.cell? ⟨B, 0, none⟩ = some (.int .i64 op) ∧ w1.cell? ⟨B, 1, none⟩ = some (.int .i64 a) ∧ w1.cell? ⟨B, 2, none⟩ = some (.int .i64 b) ∧ w1.cell? ⟨B, 3, none⟩ = some (.int .i64 c) ∧ w1.cell? ⟨G, 0, none⟩ = some (.int .i64 f0) ∧ w1.cell? ⟨G, 1, none⟩ = some (.int .i64 f1) ∧ w1.cell? ⟨G, 2, none⟩ = some (.int .i64 f2) ∧ B < w1.heap.size ∧ G < w1.heap.size ∧ Below w.heap.size w w1)
    (hb : Below w1.heap.size w1 w2) :
    w2.cell? ⟨B, 0, none⟩ = some (.int .i64 op) ∧ w2.cell? ⟨B, 1, none⟩ = some (.int .i64 a) ∧ w2.cell? ⟨B, 2, none⟩ = some (.int .i64 b) ∧ w2.cell? ⟨B, 3, none⟩ = some (.int .i64 c) ∧ w2.cell? ⟨G, 0, none⟩ = some (.int .i64 f0) ∧ w2.cell? ⟨G, 1, none⟩ = some (.int .i64 f1) ∧ w2.cell? ⟨G, 2, none⟩ = some (.int .i64 f2) ∧ B < w2.heap.size ∧ G < w2.heap.size ∧ Below w.heap.size w w2 := by
  obtain ⟨a0, a1, a2, a3, b0, b1, b2, hB, hG, hw⟩ := h
  have hs := hb.size
  exact ⟨(hb.cell (p := ⟨B, 0, none⟩) hB).trans a0, (hb.cell (p := ⟨B, 1, none⟩) hB).trans a1, (hb.cell (p := ⟨B, 2, none⟩) hB).trans a2, (hb.cell (p := ⟨B, 3, none⟩) hB).trans a3,
    (hb.cell (p := ⟨G, 0, none⟩) hG).trans b0, (hb.cell (p := ⟨G, 1, none⟩) hG).trans b1, (hb.cell (p := ⟨G, 2, none⟩) hG).trans b2, by omega, by omega, hw.trans (hb.mono hw.size)⟩
theorem line_start {w w1 w2 : World} {op a b c f0 f1 f2 : Int}
    (h : w1.cell? ⟨w.heap.size, 0, none⟩ = some (.int .i64 op) ∧ w1.cell? ⟨w.heap.size, 1, none⟩ = some (.int .i64 a) ∧ w1.cell? ⟨w.heap.size, 2, none⟩ = some (.int .i64 b) ∧ w1.cell? ⟨w.heap.size, 3, none⟩ = some (.int .i64 c)) (hz : w.heap.size < w1.heap.size) (hb1 : Below w.heap.size w w1) (hb2 : Below w1.heap.size w1 w2) :
    (fun w' : World => w'.cell? ⟨w.heap.size, 0, none⟩ = some (.int .i64 op) ∧ w'.cell? ⟨w.heap.size, 1, none⟩ = some (.int .i64 a) ∧ w'.cell? ⟨w.heap.size, 2, none⟩ = some (.int .i64 b) ∧ w'.cell? ⟨w.heap.size, 3, none⟩ = some (.int .i64 c) ∧ w'.cell? ⟨w2.heap.size, 0, none⟩ = some (.int .i64 f0) ∧ w'.cell? ⟨w2.heap.size, 1, none⟩ = some (.int .i64 f1) ∧ w'.cell? ⟨w2.heap.size, 2, none⟩ = some (.int .i64 f2) ∧ w.heap.size < w'.heap.size ∧ w2.heap.size < w'.heap.size ∧ Below w.heap.size w w') (w2.alloc (.cells #[.int .i64 f0, .int .i64 f1, .int .i64 f2] 61)).drew := by
  obtain ⟨a0, a1, a2, a3⟩ := h
  have hs := hb2.size
  have hb3 : Below w1.heap.size w1 (w2.alloc (.cells #[.int .i64 f0, .int .i64 f1, .int .i64 f2] 61)).drew := (hb2.alloc hs _).drew
  have hn := heap_alloc_new w2 (.cells #[.int .i64 f0, .int .i64 f1, .int .i64 f2] 61)
  have hn' : (w2.alloc (.cells #[.int .i64 f0, .int .i64 f1, .int .i64 f2] 61)).drew.heap[w2.heap.size]? = some (.cells #[.int .i64 f0, .int .i64 f1, .int .i64 f2] 61 (0, 0)) := hn
  have hz2 : w2.heap.size < (w2.alloc (.cells #[.int .i64 f0, .int .i64 f1, .int .i64 f2] 61)).drew.heap.size := by
    show _ < (w2.alloc _).heap.size
    simp
  exact ⟨(hb3.cell (p := ⟨w.heap.size, 0, none⟩) hz).trans a0, (hb3.cell (p := ⟨w.heap.size, 1, none⟩) hz).trans a1, (hb3.cell (p := ⟨w.heap.size, 2, none⟩) hz).trans a2, (hb3.cell (p := ⟨w.heap.size, 3, none⟩) hz).trans a3,
    by rw [Lib.cell_of_heap hn']; rfl, by rw [Lib.cell_of_heap hn']; rfl, by rw [Lib.cell_of_heap hn']; rfl, by omega, hz2, hb1.trans (hb3.mono hb1.size)⟩
theorem held_self {B G : Nat} {op a b c f0 f1 f2 : Int} {w w1 : World}
    (h : w1.cell? ⟨B, 0, none⟩ = some (.int .i64 op) ∧ w1.cell? ⟨B, 1, none⟩ = some (.int .i64 a) ∧ w1.cell? ⟨B, 2, none⟩ = some (.int .i64 b) ∧ w1.cell? ⟨B, 3, none⟩ = some (.int .i64 c) ∧ w1.cell? ⟨G, 0, none⟩ = some (.int .i64 f0) ∧ w1.cell? ⟨G, 1, none⟩ = some (.int .i64 f1) ∧ w1.cell? ⟨G, 2, none⟩ = some (.int .i64 f2) ∧ B < w1.heap.size ∧ G < w1.heap.size ∧ Below w.heap.size w w1) : Below w.heap.size w w1 := by
  obtain ⟨_, _, _, _, _, _, _, _, _, hw⟩ := h
  exact hw
set_option maxRecDepth 100000 in
set_option maxHeartbeats 4000000 in
theorem rline_no (op a b c : Int) (h : insOk (op, a, b, c) = false) (w : World) :
    Calls Tryd.prog 12 #[insV op a b c] w fun e w' => e = .returned (.tuple #[.string ⟨#[]⟩, .int .i64 100]) ∧ Below w.heap.size w w' := by
  have H := Lib.hid h
  clear h
  go_enter Tryd.func12, Tryd.ntmps12
  go_wp2_with (go_at_call 23; refine (ris_eq H.out _).mono ?_; rintro e w1 ⟨rfl, hb1⟩; have HB1 : Hid (Below w.heap.size w w1) := Lib.hid (((Below.refl w.heap.size w).alloc (Nat.le_refl _) _).trans (hb1.mono (by simp))); clear hb1)
  go_ret2
  exact ⟨rfl, HB1.out⟩
set_option maxRecDepth 100000 in
set_option maxHeartbeats 8000000 in
theorem rline_yes (op a b c f0 f1 f2 : Int) (nm : Bs) (hf : formOf op = (nm, f0, f1, f2)) (h : insOk (op, a, b, c) = true) (w : World) :
    Calls Tryd.prog 12 #[insV op a b c] w fun e w' => e = .returned (.tuple #[.string ⟨(lineOf (op, a, b, c)).toArray⟩, .int .i64 0]) ∧ Below w.heap.size w w' := by
  obtain ⟨⟨o1, o2⟩, q0, q1, q2⟩ := insOk_parts h
  have ha := fits_strict q0
  have hb := fits_strict q1
  have hc := fits_strict q2
  have l0 := operand_len f0 a ha.1 ha.2
  have l1 := operand_len f1 b hb.1 hb.2
  have l2 := operand_len f2 c hc.1 hc.2
  have ln : nm.length ≤ 5 := by have := name_len op; rw [hf] at this; exact this
  have hs := line_same (a := a) (b := b) (c := c) hf o1 o2
  have hio : isOp op = true := by simp [isOp]; omega
  have hnm : ∀ w : World, Calls Tryd.prog 30 #[.int .i64 op] w fun e w' => e = .returned (.string ⟨nm.toArray⟩) ∧ Below w.heap.size w w' := by
    intro w
    have := rname_any op o1 o2 w
    rw [hf] at this
    exact this
  have z1 : ¬ 9223372036854775807 < nm.length + (operandT f0 a).length := by omega
  have z2 : ¬ 9223372036854775807 < nm.length + (operandT f0 a).length + (operandT f1 b).length := by omega
  have z3 : ¬ 9223372036854775807 < nm.length + (operandT f0 a).length + (operandT f1 b).length + (operandT f2 c).length := by omega
  have y1 : nm.length + (operandT f0 a).length ≤ 9223372036854775807 := by omega
  have y2 : nm.length + (operandT f0 a).length + (operandT f1 b).length ≤ 9223372036854775807 := by omega
  have y3 : nm.length + (operandT f0 a).length + (operandT f1 b).length + (operandT f2 c).length ≤ 9223372036854775807 := by omega
  have H := Lib.hid h
  have HF := Lib.hid hf
  have HA := Lib.hid ha
  have HBb := Lib.hid hb
  have HC := Lib.hid hc
  have HS := Lib.hid hs
  have HIO := Lib.hid hio
  have HNM := Lib.hid hnm
  clear h hf ha hb hc hs hio hnm q0 q1 q2 o1 o2
  go_enter Tryd.func12, Tryd.ntmps12
  go_wp2_with (first
    | (go_at_call 23; refine (ris_eq H.out _).mono ?_; rintro e w1 ⟨rfl, hb1⟩; obtain ⟨⟨c0, c1, c2, c3⟩, hz, hb⟩ := ris_pre hb1; have HB1 := Lib.hid hb; have HZ1 := Lib.hid hz; have HC1 := Lib.hid (And.intro c0 (And.intro c1 (And.intro c2 c3))); clear hb1 hb c1 c2 c3)
    | (go_at_call 29; refine (rhas_eq HF.out HIO.out _).mono ?_; rintro e w2 ⟨rfl, hb2⟩))
  have HK : Hid ((fun w' : World => w'.cell? ⟨w.heap.size, 0, none⟩ = some (.int .i64 op) ∧ w'.cell? ⟨w.heap.size, 1, none⟩ = some (.int .i64 a) ∧ w'.cell? ⟨w.heap.size, 2, none⟩ = some (.int .i64 b) ∧ w'.cell? ⟨w.heap.size, 3, none⟩ = some (.int .i64 c) ∧ w'.cell? ⟨w2.heap.size, 0, none⟩ = some (.int .i64 f0) ∧ w'.cell? ⟨w2.heap.size, 1, none⟩ = some (.int .i64 f1) ∧ w'.cell? ⟨w2.heap.size, 2, none⟩ = some (.int .i64 f2) ∧ w.heap.size < w'.heap.size ∧ w2.heap.size < w'.heap.size ∧ Below w.heap.size w w') (w2.alloc (.cells #[.int .i64 f0, .int .i64 f1, .int .i64 f2] 61)).drew) := Lib.hid (line_start HC1.out HZ1.out HB1.out hb2)
  clear hb2 c0 hz HC1 HZ1 HB1
  generalize w2.alloc (.cells #[.int .i64 f0, .int .i64 f1, .int .i64 f2] 61) = W at HK ⊢
  go_region_held3 (fun w' => w'.cell? ⟨w.heap.size, 0, none⟩ = some (.int .i64 op) ∧ w'.cell? ⟨w.heap.size, 1, none⟩ = some (.int .i64 a) ∧ w'.cell? ⟨w.heap.size, 2, none⟩ = some (.int .i64 b) ∧ w'.cell? ⟨w.heap.size, 3, none⟩ = some (.int .i64 c) ∧ w'.cell? ⟨w2.heap.size, 0, none⟩ = some (.int .i64 f0) ∧ w'.cell? ⟨w2.heap.size, 1, none⟩ = some (.int .i64 f1) ∧ w'.cell? ⟨w2.heap.size, 2, none⟩ = some (.int .i64 f2) ∧ w.heap.size < w'.heap.size ∧ w2.heap.size < w'.heap.size ∧ Below w.heap.size w w') (first | exact HK.out | exact keep_cells (by assumption) hb) (first
    | (go_at_call 30; refine (HNM.out _).mono ?_; rintro e w' ⟨rfl, hb⟩)
    | (go_at_call 31; refine (operand_any _ _ (by first | exact HA.out.1 | exact HBb.out.1 | exact HC.out.1) (by first | exact HA.out.2 | exact HBb.out.2 | exact HC.out.2) _).mono ?_; rintro e w' ⟨rfl, hb⟩))
  go_wp2
  go_ret2
  refine ⟨ret_line (by rw [app_data, app_data, app_data, ← HS.out]), ?_⟩
  refine held_self (B := w.heap.size) (G := w2.heap.size) (op := op) (a := a) (b := b) (c := c) (f0 := f0) (f1 := f1) (f2 := f2) ?_
  assumption
theorem rline_any (op a b c : Int) (w : World) :
    Calls Tryd.prog 12 #[insV op a b c] w fun e w' => e = .returned (.tuple #[.string ⟨(if insOk (op, a, b, c) then lineOf (op, a, b, c) else []).toArray⟩, .int .i64 (if insOk (op, a, b, c) then 0 else 100)]) ∧ Below w.heap.size w w' := by
  cases h : insOk (op, a, b, c) with
  | false => exact rline_no op a b c h w
  | true =>
    cases hf : formOf op with
    | mk nm r =>
      obtain ⟨f0, f1, f2⟩ := r
      exact rline_yes op a b c f0 f1 f2 nm hf h w
end Go.Proofs.YtcamimfepcoggaaDoor
