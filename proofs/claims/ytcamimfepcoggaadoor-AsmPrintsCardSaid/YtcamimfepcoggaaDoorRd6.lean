/- The walk of asm's reader's instruction, at the right count of words. -/
import Derived.Test.YtcamimfepcoggaaDoorRd5
import Derived.LoopN
import Derived.Deep.RegionLaw
namespace Go.Proofs.YtcamimfepcoggaaDoor
open Go.RowKit
attribute [local go_sem ↓] Go.wp_at_zero Go.wp_at_succ
theorem own_below_up {w w' : World} {B e size n : Nat} {v : Value} {xs : List Value} (h : w.ownsRow B e size v n xs) (hb : Below w.heap.size w w') : w'.ownsRow B e size v n xs := own_below h hb
def InsPost (g : Nat) (t : ByteArray) (n : Int) (labs : List (Bs × Int)) (lines : List Ln) (r : Option (Ins × Bs)) (w : World) (e : Ending) (w' : World) : Prop :=
  Below g w w' ∧ match r with
    | some p => e = .returned (.tuple #[]) ∧ St w' g t n labs (lines ++ [⟨p.1, p.2, n⟩])
    | none => e = wrongE n
theorem ln_cell {w : World} {X : Nat} {x : Ins} {lab : Bs} {n : Int} (h : w.heap[X]? = some (.cells (lnCells ⟨x, lab, n⟩).toArray 80 (0, 0))) (j : Nat) (hj : j < 6) : ∃ u, w.cell? ⟨X, j, none⟩ = some u := by
  rw [Lib.cell_of_heap h]
  have : j = 0 ∨ j = 1 ∨ j = 2 ∨ j = 3 ∨ j = 4 ∨ j = 5 := by omega
  rcases this with rfl | rfl | rfl | rfl | rfl | rfl <;> exact ⟨_, rfl⟩
theorem ln_set {w : World} {X : Nat} {x : Ins} {lab : Bs} {n : Int} (h : w.heap[X]? = some (.cells (lnCells ⟨x, lab, n⟩).toArray 80 (0, 0))) (k : Nat) (v : Int) (hk : k < 3) :
    (w.setCell ⟨X, k + 1, none⟩ (.int .i64 v)).heap[X]? = some (.cells (lnCells ⟨setAt x k v, lab, n⟩).toArray 80 (0, 0)) := by
  rw [heap_setCell_same _ _ _ _ _ _ h]
  have : k = 0 ∨ k = 1 ∨ k = 2 := by omega
  rcases this with rfl | rfl | rfl <;> rfl
theorem ln_lab {w : World} {X : Nat} {x : Ins} {lab : Bs} {n : Int} (h : w.heap[X]? = some (.cells (lnCells ⟨x, lab, n⟩).toArray 80 (0, 0))) (l : Bs) :
    (w.setCell ⟨X, 4, none⟩ (.string ⟨l.toArray⟩)).heap[X]? = some (.cells (lnCells ⟨x, l, n⟩).toArray 80 (0, 0)) := by
  rw [heap_setCell_same _ _ _ _ _ _ h]
  rfl
set_option maxRecDepth 100000 in
set_option maxHeartbeats 8000000 in
theorem ins_go (g : Nat) (s t : ByteArray) (n : Int) (v2 : Value) (labs : List (Bs × Int)) (lines : List Ln) (d : Option Addr) (cap : Nat) (w0 : Bs) (ws : List Bs) (w : World) (hE : Env w) (hg8 : 8 ≤ g)
    (hR : RB w g t n v2 (.slice d lines.length cap)) (hO2 : w.ownsRow (g + 1) 106 2 v2 labs.length (labCells labs)) (hO3 : w.ownsRow (g + 1) 80 6 (.slice d lines.length cap) lines.length (linCells lines))
    (hs : s.size < 4294967281) (hsp : splitC 32 s.data.toList = w0 :: ws) (op : Int) (hbn : byName w0 = (op, true)) (m : Nat) (hk : ws.length = m) (hm : operands op = m) (hlt : lines.length < 512) :
    Calls Tryd.prog 50 #[.pointer (some ⟨g, 0, none⟩), .string s] w (InsPost g t n labs lines (readWords op 0 ws ((op, 0, 0, 0), [])) w) := by
  have hg := hR.lt
  have hmany : decide ((lines.length : Int) < 512) = true := decide_eq_true (by omega)
  obtain ⟨hm3, HY⟩ : m ≤ 3 ∧ Hid (1 ≤ op ∧ op ≤ 20) := ⟨hm ▸ (cnt3_operands op).2, by have := byName_bounds w0 (by rw [hbn]); rw [hbn] at this; exact this⟩
  have hwr : IntKind.i64.wrap (1 + (m : Int)) = 1 + (m : Int) := by rw [IntKind.wrap_i64]; omega
  have hk' : ((m : Int) + 1 == 1 + (m : Int)) = true := by
    rw [beq_iff_eq]
    have h' : (m : Int) + 1 = 1 + (m : Int) := by omega
    exact h'
  have HR := Lib.hid hR
  have HE := Lib.hid hE
  have HO2 := Lib.hid hO2
  have HO3 := Lib.hid hO3
  have HG := Lib.hid hg
  have HG8 := Lib.hid hg8
  have HLT := Lib.hid hlt
  clear hR hE hO2 hO3 hg hg8
  have hl : (0 : Int) < (ws.length : Int) + 1 := by omega
  go_enter Tryd.func50, Tryd.ntmps50
  go_wp2_with (first
    | (go_at_call 58; refine (split_any s w0 ws hsp _ HE.out hs).mono ?_; rintro e w1 ⟨rfl, hb1, hz1, hc0, hcw⟩; have HB1 := Lib.hid hb1; have HCW := Lib.hid hcw; clear hb1 hcw)
    | (go_at_call 59; refine (byname_eq hbn _).mono ?_; rintro e w2 ⟨rfl, hb⟩; have HB2 := Lib.hid hb; clear hb))
  refine wp_region_any (by kernel_rfl) ?_
  change wpAny _ _ _ _ _ _ _ (World.drew _)
  refine wpAny_take (i := 0) (v := ?v0) rfl (by kernel_rfl) (by kernel_rfl) (by kernel_rfl) (fun _ _ _ h => h) (Or.inl ⟨by kernel_rfl, ?h0⟩) ?_
  case h0 => (intro w; go_simp; try with_reducible rfl)
  refine wpAny_take (i := 1) (v := ?v1) rfl (by kernel_rfl) (by kernel_rfl) (by kernel_rfl) (fun _ _ _ h => h) (Or.inl ⟨by kernel_rfl, ?h1⟩) ?_
  case h1 => (intro w; go_simp; try with_reducible rfl)
  refine wpAny_take (i := 2) (v := ?v2) rfl (by kernel_rfl) (by kernel_rfl) (by kernel_rfl) (fun _ _ _ h => h) (Or.inl ⟨by kernel_rfl, ?h2⟩) ?_
  case h2 => (intro w; go_simp; try with_reducible rfl)
  refine wpAny_take (i := 3) (v := ?v3) rfl (by kernel_rfl) (by kernel_rfl) (by kernel_rfl) (fun _ _ _ h => h) (Or.inl ⟨by kernel_rfl, ?h3⟩) ?_
  case h3 => (intro w; go_simp; try with_reducible rfl)
  refine wpAny_take (i := 4) (v := ?v4) rfl (by kernel_rfl) (by kernel_rfl) (by kernel_rfl) (fun _ _ _ h => h) (Or.inl ⟨by kernel_rfl, ?h4⟩) ?_
  case h4 => (intro w; go_simp; try with_reducible rfl)
  refine wpAny_take (i := 5) (v := ?v5) rfl (by kernel_rfl) (by kernel_rfl) (by kernel_rfl) (fun _ _ _ h => h) (Or.inl ⟨by kernel_rfl, ?h5⟩) ?_
  case h5 => (intro w; go_simp; try with_reducible rfl)
  refine wpAny_take (i := 6) (v := ?v6) rfl (by kernel_rfl) (by kernel_rfl) (by kernel_rfl) (fun _ _ _ h => h) (Or.inl ⟨by kernel_rfl, ?h6⟩) ?_
  case h6 => (intro w; go_simp; try with_reducible rfl)
  refine wpAny_take (i := 7) (v := ?v7) rfl (by kernel_rfl) (by kernel_rfl) (by kernel_rfl) (fun _ _ _ h => h) (Or.inl ⟨by kernel_rfl, ?h7⟩) ?_
  case h7 => (intro w; go_simp; try with_reducible rfl)
  refine wpAny_ready (rs := [8]) (by kernel_rfl) (by simp) ?_
  refine AllReady.cons rfl (fun K hK => ?_) AllReady.nil
  go_simp
  refine (operands_eq hm w2.drew HY.out.1 HY.out.2).mono ?_
  rintro e w3 ⟨rfl, hb⟩
  have HB3 := Lib.hid hb
  clear hb
  refine hK _ _ ?_
  clear hK K
  have HW3 : Hid (Below w.heap.size w w3) := xt (xt HB1.out HB2.out).drew HB3.out
  have HR3 := Lib.hid (HR.out.below HW3.out)
  have c3 := HR3.out.c3
  have c1 := HR3.out.c1
  refine wpAny_take (i := 9) (v := ?v9) rfl (by kernel_rfl) (by kernel_rfl) (by kernel_rfl) (fun _ _ _ h => h) (Or.inl ⟨by kernel_rfl, ?h9⟩) ?_
  case h9 => (intro w; go_simp; try with_reducible rfl)
  refine wpAny_take (i := 10) (v := ?v10) rfl (by kernel_rfl) (by kernel_rfl) (by kernel_rfl) (fun _ _ _ h => h) (Or.inl ⟨by kernel_rfl, ?h10⟩) ?_
  case h10 => (intro w; go_simp; try with_reducible rfl)
  refine wpAny_take (i := 11) (v := ?v11) rfl (by kernel_rfl) (by kernel_rfl) (by kernel_rfl) (fun _ _ _ h => h) (Or.inl ⟨by kernel_rfl, ?h11⟩) ?_
  case h11 => (intro w; go_simp; try with_reducible rfl)
  refine wpAny_take (i := 12) (v := ?v12) rfl (by kernel_rfl) (by kernel_rfl) (by kernel_rfl) (fun _ _ _ h => h) (Or.inl ⟨by kernel_rfl, ?h12⟩) ?_
  case h12 => (intro w; go_simp; try with_reducible rfl)
  refine wpAny_take (i := 13) (v := ?v13) rfl (by kernel_rfl) (by kernel_rfl) (by kernel_rfl) (fun _ _ _ h => h) (Or.inl ⟨by kernel_rfl, ?h13⟩) ?_
  case h13 => (intro w; go_simp; try with_reducible rfl)
  refine wpAny_take (i := 14) (v := ?v14) rfl (by kernel_rfl) (by kernel_rfl) (by kernel_rfl) (fun _ _ _ h => h) (Or.inl ⟨by kernel_rfl, ?h14⟩) ?_
  case h14 => (intro w; go_simp; try with_reducible rfl)
  refine wpAny_take (i := 15) (v := ?v15) rfl (by kernel_rfl) (by kernel_rfl) (by kernel_rfl) (fun _ _ _ h => h) (Or.inl ⟨by kernel_rfl, ?h15⟩) ?_
  case h15 => (intro w; go_simp; try with_reducible rfl)
  refine wpAny_ready (rs := [16]) (by kernel_rfl) (by simp) ?_
  refine AllReady.cons rfl (fun K hK => ?_) AllReady.nil
  go_simp
  refine hK _ _ ?_
  clear hK K
  refine wpAny_take (i := 17) (v := ?v17) rfl (by kernel_rfl) (by kernel_rfl) (by kernel_rfl) (fun _ _ _ h => h) (Or.inl ⟨by kernel_rfl, ?h17⟩) ?_
  case h17 => (intro w; go_simp; try with_reducible rfl)
  refine wpAny_take (i := 18) (v := ?v18) rfl (by kernel_rfl) (by kernel_rfl) (by kernel_rfl) (fun _ _ _ h => h) (Or.inl ⟨by kernel_rfl, ?h18⟩) ?_
  case h18 => (intro w; go_simp; try with_reducible rfl)
  refine wpAny_take (i := 19) (v := ?v19) rfl (by kernel_rfl) (by kernel_rfl) (by kernel_rfl) (fun _ _ _ h => h) (Or.inl ⟨by kernel_rfl, ?h19⟩) ?_
  case h19 => (intro w; go_simp; try with_reducible rfl)
  refine wpAny_ready (rs := [20]) (by kernel_rfl) (by simp) ?_
  refine AllReady.cons rfl (fun K hK => ?_) AllReady.nil
  go_simp
  refine (must_yes _ _).mono ?_
  rintro e w' ⟨rfl, rfl⟩
  refine hK _ _ ?_
  clear hK K
  refine wpAny_done (by kernel_rfl) ?_ _
  have hcw0 : w3.cell? ⟨w.heap.size, 0, none⟩ = some (.string ⟨w0.toArray⟩) := by
    have hb := (xt HB2.out.drew HB3.out)
    rw [hb.cell (p := ⟨w.heap.size, 0, none⟩) hz1]; exact hc0
  have HCW3 : Hid (∀ (j : Nat) (h : j < ws.length), w3.cell? ⟨w.heap.size, j + 1, none⟩ = some (.string ⟨ws[j].toArray⟩)) := Lib.hid fun j h => by
    have hb := (xt HB2.out.drew HB3.out)
    rw [hb.cell (p := ⟨w.heap.size, j + 1, none⟩) hz1]; exact HCW.out j h
  clear HCW hc0
  have hz3 : w.heap.size < w3.heap.size := Nat.lt_of_lt_of_le hz1 (xt HB2.out.drew HB3.out).size
  clear HB1 HB2 HB3
  go_wp2_with (go_at_call 27; refine (sorts_any op _).mono ?_; rintro e w4 ⟨rfl, hb⟩; have HB4 := Lib.hid hb; clear hb)
  · obtain rfl : m = 0 := by assumption
    obtain rfl : ws = [] := List.eq_nil_of_length_eq_zero hk
    have HRD : Hid (readWords op 0 [] ((op, 0, 0, 0), []) = some ((op, 0, 0, 0), [])) := Lib.hid rfl
    have hX1 : w3.heap.size + 1 < w4.heap.size := by have := HB4.out.size; simp at this; omega
    have HB5 : Hid (Below w.heap.size w (w4.alloc (.cells #[.int .i64 (sortsOf op).1, .int .i64 (sortsOf op).2.1, .int .i64 (sortsOf op).2.2] 63))) := Lib.hid (by
      refine Below.alloc ?_ (by omega) _
      refine xt ?_ HB4.out
      refine Below.alloc (Below.alloc HW3.out (by omega) _) (by simp; omega) _)
    have XB5 : (w4.alloc (.cells #[.int .i64 (sortsOf op).1, .int .i64 (sortsOf op).2.1, .int .i64 (sortsOf op).2.2] 63)).heap[w3.heap.size]? = some (.cells (lnCells ⟨(op, 0, 0, 0), [], n⟩).toArray 80 (0, 0)) := by
      rw [Below.heap_alloc _ _ _ (by omega), HB4.out.block _ (by simp; omega), Below.heap_alloc _ _ _ (by simp), heap_alloc_new]
      rfl
    have PB5 : (w4.alloc (.cells #[.int .i64 (sortsOf op).1, .int .i64 (sortsOf op).2.1, .int .i64 (sortsOf op).2.2] 63)).heap[w3.heap.size + 1]? = some (.cells #[.pointer (some ⟨w3.heap.size, 1, none⟩), .pointer (some ⟨w3.heap.size, 2, none⟩), .pointer (some ⟨w3.heap.size, 3, none⟩)] 123 (0, 0)) := by
      rw [Below.heap_alloc _ _ _ (by omega), HB4.out.block _ (by simp)]
      have h := heap_alloc_new (w3.alloc (.cells #[.int .i64 op, .int .i64 0, .int .i64 0, .int .i64 0, .string ⟨#[]⟩, .int .i64 n] 80)) (.cells #[.pointer (some ⟨w3.heap.size, 1, none⟩), .pointer (some ⟨w3.heap.size, 2, none⟩), .pointer (some ⟨w3.heap.size, 3, none⟩)] 123)
      simpa using h
    have SB5 := heap_alloc_new w4 (.cells #[.int .i64 (sortsOf op).1, .int .i64 (sortsOf op).2.1, .int .i64 (sortsOf op).2.2] 63)
    have Z5 : w4.heap.size < (w4.alloc (.cells #[.int .i64 (sortsOf op).1, .int .i64 (sortsOf op).2.1, .int .i64 (sortsOf op).2.2] 63)).heap.size := by simp
    generalize w4.alloc (.cells #[.int .i64 (sortsOf op).1, .int .i64 (sortsOf op).2.1, .int .i64 (sortsOf op).2.2] 63) = w5 at HB5 XB5 PB5 SB5 Z5 ⊢
    have hX3 : w.heap.size < w3.heap.size := hz3
    generalize hX : w3.heap.size = X at *
    generalize hS : w4.heap.size = S at *
    clear HB4 HCW3 PB5 SB5 hk hl hk' hm3 HR3 HW3 c1 c3 hcw0 hX hS
    have HR5 := Lib.hid (HR.out.below HB5.out)
    have HE5 := Lib.hid (HE.out.on HB5.out)
    have hgs := HB5.out.size
    refine wp_loop_rounds 1 ?_
    rw [rounds_succ]
    go_wp2_with fail
    have HG0 : Hid (w5.grownBy w5 (some X)) := Lib.hid (World.grownBy.refl _ _)
    have HXt := Lib.hid XB5
    have HRt := Lib.hid (RB.grown HR5.out HG0.out (by intro h; injection h with h; have := HG.out; omega))
    have HO3t := Lib.hid ((own_below_up HO3.out HB5.out).kept HG0.out (.inr (ownB_lt HO3.out X (by omega))))
    have HO2t := Lib.hid ((own_below_up HO2.out HB5.out).kept HG0.out (.inr (ownB_lt HO2.out X (by omega))))
    have HBt : Hid (Below g w w5) := Lib.hid (Below.grown (HB5.out.mono (Nat.le_of_lt HG.out)) HG0.out (by have := HG.out; have := HB5.out.size; omega) (fun j hj => by injection hj with hj; have := HG.out; omega))
    have HZt : Hid (w5.heap.size ≤ w5.heap.size) := Lib.hid (HG0.out).size
    have HNX : Hid (some X ≠ (Value.slice d lines.length cap).ownBlock) := Lib.hid (Ne.symm (ownB_lt HO3.out X (by omega)))
    have HNG : Hid (some g ≠ (Value.slice d lines.length cap).ownBlock) := Lib.hid (Ne.symm (ownB_ge HO3.out g (by omega)))
    have HXlt : Hid (X < w5.heap.size) := Lib.hid (by have := HZt.out; omega)
    have HGlt : Hid (g < w5.heap.size) := Lib.hid (by have := HZt.out; have := HG.out; omega)
    have hle : g + 1 ≤ w5.heap.size := HGlt.out
    have q3 := HRt.out.c3
    have p3 := HRt.out.fz 3
    have q3' : ∀ o, (w5.alloc o).cell? ⟨g, 3, none⟩ = some (.slice d lines.length cap) := fun o => (World.cell?_of_block (a := ⟨g, 3, none⟩) (Below.heap_alloc w5 o g HGlt.out)).trans q3
    have x0 : w5.cell? ⟨X, 0, none⟩ = some (.int .i64 (((op, (0 : Int), (0 : Int), (0 : Int)), ([] : Bs))).1.1) := by rw [Lib.cell_of_heap HXt.out]; rfl
    have x1 : w5.cell? ⟨X, 1, none⟩ = some (.int .i64 (((op, (0 : Int), (0 : Int), (0 : Int)), ([] : Bs))).1.2.1) := by rw [Lib.cell_of_heap HXt.out]; rfl
    have x2 : w5.cell? ⟨X, 2, none⟩ = some (.int .i64 (((op, (0 : Int), (0 : Int), (0 : Int)), ([] : Bs))).1.2.2.1) := by rw [Lib.cell_of_heap HXt.out]; rfl
    have x3 : w5.cell? ⟨X, 3, none⟩ = some (.int .i64 (((op, (0 : Int), (0 : Int), (0 : Int)), ([] : Bs))).1.2.2.2) := by rw [Lib.cell_of_heap HXt.out]; rfl
    have x4 : w5.cell? ⟨X, 4, none⟩ = some (.string ⟨(((op, (0 : Int), (0 : Int), (0 : Int)), ([] : Bs))).2.toArray⟩) := by rw [Lib.cell_of_heap HXt.out]; rfl
    have x5 : w5.cell? ⟨X, 5, none⟩ = some (.int .i64 n) := by rw [Lib.cell_of_heap HXt.out]; rfl
    obtain ⟨i0, hi0, hz0, hz1, hz2⟩ := info_parts inf80
    have hlen : lines.length + 1 ≤ maxLen := by show _ ≤ 9223372036854775807; have := HLT.out; omega
    have hbyt : (lines.length + 1) * 56 ≤ 140737488355328 := by have := HLT.out; omega
    go_wp2_with fail
    go_region_law
      ((refine step_append_lies _ (by rfl) _ _ _ (by rfl) (g + 1) 80 i0 _ 6 56 Tryd.underlying76 hi0 hz0 hz1 hz2 rfl (by omega) (.slice d lines.length cap) lines.length (linCells lines) (by rfl) ((HO3t.out.alloc _).drew)
          ⟨w5.heap.size, 0, none⟩ 1 1 (lnCells ⟨(((op, (0 : Int), (0 : Int), (0 : Int)), ([] : Bs))).1, (((op, (0 : Int), (0 : Int), (0 : Int)), ([] : Bs))).2, n⟩) (by rfl) (by rfl) (World.news_of_block (cs := (lnCells ⟨(((op, (0 : Int), (0 : Int), (0 : Int)), ([] : Bs))).1, (((op, (0 : Int), (0 : Int), (0 : Int)), ([] : Bs))).2, n⟩).toArray) (t := 80) (fr := (0, 0)) (heap_alloc_new w5 _)) (by simp [lnCells, Value.oneCell'])
          (by omega) hlen hbyt (by simp; omega) (w5.heap.size + 1) (by simp) ?_; intro gg cap' w7 hown7 hgrow hat hlt7; have p7 : w7.frozen? ⟨g, 3, none⟩ = false := (hgrow.frozen_far ⟨g, 3, none⟩ (by show g < _; have := HGlt.out; simp; omega) HNG.out).trans (Lib.frozen_of_heap ((Below.heap_alloc w5 _ g HGlt.out).trans HRt.out) 3); have c7 := (hgrow.cell_far ⟨g, 3, none⟩ (by show g < _; have := HGlt.out; simp; omega) HNG.out).trans (Lib.cell_of_heap ((Below.heap_alloc w5 _ g HGlt.out).trans HRt.out) 3)))
    all_goals
      go_end0
      rw [HRD.out]
      refine ⟨((((HBt.out.alloc (Nat.le_of_lt HGlt.out) _).drew).grown hgrow (by have := HGlt.out; simp; omega) (fun k hk => Nat.le_of_lt (HO3t.out.lt k hk).1)).setCell (Nat.le_refl _) _), rfl, v2, .slice (some ⟨gg, 0, none⟩) (lines.length + 1) cap', ?_, ?_, ?_⟩
      · exact RB.s3 (((hgrow.block g (by have := HGlt.out; simp; omega) HNG.out).trans (Below.heap_alloc w5 _ g HGlt.out)).trans HRt.out) _
      · exact ownsRow_setCell_below ((HO2t.out.alloc _).drew.kept hgrow (own_ne HO2t.out HO3t.out (by decide))) (Nat.lt_succ_self g) _
      · rw [linCells_app, List.length_append]
        exact ownsRow_setCell_below hown7 (Nat.lt_succ_self g) _
  have hX1 : w3.heap.size + 1 < w4.heap.size := by have := HB4.out.size; simp at this; omega
  have HB5 : Hid (Below w.heap.size w (w4.alloc (.cells #[.int .i64 (sortsOf op).1, .int .i64 (sortsOf op).2.1, .int .i64 (sortsOf op).2.2] 63))) := Lib.hid (by
    refine Below.alloc ?_ (by omega) _
    refine xt ?_ HB4.out
    refine Below.alloc (Below.alloc HW3.out (by omega) _) (by simp; omega) _)
  have XB5 : (w4.alloc (.cells #[.int .i64 (sortsOf op).1, .int .i64 (sortsOf op).2.1, .int .i64 (sortsOf op).2.2] 63)).heap[w3.heap.size]? = some (.cells (lnCells ⟨(op, 0, 0, 0), [], n⟩).toArray 80 (0, 0)) := by
    rw [Below.heap_alloc _ _ _ (by omega), HB4.out.block _ (by simp; omega), Below.heap_alloc _ _ _ (by simp), heap_alloc_new]
    rfl
  have PB5 : (w4.alloc (.cells #[.int .i64 (sortsOf op).1, .int .i64 (sortsOf op).2.1, .int .i64 (sortsOf op).2.2] 63)).heap[w3.heap.size + 1]? = some (.cells #[.pointer (some ⟨w3.heap.size, 1, none⟩), .pointer (some ⟨w3.heap.size, 2, none⟩), .pointer (some ⟨w3.heap.size, 3, none⟩)] 123 (0, 0)) := by
    rw [Below.heap_alloc _ _ _ (by omega), HB4.out.block _ (by simp)]
    have h := heap_alloc_new (w3.alloc (.cells #[.int .i64 op, .int .i64 0, .int .i64 0, .int .i64 0, .string ⟨#[]⟩, .int .i64 n] 80)) (.cells #[.pointer (some ⟨w3.heap.size, 1, none⟩), .pointer (some ⟨w3.heap.size, 2, none⟩), .pointer (some ⟨w3.heap.size, 3, none⟩)] 123)
    simpa using h
  have SB5 := heap_alloc_new w4 (.cells #[.int .i64 (sortsOf op).1, .int .i64 (sortsOf op).2.1, .int .i64 (sortsOf op).2.2] 63)
  have Z5 : w4.heap.size < (w4.alloc (.cells #[.int .i64 (sortsOf op).1, .int .i64 (sortsOf op).2.1, .int .i64 (sortsOf op).2.2] 63)).heap.size := by simp
  have W5 : Hid (∀ (j : Nat) (h : j < ws.length), (w4.alloc (.cells #[.int .i64 (sortsOf op).1, .int .i64 (sortsOf op).2.1, .int .i64 (sortsOf op).2.2] 63)).cell? ⟨w.heap.size, j + 1, none⟩ = some (.string ⟨ws[j].toArray⟩)) := Lib.hid fun j h => by
    rw [World.cell?_of_block (w := w3) (a := ⟨w.heap.size, j + 1, none⟩)]
    · exact HCW3.out j h
    · show _[w.heap.size]? = _[w.heap.size]?
      rw [Below.heap_alloc _ _ _ (by omega), HB4.out.block _ (by simp; omega), Below.heap_alloc _ _ _ (by simp; omega), Below.heap_alloc _ _ _ (by omega)]
  generalize w4.alloc (.cells #[.int .i64 (sortsOf op).1, .int .i64 (sortsOf op).2.1, .int .i64 (sortsOf op).2.2] 63) = w5 at HB5 XB5 PB5 SB5 Z5 W5 ⊢
  have hX3 : w.heap.size < w3.heap.size := hz3
  generalize hX : w3.heap.size = X at *
  generalize hS : w4.heap.size = S at *
  clear HB4 HCW3 HR3 HW3 c1 c3 hcw0 hX hS
  have HR5 := Lib.hid (HR.out.below HB5.out)
  have HE5 := Lib.hid (HE.out.on HB5.out)
  have hgs := HB5.out.size
  go_loopw [64] (fun i wr => ∃ (k : Nat) (x : Ins) (lab : Bs), k ≤ m ∧ i = .int .i64 k ∧ Hid (w5.grownBy wr (some X)) ∧ Hid (wr.heap[X]? = some (.cells (lnCells ⟨x, lab, n⟩).toArray 80 (0, 0))) ∧ Hid (readWords op 0 ws ((op, 0, 0, 0), []) = readWords op k (ws.drop k) (x, lab))) (fun i _ => m - (intOf i).toNat)
  case atStart => exact ⟨0, (op, 0, 0, 0), [], by omega, rfl, World.grownBy.refl _ _, XB5, rfl⟩
  case round =>
    obtain ⟨k, x, lab, hkm, rfl, HGr, HX, HRW⟩ := hrel
    have HRr := Lib.hid (RB.grown HR5.out HGr.out (by intro h; injection h with h; have := HG.out; omega))
    have HEr := Lib.hid (HE5.out.grown (by have := HG8.out; have := HG.out; omega) HGr.out)
    have HBr : Hid (Below g w wr) := Lib.hid (Below.grown (HB5.out.mono (Nat.le_of_lt HG.out)) HGr.out (by have := HG.out; have := HB5.out.size; omega) (fun j hj => by injection hj with hj; have := HG.out; omega))
    have hzr := HGr.out.size
    have hXS : X < S := by omega
    by_cases hlt : k < m
    · have hwl : k < ws.length := by omega
      have hq := sortAt_012 op k
      have a1 : wr.cell? ⟨w.heap.size, 1 + k, none⟩ = some (.string ⟨ws[k].toArray⟩) := by
        rw [HGr.out.cell_far _ (by show w.heap.size < _; omega) (by intro h; injection h with h; revert h; show w.heap.size = X → False; omega)]
        rw [Nat.add_comm]; exact W5.out k hwl
      have PBr := (HGr.out.block (X + 1) (by omega) (by intro h; injection h with h; omega)).trans PB5
      have SBr := (HGr.out.block S (by omega) (by intro h; injection h with h; omega)).trans SB5
      have hds : ws.drop k = ws[k] :: ws.drop (k + 1) := List.drop_eq_getElem_cons hwl
      have HDS := Lib.hid hds
      clear hds
      have hsz : (⟨ws[k].toArray⟩ : ByteArray).size < 4294967281 := by
        rw [mk_size]
        have := splitC_le 32 s.data.toList ws[k] (by rw [hsp]; exact List.mem_cons_of_mem _ (List.getElem_mem _))
        rw [← Lib.size_eq] at this
        omega
      have a2 : wr.cell? ⟨S, k, none⟩ = some (.int .i64 (sortAt op k)) := by
        rw [Lib.cell_of_heap SBr]
        have : k = 0 ∨ k = 1 ∨ k = 2 := by omega
        rcases this with rfl | rfl | rfl <;> rfl
      have a3 : ∀ w6, Below wr.heap.size wr w6 → w6.cell? ⟨X + 1, k, none⟩ = some (.pointer (some ⟨X, k + 1, none⟩)) := by
        intro w6 hb
        rw [hb.cell (p := ⟨X + 1, k, none⟩) (by show X + 1 < _; omega), Lib.cell_of_heap PBr]
        have : k = 0 ∨ k = 1 ∨ k = 2 := by omega
        rcases this with rfl | rfl | rfl <;> rfl
      have A3 := Lib.hid a3
      clear a3 PBr SBr
      have ki : (k : Int) < 3 := by omega
      have XF : ∀ w6, Below wr.heap.size wr w6 → ∀ j, w6.frozen? ⟨X, j, none⟩ = false := by
        intro w6 hb j
        exact Lib.frozen_of_heap ((hb.block X (by omega)).trans HX.out) j
      have HXF := Lib.hid XF
      clear XF
      have XCc : ∀ w6, Below wr.heap.size wr w6 → w6.heap[X]? = some (.cells (lnCells ⟨x, lab, n⟩).toArray 80 (0, 0)) := by
        intro w6 hb
        exact (hb.block X (by omega)).trans HX.out
      have HXC := Lib.hid XCc
      clear XCc
      obtain ⟨q, hqd⟩ : ∃ q, sortAt op k = q := ⟨_, rfl⟩
      rw [hqd] at hq a2
      have HQd := Lib.hid hqd
      clear hqd
      cases hwd : wordL q ws[k] with
      | none =>
        go_wp2_with (go_at_call 60; refine (word_none hwd hq HRr.out.c1 HRr.out.lt hsz HEr.out).mono ?_; rintro e w6 ⟨rfl, hb⟩; have HB6 := Lib.hid hb; clear hb)
        refine bodyPost_panic rfl ?_
        have hrw : readWords op 0 ws ((op, 0, 0, 0), []) = none := by
          rw [HRW.out, HDS.out]
          unfold readWords
          rw [HQd.out, hwd]
        rw [hrw]
        exact ⟨HBr.out.trans (HB6.out.mono (by have := HRr.out.lt; omega)), rfl⟩
      | some p =>
        obtain ⟨v, l⟩ := p
        have HWD := Lib.hid hwd
        clear hwd
        by_cases hl0 : l = []
        · subst hl0
          go_wp2_with (go_at_call 60; refine (word_some HWD.out hq HRr.out.c1 HRr.out.lt hsz HEr.out).mono ?_; rintro e w6 ⟨rfl, hb⟩; have b3 := A3.out _ hb; have f1 := HXF.out _ hb (k + 1); obtain ⟨u1, g1⟩ := ln_cell (HXC.out _ hb) (k + 1) (by omega); have HB6 := Lib.hid hb; clear hb)
          go_roundw
          case rel => exact ⟨k + 1, setAt x k v, lab, by omega, rfl, Lib.hid (Lib.grownBy_setB (grownBy_tr HGr.out (grownBy_below HB6.out)) _ _), Lib.hid (ln_set (HXC.out _ HB6.out) k v (by omega)), Lib.hid (by
            rw [HRW.out, HDS.out]
            conv => lhs; unfold readWords
            rw [HQd.out, HWD.out]; rfl)⟩
          case measure => simp [intOf]; omega
        · have hl1 : (l == []) = false := by simpa using hl0
          have hl2 : (l != []) = true := by simpa using hl0
          go_wp2_with (go_at_call 60; refine (word_some HWD.out hq HRr.out.c1 HRr.out.lt hsz HEr.out).mono ?_; rintro e w6 ⟨rfl, hb⟩; have b3 := A3.out _ hb; have f1 := HXF.out _ hb (k + 1); obtain ⟨u1, g1⟩ := ln_cell (HXC.out _ hb) (k + 1) (by omega); have h4 := ln_set (HXC.out _ hb) k v (by omega); obtain ⟨u4, g4⟩ := ln_cell h4 4 (by omega); have f4 := Lib.frozen_of_heap h4 4; clear h4; have HB6 := Lib.hid hb; clear hb)
          go_roundw
          case rel => exact ⟨k + 1, setAt x k v, l, by omega, rfl, Lib.hid (Lib.grownBy_setB (Lib.grownBy_setB (grownBy_tr HGr.out (grownBy_below HB6.out)) _ _) _ _), Lib.hid (ln_lab (ln_set (HXC.out _ HB6.out) k v (by omega)) l), Lib.hid (by
            rw [HRW.out, HDS.out]
            conv => lhs; unfold readWords
            rw [HQd.out, HWD.out]
            simp only [hl0, if_false])⟩
          case measure => simp [intOf]; omega
    · have hkm' : k = m := by omega
      subst hkm'
      have hrd : readWords op 0 ws ((op, 0, 0, 0), []) = some (x, lab) := by
        rw [HRW.out, List.drop_eq_nil_of_le (by omega)]
        rfl
      have HRD := Lib.hid hrd
      clear hrd
      go_wp2_with fail
      have HXt := HX
      have HRt := Lib.hid (RB.grown HR5.out HGr.out (by intro h; injection h with h; have := HG.out; omega))
      have HO3t := Lib.hid ((own_below_up HO3.out HB5.out).kept HGr.out (.inr (ownB_lt HO3.out X (by omega))))
      have HO2t := Lib.hid ((own_below_up HO2.out HB5.out).kept HGr.out (.inr (ownB_lt HO2.out X (by omega))))
      have HBt : Hid (Below g w wr) := Lib.hid (Below.grown (HB5.out.mono (Nat.le_of_lt HG.out)) HGr.out (by have := HG.out; have := HB5.out.size; omega) (fun j hj => by injection hj with hj; have := HG.out; omega))
      have HZt : Hid (w5.heap.size ≤ wr.heap.size) := Lib.hid (HGr.out).size
      have HNX : Hid (some X ≠ (Value.slice d lines.length cap).ownBlock) := Lib.hid (Ne.symm (ownB_lt HO3.out X (by omega)))
      have HNG : Hid (some g ≠ (Value.slice d lines.length cap).ownBlock) := Lib.hid (Ne.symm (ownB_ge HO3.out g (by omega)))
      have HXlt : Hid (X < wr.heap.size) := Lib.hid (by have := HZt.out; omega)
      have HGlt : Hid (g < wr.heap.size) := Lib.hid (by have := HZt.out; have := HG.out; omega)
      have hle : g + 1 ≤ wr.heap.size := HGlt.out
      have q3 := HRt.out.c3
      have p3 := HRt.out.fz 3
      have q3' : ∀ o, (wr.alloc o).cell? ⟨g, 3, none⟩ = some (.slice d lines.length cap) := fun o => (World.cell?_of_block (a := ⟨g, 3, none⟩) (Below.heap_alloc wr o g HGlt.out)).trans q3
      have x0 : wr.cell? ⟨X, 0, none⟩ = some (.int .i64 ((x, lab)).1.1) := by rw [Lib.cell_of_heap HXt.out]; rfl
      have x1 : wr.cell? ⟨X, 1, none⟩ = some (.int .i64 ((x, lab)).1.2.1) := by rw [Lib.cell_of_heap HXt.out]; rfl
      have x2 : wr.cell? ⟨X, 2, none⟩ = some (.int .i64 ((x, lab)).1.2.2.1) := by rw [Lib.cell_of_heap HXt.out]; rfl
      have x3 : wr.cell? ⟨X, 3, none⟩ = some (.int .i64 ((x, lab)).1.2.2.2) := by rw [Lib.cell_of_heap HXt.out]; rfl
      have x4 : wr.cell? ⟨X, 4, none⟩ = some (.string ⟨((x, lab)).2.toArray⟩) := by rw [Lib.cell_of_heap HXt.out]; rfl
      have x5 : wr.cell? ⟨X, 5, none⟩ = some (.int .i64 n) := by rw [Lib.cell_of_heap HXt.out]; rfl
      obtain ⟨i0, hi0, hz0, hz1, hz2⟩ := info_parts inf80
      have hlen : lines.length + 1 ≤ maxLen := by show _ ≤ 9223372036854775807; have := HLT.out; omega
      have hbyt : (lines.length + 1) * 56 ≤ 140737488355328 := by have := HLT.out; omega
      go_wp2_with fail
      go_region_law
        ((refine step_append_lies _ (by rfl) _ _ _ (by rfl) (g + 1) 80 i0 _ 6 56 Tryd.underlying76 hi0 hz0 hz1 hz2 rfl (by omega) (.slice d lines.length cap) lines.length (linCells lines) (by rfl) ((HO3t.out.alloc _).drew)
            ⟨wr.heap.size, 0, none⟩ 1 1 (lnCells ⟨((x, lab)).1, ((x, lab)).2, n⟩) (by rfl) (by rfl) (World.news_of_block (cs := (lnCells ⟨((x, lab)).1, ((x, lab)).2, n⟩).toArray) (t := 80) (fr := (0, 0)) (heap_alloc_new wr _)) (by simp [lnCells, Value.oneCell'])
            (by omega) hlen hbyt (by simp; omega) (wr.heap.size + 1) (by simp) ?_; intro gg cap' w7 hown7 hgrow hat hlt7; have p7 : w7.frozen? ⟨g, 3, none⟩ = false := (hgrow.frozen_far ⟨g, 3, none⟩ (by show g < _; have := HGlt.out; simp; omega) HNG.out).trans (Lib.frozen_of_heap ((Below.heap_alloc wr _ g HGlt.out).trans HRt.out) 3); have c7 := (hgrow.cell_far ⟨g, 3, none⟩ (by show g < _; have := HGlt.out; simp; omega) HNG.out).trans (Lib.cell_of_heap ((Below.heap_alloc wr _ g HGlt.out).trans HRt.out) 3)))
      all_goals
        go_end0
        rw [HRD.out]
        refine ⟨((((HBt.out.alloc (Nat.le_of_lt HGlt.out) _).drew).grown hgrow (by have := HGlt.out; simp; omega) (fun k hk => Nat.le_of_lt (HO3t.out.lt k hk).1)).setCell (Nat.le_refl _) _), rfl, v2, .slice (some ⟨gg, 0, none⟩) (lines.length + 1) cap', ?_, ?_, ?_⟩
        · exact RB.s3 (((hgrow.block g (by have := HGlt.out; simp; omega) HNG.out).trans (Below.heap_alloc wr _ g HGlt.out)).trans HRt.out) _
        · exact ownsRow_setCell_below ((HO2t.out.alloc _).drew.kept hgrow (own_ne HO2t.out HO3t.out (by decide))) (Nat.lt_succ_self g) _
        · rw [linCells_app, List.length_append]
          exact ownsRow_setCell_below hown7 (Nat.lt_succ_self g) _
end Go.Proofs.YtcamimfepcoggaaDoor
