/- The walks of asm's reader, first part: must, next, isLabel, find; and how its state stands in memory. -/
import Derived.Test.YtcamimfepcoggaaDoorLn1
import Derived.Recover
import Derived.WalkSmall
import Derived.Lib.BufferOwn
import Derived.Lib.BufferWrite
namespace Go.Proofs.YtcamimfepcoggaaDoor
open Go.RowKit
def wrongV (n : Int) : Value := .iface 93 (.agg #[.int .i64 n])
abbrev wrongE (n : Int) : Ending := .panicked [{ v := wrongV n, recovered := false }]
theorem must_yes (g : Nat) (w : World) :
    Calls Tryd.prog 48 #[.pointer (some ⟨g, 0, none⟩), .bool true] w fun e w' => e = .returned (.tuple #[]) ∧ w = w' := by
  go_enter Tryd.func48, Tryd.ntmps48
  go_wp2
  go_end0
  exact ⟨rfl, rfl⟩
theorem must_no (g : Nat) (n : Int) (w : World) (hc : w.cell? ⟨g, 1, none⟩ = some (.int .i64 n)) :
    Calls Tryd.prog 48 #[.pointer (some ⟨g, 0, none⟩), .bool false] w fun e w' => e = wrongE n ∧ w = w' := by
  go_enter Tryd.func48, Tryd.ntmps48
  go_wp2
  exact ⟨rfl, rfl, rfl⟩
/-- The reader's block. -/
def RB (w : World) (g : Nat) (t : ByteArray) (n : Int) (v2 v3 : Value) : Prop := w.heap[g]? = some (.cells #[.string t, .int .i64 n, v2, v3] 78 (0, 0))
section
variable {w w' : World} {g : Nat} {t : ByteArray} {n : Int} {v2 v3 : Value}
theorem RB.lt (h : RB w g t n v2 v3) : g < w.heap.size := (Array.getElem?_eq_some_iff.1 h).1
theorem RB.c0 (h : RB w g t n v2 v3) : w.cell? ⟨g, 0, none⟩ = some (.string t) := by rw [Lib.cell_of_heap h]; rfl
theorem RB.c1 (h : RB w g t n v2 v3) : w.cell? ⟨g, 1, none⟩ = some (.int .i64 n) := by rw [Lib.cell_of_heap h]; rfl
theorem RB.c2 (h : RB w g t n v2 v3) : w.cell? ⟨g, 2, none⟩ = some v2 := by rw [Lib.cell_of_heap h]; rfl
theorem RB.c3 (h : RB w g t n v2 v3) : w.cell? ⟨g, 3, none⟩ = some v3 := by rw [Lib.cell_of_heap h]; rfl
theorem RB.fz (h : RB w g t n v2 v3) (j : Nat) : w.frozen? ⟨g, j, none⟩ = false := Lib.frozen_of_heap h j
theorem RB.s0 (h : RB w g t n v2 v3) (t' : ByteArray) : RB (w.setCell ⟨g, 0, none⟩ (.string t')) g t' n v2 v3 := by unfold RB; rw [heap_setCell_same _ _ _ _ _ _ h]; rfl
theorem RB.s1 (h : RB w g t n v2 v3) (n' : Int) : RB (w.setCell ⟨g, 1, none⟩ (.int .i64 n')) g t n' v2 v3 := by unfold RB; rw [heap_setCell_same _ _ _ _ _ _ h]; rfl
theorem RB.s2 (h : RB w g t n v2 v3) (v : Value) : RB (w.setCell ⟨g, 2, none⟩ v) g t n v v3 := by unfold RB; rw [heap_setCell_same _ _ _ _ _ _ h]; rfl
theorem RB.s3 (h : RB w g t n v2 v3) (v : Value) : RB (w.setCell ⟨g, 3, none⟩ v) g t n v2 v := by unfold RB; rw [heap_setCell_same _ _ _ _ _ _ h]; rfl
theorem RB.grown (h : RB w g t n v2 v3) {row : Option Nat} (hg : w.grownBy w' row) (hne : some g ≠ row) : RB w' g t n v2 v3 := (hg.block g h.lt hne).trans h
theorem RB.below (h : RB w g t n v2 v3) (hb : Below w.heap.size w w') : RB w' g t n v2 v3 := (hb.block g h.lt).trans h
theorem RB.drewN (h : RB w g t n v2 v3) (k : Nat) : RB (w.drewN k) g t n v2 v3 := h
end
theorem grownBy_drewN {a w : World} {row : Option Nat} (h : a.grownBy w row) (k : Nat) : a.grownBy (w.drewN k) row := ⟨h.os, h.tape, h.output, h.size, h.block⟩
theorem Env.at_ {w w' : World} (h : Env w) (hz : w.heap.size ≤ w'.heap.size) (hb : ∀ k, k < 8 → w'.heap[k]? = w.heap[k]?) : Env w' where
  size := Nat.le_trans h.size hz
  maxLen := by rw [World.cell?_of_block (w := w) (hb 3 (by omega))]; exact h.maxLen
  tab := by
    have ht := h.tab
    unfold Lib.TabIs World.var? at *
    have hn : Tryd.prog.globalNamed "internal/strconv.uint64pow10" = some 0 := by kernel_rfl
    rw [hn] at ht ⊢
    simp only [Option.bind_some] at ht ⊢
    rw [hb 0 (by omega)]
    exact ht
  syn := by rw [World.cell?_of_block (w := w) (hb 4 (by omega))]; exact h.syn
  rng := by rw [World.cell?_of_block (w := w) (hb 5 (by omega))]; exact h.rng
theorem Env.grown {w w' : World} (h : Env w) {g : Nat} (hg : 8 ≤ g) (hb : w.grownBy w' (some g)) : Env w' :=
  h.at_ hb.size fun k hk => hb.block k (by have := h.size; omega) (fun e => by injection e with e; omega)
/-- The text up to the first line feed, and what stands behind it. -/
def cutNl : Bs → Option (Bs × Bs)
  | [] => none
  | c :: r => if c = 10 then some ([], r) else (cutNl r).map fun (x, y) => (c :: x, y)
theorem cut_nl (s : ByteArray) (x y : Bs) (b : Bool) (h : Lib.cut s.data.toList [10] = (x, y, b)) (w : World) (hE : Env w) (hs : s.size < 4294967281) :
    Calls Tryd.prog 56 #[.string s, .string ⟨#[10]⟩] w fun e w' => e = .returned (.tuple #[.string ⟨x.toArray⟩, .string ⟨y.toArray⟩, .bool b]) ∧ ∃ k, w' = w.drewN k := by
  obtain ⟨m, hm⟩ := hE.maxLen
  have h' : Lib.cut s.data.toList (⟨#[10]⟩ : ByteArray).data.toList = (x, y, b) := h
  refine (Tryd.strings_Cut s ⟨#[10]⟩ m w hs hm).mono ?_
  rintro e w' ⟨rfl, hw⟩
  exact ⟨by rw [h'], hw⟩
theorem next_yes (g : Nat) (s : ByteArray) (n : Int) (v2 v3 : Value) (x y : Bs) (w : World) (hE : Env w) (hg : 8 ≤ g) (hs : s.size < 4294967281)
    (hR : RB w g s n v2 v3) (hn : 0 ≤ n) (hn' : n ≤ 4294967296) (hcut : Lib.cut s.data.toList [10] = (x, y, true)) :
    Calls Tryd.prog 45 #[.pointer (some ⟨g, 0, none⟩)] w fun e w' => e = .returned (.string ⟨x.toArray⟩) ∧ RB w' g ⟨y.toArray⟩ (n + 1) v2 v3 ∧ w.grownBy w' (some g) := by
  have HC := Lib.hid hcut
  have HE := Lib.hid hE
  have HG := Lib.hid hg
  have HR := Lib.hid hR
  have c0 := hR.c0
  have c1 := hR.c1
  have f0 := hR.fz 0
  have f1 := hR.fz 1
  have d0 := (hR.s1 (n + 1)).c0
  have e0 := (hR.s1 (n + 1)).fz 0
  clear hcut hE hg hR
  go_enter Tryd.func45, Tryd.ntmps45
  go_wp2_with (first
    | (go_at_call 56; refine (cut_nl s x y true HC.out _ (HE.out.grown HG.out (Lib.grownBy_setCell _ _ _ _)) hs).mono ?_; rintro e w' ⟨rfl, k, rfl⟩)
    | (go_at_call 48; refine (must_yes _ _).mono ?_; rintro e w' ⟨rfl, rfl⟩))
  go_ret
  exact ⟨rfl, ((HR.out.s1 _).drewN _).s0 _, Lib.grownBy_setB (grownBy_drewN (Lib.grownBy_setCell _ _ _ _) _) _ _⟩
theorem next_no (g : Nat) (s : ByteArray) (n : Int) (v2 v3 : Value) (x y : Bs) (w : World) (hE : Env w) (hg : 8 ≤ g) (hs : s.size < 4294967281)
    (hR : RB w g s n v2 v3) (hn : 0 ≤ n) (hn' : n ≤ 4294967296) (hcut : Lib.cut s.data.toList [10] = (x, y, false)) :
    Calls Tryd.prog 45 #[.pointer (some ⟨g, 0, none⟩)] w fun e w' => e = wrongE (n + 1) ∧ w.grownBy w' (some g) := by
  have HC := Lib.hid hcut
  have HE := Lib.hid hE
  have HG := Lib.hid hg
  have HR := Lib.hid hR
  have c0 := hR.c0
  have c1 := hR.c1
  have f0 := hR.fz 0
  have f1 := hR.fz 1
  have d0 := (hR.s1 (n + 1)).c0
  have e0 := (hR.s1 (n + 1)).fz 0
  clear hcut hE hg hR
  go_enter Tryd.func45, Tryd.ntmps45
  go_wp2_with (first
    | (go_at_call 56; refine (cut_nl s x y false HC.out _ (HE.out.grown HG.out (Lib.grownBy_setCell _ _ _ _)) hs).mono ?_; rintro e w' ⟨rfl, k, rfl⟩)
    | (go_at_call 48; refine (must_no g (n + 1) _ (((HR.out.s1 (n + 1)).drewN k).c1)).mono ?_; rintro e w' ⟨rfl, rfl⟩))
  exact ⟨rfl, rfl, grownBy_drewN (Lib.grownBy_setCell _ _ _ _) _⟩
end Go.Proofs.YtcamimfepcoggaaDoor
