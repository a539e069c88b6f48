/- How the lines that were read stand in memory; and what a line's words come to. -/
import Derived.Test.YtcamimfepcoggaaDoorWd3
import Derived.Test.YtcamimfepcoggaaDoorPl2
import Derived.Lib.OwnKind
namespace Go.Proofs.YtcamimfepcoggaaDoor
open Go.RowKit
/-- A line that was read: its instruction, the label that it names, its number. -/
structure Ln where
  i : Ins
  lab : Bs
  n : Int
def lnCells (l : Ln) : List Value := [.int .i64 l.i.1, .int .i64 l.i.2.1, .int .i64 l.i.2.2.1, .int .i64 l.i.2.2.2, .string ⟨l.lab.toArray⟩, .int .i64 l.n]
def linCells (ls : List Ln) : List Value := ls.flatMap lnCells
theorem linCells_length (ls : List Ln) : (linCells ls).length = ls.length * 6 := by
  induction ls with
  | nil => rfl
  | cons x r ih =>
    have e : linCells (x :: r) = lnCells x ++ linCells r := rfl
    rw [e, List.length_append, ih]
    simp [lnCells]; omega
theorem linCells_app (ls : List Ln) (x : Ln) : linCells (ls ++ [x]) = linCells ls ++ lnCells x := by simp [linCells]
theorem labCells_length (ls : List (Bs × Int)) : (labCells ls).length = ls.length * 2 := by
  induction ls with
  | nil => rfl
  | cons x r ih =>
    have e : labCells (x :: r) = .string ⟨x.1.toArray⟩ :: .int .i64 x.2 :: labCells r := rfl
    rw [e, List.length_cons, List.length_cons, ih]
    simp; omega
theorem labCells_app (ls : List (Bs × Int)) (x : Bs × Int) : labCells (ls ++ [x]) = labCells ls ++ [.string ⟨x.1.toArray⟩, .int .i64 x.2] := by simp [labCells]
/-- The reader at g: what is left of the text, the line's number, the labels, the lines. -/
def St (w : World) (g : Nat) (t : ByteArray) (n : Int) (labs : List (Bs × Int)) (lines : List Ln) : Prop :=
  ∃ v2 v3, RB w g t n v2 v3 ∧ w.ownsRow (g + 1) 106 2 v2 labs.length (labCells labs) ∧ w.ownsRow (g + 1) 80 6 v3 lines.length (linCells lines)
theorem ownB_lt {w : World} {B e size n : Nat} {v : Value} {xs : List Value} (h : w.ownsRow B e size v n xs) (k : Nat) (hk : w.heap.size ≤ k) : v.ownBlock ≠ some k := by
  intro he
  have := (h.lt k he).2
  omega
theorem ownB_ge {w : World} {B e size n : Nat} {v : Value} {xs : List Value} (h : w.ownsRow B e size v n xs) (k : Nat) (hk : k < B) : v.ownBlock ≠ some k := by
  intro he
  have := (h.lt k he).1
  omega
theorem own_below {w w' : World} {B e size n : Nat} {v : Value} {xs : List Value} (h : w.ownsRow B e size v n xs) (hb : Below w.heap.size w w') : w'.ownsRow B e size v n xs :=
  h.kept (row := none) ⟨hb.os, hb.tape, hb.output, hb.size, fun k hk _ => hb.block k hk⟩ (by cases v.ownBlock <;> simp)
theorem grownBy_below {w w' : World} {r : Option Nat} (hb : Below w.heap.size w w') : w.grownBy w' r := ⟨hb.os, hb.tape, hb.output, hb.size, fun k hk _ => hb.block k hk⟩
theorem grownBy_tr {a b c : World} {r : Option Nat} (h : a.grownBy b r) (k : b.grownBy c r) : a.grownBy c r :=
  ⟨k.os.trans h.os, k.tape.trans h.tape, k.output.trans h.output, Nat.le_trans h.size k.size, fun j hj hr => (k.block j (Nat.lt_of_lt_of_le hj h.size) hr).trans (h.block j hj hr)⟩
theorem below_grown {a b : World} {X : Nat} (h : a.grownBy b (some X)) (hX : a.heap.size ≤ X) : Below a.heap.size a b :=
  ⟨h.os, h.tape, h.output, h.size, fun k hk => h.block k hk (fun e => by injection e with e; omega)⟩
def sortAt (op : Int) : Nat → Int
  | 0 => (sortsOf op).1
  | 1 => (sortsOf op).2.1
  | _ => (sortsOf op).2.2
def setAt (i : Ins) (k : Nat) (m : Int) : Ins := match k with
  | 0 => (i.1, m, i.2.2)
  | 1 => (i.1, i.2.1, m, i.2.2.2)
  | _ => (i.1, i.2.1, i.2.2.1, m)
/-- The words of a line from the k-th on, into the instruction and the label so far. -/
def readWords (op : Int) : Nat → List Bs → Ins × Bs → Option (Ins × Bs)
  | _, [], x => some x
  | k, w :: ws, x => match wordL (sortAt op k) w with
    | none => none
    | some (m, l) => readWords op (k + 1) ws (setAt x.1 k m, if l = [] then x.2 else l)
/-- A line's instruction. -/
def insL (text : Bs) : Option (Ins × Bs) := match splitC 32 text with
  | [] => none
  | w0 :: ws => if (byName w0).2 = true ∧ ws.length = operands (byName w0).1 then readWords (byName w0).1 0 ws (((byName w0).1, 0, 0, 0), []) else none
theorem sortAt_012 (op : Int) (k : Nat) : sortAt op k = 0 ∨ sortAt op k = 1 ∨ sortAt op k = 2 := by
  obtain ⟨h0, h1, h2⟩ := sorts_012 op
  match k with
  | 0 => exact h0
  | 1 => exact h1
  | _ + 2 => exact h2
theorem byName_bounds (s : Bs) (h : (byName s).2 = true) : 1 ≤ (byName s).1 ∧ (byName s).1 ≤ 20 := by
  unfold byName at h ⊢
  cases hf : (List.range 20).find? (fun j => nmAt (j + 1) == s) with
  | none => rw [hf] at h; cases h
  | some j =>
    have := List.mem_of_find?_eq_some hf
    simp at this
    dsimp only
    omega
theorem inf80 : Option.map (fun i => (i.zero, i.size, i.bytes)) (Tryd.prog.info? 80) = some (some (.agg #[.int .i64 0, .int .i64 0, .int .i64 0, .int .i64 0, .string ⟨#[]⟩, .int .i64 0]), 6, 56) := by kernel_rfl
theorem inf106 : Option.map (fun i => (i.zero, i.size, i.bytes)) (Tryd.prog.info? 106) = some (some (.agg #[.string ⟨#[]⟩, .int .i64 0]), 2, 24) := by kernel_rfl
theorem inf25 : Option.map (fun i => (i.zero, i.size, i.bytes)) (Tryd.prog.info? 25) = some (some (.agg #[.int .i64 0, .int .i64 0, .int .i64 0, .int .i64 0]), 4, 32) := by kernel_rfl
theorem own_ne {w : World} {B B' e e' size size' n n' : Nat} {v v' : Value} {xs xs' : List Value} (h : w.ownsRow B e size v n xs) (h' : w.ownsRow B' e' size' v' n' xs') (hne : e ≠ e') : v.ownBlock = none ∨ v.ownBlock ≠ v'.ownBlock := by
  cases hv : v.ownBlock with
  | none => exact .inl rfl
  | some k =>
    refine .inr fun hk => ?_
    obtain ⟨c, f, h1⟩ := Lib.ownsRow_kind h k hv
    obtain ⟨c', f', h2⟩ := Lib.ownsRow_kind h' k hk.symm
    rw [h1] at h2
    injection h2 with h2
    injection h2 with _ h2 _
    exact hne h2
theorem word_some {g : Nat} {n q v : Int} {s l : Bs} {w : World} (hw : wordL q s = some (v, l)) (hq : q = 0 ∨ q = 1 ∨ q = 2) (hc : w.cell? ⟨g, 1, none⟩ = some (.int .i64 n)) (hg : g < w.heap.size) (hs : (⟨s.toArray⟩ : ByteArray).size < 4294967281) (hE : Env w) :
    Calls Tryd.prog 60 #[.pointer (some ⟨g, 0, none⟩), .int .i64 q, .string ⟨s.toArray⟩] w fun e w' => e = .returned (.tuple #[.int .i64 v, .string ⟨l.toArray⟩]) ∧ Below w.heap.size w w' := by
  refine (word_any g n q ⟨s.toArray⟩ w hq hc hg hs hE).mono ?_
  rintro e w' ⟨hb, h⟩
  rw [show (⟨s.toArray⟩ : ByteArray).data.toList = s from rfl, hw] at h
  exact ⟨h, hb⟩
theorem word_none {g : Nat} {n q : Int} {s : Bs} {w : World} (hw : wordL q s = none) (hq : q = 0 ∨ q = 1 ∨ q = 2) (hc : w.cell? ⟨g, 1, none⟩ = some (.int .i64 n)) (hg : g < w.heap.size) (hs : (⟨s.toArray⟩ : ByteArray).size < 4294967281) (hE : Env w) :
    Calls Tryd.prog 60 #[.pointer (some ⟨g, 0, none⟩), .int .i64 q, .string ⟨s.toArray⟩] w fun e w' => e = wrongE n ∧ Below w.heap.size w w' := by
  refine (word_any g n q ⟨s.toArray⟩ w hq hc hg hs hE).mono ?_
  rintro e w' ⟨hb, h⟩
  rw [show (⟨s.toArray⟩ : ByteArray).data.toList = s from rfl, hw] at h
  exact ⟨h, hb⟩
theorem bodyPost_panic {P : Program} {fn : Func} {R : Ending → World → Prop} {a : Act} {w : World} {chain} (hd : a.defers = []) (hR : R (.panicked chain) w) : bodyPost P fn R (.panic chain) a w := ⟨hd, hR⟩
end Go.Proofs.YtcamimfepcoggaaDoor
