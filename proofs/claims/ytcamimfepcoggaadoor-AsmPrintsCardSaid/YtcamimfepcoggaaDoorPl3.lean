/- Plain words: a text's lines; what reading them comes to: labels, lines, or the number of the line that is wrong. -/
import Derived.Test.YtcamimfepcoggaaDoorRd7
namespace Go.Proofs.YtcamimfepcoggaaDoor
/-- The lines that end in a line feed, and what stands behind the last. -/
def linesOf : Bs → List Bs × Bs
  | [] => ([], [])
  | c :: r => if c = 10 then ([] :: (linesOf r).1, (linesOf r).2) else match (linesOf r).1 with
    | [] => ([], c :: (linesOf r).2)
    | x :: xs => ((c :: x) :: xs, (linesOf r).2)
theorem linesOf_none : ∀ {t : Bs}, cutC 10 t = none → linesOf t = ([], t)
  | [], _ => rfl
  | c :: r, h => by
    unfold cutC at h
    split at h
    · cases h
    · rename_i hc
      have hr : cutC 10 r = none := by
        cases hr : cutC 10 r with
        | none => rfl
        | some p => rw [hr] at h; cases h
      unfold linesOf
      rw [if_neg hc, linesOf_none hr]
theorem linesOf_some : ∀ {t x y : Bs}, cutC 10 t = some (x, y) → linesOf t = (x :: (linesOf y).1, (linesOf y).2)
  | [], _, _, h => by cases h
  | c :: r, x, y, h => by
    unfold cutC at h
    split at h
    · rename_i hc
      injection h with h
      injection h with hx hy
      subst hx hy
      conv => lhs; unfold linesOf
      rw [if_pos hc]
    · rename_i hc
      cases hr : cutC 10 r with
      | none => rw [hr] at h; cases h
      | some p =>
        rw [hr] at h
        injection h with h
        injection h with hx hy
        have ih := linesOf_some hr
        conv => lhs; unfold linesOf
        rw [if_neg hc, ih]
        dsimp only
        rw [hx, hy]
theorem cutC_length : ∀ {c : UInt8} {t x y : Bs}, cutC c t = some (x, y) → x.length + 1 + y.length = t.length
  | _, [], _, _, h => by cases h
  | c, b :: r, x, y, h => by
    unfold cutC at h
    split at h
    · injection h with h
      injection h with hx hy
      subst hx hy
      simp; omega
    · cases hr : cutC c r with
      | none => rw [hr] at h; cases h
      | some p =>
        rw [hr] at h
        injection h with h
        injection h with hx hy
        have ih := cutC_length (x := p.1) (y := p.2) (hr.trans rfl)
        rw [← hx, ← hy]
        simp; omega
/-- What one line adds. -/
def oneLine (n : Int) (s : Bs) (st : List (Bs × Int) × List Ln) : Option (List (Bs × Int) × List Ln) := match s with
  | [] => some st
  | c :: l => if c = 35 then some st
    else if c = 58 then (if isLabelB l = true ∧ findL st.1 l = none then some (st.1 ++ [(l, (st.2.length : Int))], st.2) else none)
    else match insOf st.2.length (c :: l) with
      | none => none
      | some p => some (st.1, st.2 ++ [⟨p.1, p.2, n⟩])
inductive Res (α : Type) where
  | ok (a : α)
  | wrong (n : Int)
/-- The first pass: line by line. -/
def pass1 : List Bs → Bs → Int → List (Bs × Int) × List Ln → Res (Int × List (Bs × Int) × List Ln)
  | [], [], n, st => .ok (n, st)
  | [], _ :: _, n, _ => .wrong (n + 1)
  | x :: xs, rest, n, st => match oneLine (n + 1) x st with
    | none => .wrong (n + 1)
    | some st' => pass1 xs rest (n + 1) st'
/-- A line with its label's place. -/
def fixLine (labs : List (Bs × Int)) (l : Ln) : Option Ln :=
  if l.lab = [] then (if insOk l.i = true then some l else none)
  else match findL labs l.lab with
    | none => none
    | some a => if insOk (aimOf l.i a) = true then some ⟨aimOf l.i a, l.lab, l.n⟩ else none
/-- The second pass. -/
def pass2 (labs : List (Bs × Int)) : List Ln → Res (List Ln)
  | [] => .ok []
  | l :: ls => match fixLine labs l with
    | none => .wrong l.n
    | some x => match pass2 labs ls with
      | .wrong n => .wrong n
      | .ok xs => .ok (x :: xs)
/-- A text read whole. -/
def readL (t : Bs) : Res (List (Bs × Int) × List Ln) := match pass1 (linesOf t).1 (linesOf t).2 0 ([], []) with
  | .wrong n => .wrong n
  | .ok (_, labs, lines) => match pass2 labs lines with
    | .wrong n => .wrong n
    | .ok xs => .ok (labs, xs)
/-- The first pass over a text. -/
def p1 (t : Bs) (n : Int) (st : List (Bs × Int) × List Ln) : Res (Int × List (Bs × Int) × List Ln) := pass1 (linesOf t).1 (linesOf t).2 n st
theorem p1_nil (n : Int) (st : List (Bs × Int) × List Ln) : p1 [] n st = .ok (n, st) := rfl
theorem p1_none {t : Bs} (h : cutC 10 t = none) (ht : t ≠ []) (n : Int) (st : List (Bs × Int) × List Ln) : p1 t n st = .wrong (n + 1) := by
  unfold p1
  rw [linesOf_none h]
  cases t with
  | nil => exact absurd rfl ht
  | cons c r => rfl
theorem p1_bad {t x y : Bs} (h : cutC 10 t = some (x, y)) (n : Int) (st : List (Bs × Int) × List Ln) (ho : oneLine (n + 1) x st = none) : p1 t n st = .wrong (n + 1) := by
  unfold p1
  rw [linesOf_some h]
  unfold pass1
  rw [ho]
theorem p1_go {t x y : Bs} (h : cutC 10 t = some (x, y)) (n : Int) (st st' : List (Bs × Int) × List Ln) (ho : oneLine (n + 1) x st = some st') : p1 t n st = p1 y (n + 1) st' := by
  unfold p1
  rw [linesOf_some h]
  conv => lhs; unfold pass1
  rw [ho]
end Go.Proofs.YtcamimfepcoggaaDoor
