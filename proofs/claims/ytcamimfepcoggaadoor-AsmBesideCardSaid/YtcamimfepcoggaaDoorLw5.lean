/- Plain laws: an empty line, and one that begins with the sign for it, change nothing but the lines' numbers. -/
import Derived.Test.YtcamimfepcoggaaDoorLw4
namespace Go.Proofs.YtcamimfepcoggaaDoor
theorem linesOf_cons (c : UInt8) (r : Bs) : linesOf (c :: r) = if c = 10 then ([] :: (linesOf r).1, (linesOf r).2) else match (linesOf r).1 with
    | [] => ([], c :: (linesOf r).2)
    | x :: xs => ((c :: x) :: xs, (linesOf r).2) := rfl
theorem lines_mid : ∀ (a x : Bs), linesOf (a ++ 10 :: x) = ((linesOf a).1 ++ (linesOf a).2 :: (linesOf x).1, (linesOf x).2)
  | [], x => by
    show linesOf (10 :: x) = _
    rw [linesOf_cons, if_pos rfl]
    rfl
  | c :: r, x => by
    rw [List.cons_append, linesOf_cons, linesOf_cons c r, lines_mid r x]
    by_cases hc : c = 10
    · rw [if_pos hc, if_pos hc]
      rfl
    · rw [if_neg hc, if_neg hc]
      cases h1 : (linesOf r).1 with
      | nil => rfl
      | cons y ys => rfl
/-- A text whose last byte ends a line, ahead of another. -/
theorem lines_ahead (a : Bs) (h : a = [] ∨ ∃ b, a = b ++ [10]) : ∃ la, ∀ x, linesOf (a ++ x) = (la ++ (linesOf x).1, (linesOf x).2) := by
  rcases h with rfl | ⟨b, rfl⟩
  · exact ⟨[], fun x => rfl⟩
  · refine ⟨(linesOf b).1 ++ [(linesOf b).2], fun x => ?_⟩
    rw [List.append_assoc]
    show linesOf (b ++ 10 :: x) = _
    rw [lines_mid, List.append_assoc]
    rfl
theorem pass1_bad : ∀ (xs ys : List Bs) (rest : Bs) (n : Int) (st : List (Bs × Int) × List Ln) (m : Int), pass1 xs [] n st = .wrong m → pass1 (xs ++ ys) rest n st = .wrong m
  | [], ys, rest, n, st, m, h => by cases h
  | x :: xs, ys, rest, n, st, m, h => by
    rw [List.cons_append]
    unfold pass1 at h ⊢
    cases ho : oneLine (n + 1) x st with
    | none => rw [ho] at h; exact h
    | some st1 =>
      rw [ho] at h
      dsimp only at h ⊢
      exact pass1_bad xs ys rest (n + 1) st1 m h
/-- Lines that are alike but for their numbers. -/
inductive LR : List Ln → List Ln → Prop where
  | nil : LR [] []
  | cons (i : Ins) (lab : Bs) (n n' : Int) (ls ls' : List Ln) (hn : n' = n ∨ n' = n + 2) (h : LR ls ls') : LR (⟨i, lab, n⟩ :: ls) (⟨i, lab, n'⟩ :: ls')
theorem LR.refl : ∀ ls, LR ls ls
  | [] => .nil
  | ⟨i, lab, n⟩ :: ls => .cons i lab n n ls ls (.inl rfl) (LR.refl ls)
theorem LR.app {a a' b b' : List Ln} (h : LR a a') (k : LR b b') : LR (a ++ b) (a' ++ b') := by
  induction h with
  | nil => exact k
  | cons i lab n n' ls ls' hn _ ih => exact .cons i lab n n' _ _ hn ih
theorem LR.len {a a' : List Ln} (h : LR a a') : a'.length = a.length := by
  induction h with
  | nil => rfl
  | cons i lab n n' ls ls' hn _ ih => rw [List.length_cons, List.length_cons, ih]
theorem one_shift (n : Int) (s : Bs) (labs : List (Bs × Int)) (ls ls' : List Ln) (h : LR ls ls') :
    (oneLine n s (labs, ls) = none ∧ oneLine (n + 2) s (labs, ls') = none) ∨
    ∃ labs2 ls2 ls2', oneLine n s (labs, ls) = some (labs2, ls2) ∧ oneLine (n + 2) s (labs, ls') = some (labs2, ls2') ∧ LR ls2 ls2' := by
  have hlen := h.len
  cases s with
  | nil => exact .inr ⟨labs, ls, ls', rfl, rfl, h⟩
  | cons c l =>
    unfold oneLine
    dsimp only
    by_cases h1 : c = 35
    · rw [if_pos h1, if_pos h1]
      exact .inr ⟨labs, ls, ls', rfl, rfl, h⟩
    · rw [if_neg h1, if_neg h1]
      by_cases h2 : c = 58
      · rw [if_pos h2, if_pos h2]
        by_cases h3 : isLabelB l = true ∧ findL labs l = none
        · rw [if_pos h3, if_pos h3, hlen]
          exact .inr ⟨_, ls, ls', rfl, rfl, h⟩
        · rw [if_neg h3, if_neg h3]
          exact .inl ⟨rfl, rfl⟩
      · rw [if_neg h2, if_neg h2, hlen]
        cases hi : insOf ls.length (c :: l) with
        | none => exact .inl ⟨rfl, rfl⟩
        | some p => exact .inr ⟨labs, _, _, rfl, rfl, h.app (.cons p.1 p.2 n (n + 2) [] [] (.inr rfl) .nil)⟩
theorem pass_shift : ∀ (xs : List Bs) (rest : Bs) (n : Int) (labs : List (Bs × Int)) (ls ls' : List Ln), LR ls ls' →
    (∃ m, pass1 xs rest n (labs, ls) = .wrong m ∧ pass1 xs rest (n + 2) (labs, ls') = .wrong (m + 2)) ∨
    ∃ m m' labs2 ls2 ls2', pass1 xs rest n (labs, ls) = .ok (m, labs2, ls2) ∧ pass1 xs rest (n + 2) (labs, ls') = .ok (m', labs2, ls2') ∧ LR ls2 ls2'
  | [], [], n, labs, ls, ls', h => .inr ⟨n, n + 2, labs, ls, ls', rfl, rfl, h⟩
  | [], _ :: _, n, labs, ls, ls', h => .inl ⟨n + 1, rfl, by unfold pass1; congr 1; omega⟩
  | x :: xs, rest, n, labs, ls, ls', h => by
    unfold pass1
    rw [show n + 2 + 1 = n + 1 + 2 by omega]
    rcases one_shift (n + 1) x labs ls ls' h with ⟨h1, h2⟩ | ⟨labs2, ls2, ls2', h1, h2, h3⟩
    · rw [h1, h2]
      exact .inl ⟨n + 1, rfl, rfl⟩
    · rw [h1, h2]
      exact pass_shift xs rest (n + 1) labs2 ls2 ls2' h3
theorem pass2_shift (labs : List (Bs × Int)) {ls ls' : List Ln} (h : LR ls ls') :
    (∃ m m', pass2 labs ls = .wrong m ∧ pass2 labs ls' = .wrong m' ∧ (m' = m ∨ m' = m + 2)) ∨
    ∃ xs xs', pass2 labs ls = .ok xs ∧ pass2 labs ls' = .ok xs' ∧ xs.map (·.i) = xs'.map (·.i) := by
  induction h with
  | nil => exact .inr ⟨[], [], rfl, rfl, rfl⟩
  | cons i lab n n' ls ls' hn _ ih =>
    unfold pass2
    have hf : (fixLine labs ⟨i, lab, n⟩ = none ∧ fixLine labs ⟨i, lab, n'⟩ = none) ∨ ∃ x x', fixLine labs ⟨i, lab, n⟩ = some x ∧ fixLine labs ⟨i, lab, n'⟩ = some x' ∧ x.i = x'.i := by
      unfold fixLine
      dsimp only
      split
      · split
        · exact .inr ⟨_, _, rfl, rfl, rfl⟩
        · exact .inl ⟨rfl, rfl⟩
      · cases findL labs lab with
        | none => exact .inl ⟨rfl, rfl⟩
        | some a =>
          dsimp only
          split
          · exact .inr ⟨_, _, rfl, rfl, rfl⟩
          · exact .inl ⟨rfl, rfl⟩
    rcases hf with ⟨h1, h2⟩ | ⟨x, x', h1, h2, hx⟩
    · rw [h1, h2]
      exact .inl ⟨n, n', rfl, rfl, hn⟩
    · rw [h1, h2]
      dsimp only
      rcases ih with ⟨m, m', h3, h4, h5⟩ | ⟨xs, xs', h3, h4, h5⟩
      · rw [h3, h4]
        exact .inl ⟨m, m', rfl, rfl, h5⟩
      · rw [h3, h4]
        exact .inr ⟨_, _, rfl, rfl, by rw [List.map_cons, List.map_cons, hx, h5]⟩
theorem parse_beside (a note b : Bs) (ha : a = [] ∨ ∃ c, a = c ++ [10]) (hno : ∀ x ∈ note, x ≠ (10 : UInt8)) (hl : a.length + b.length ≤ 4000) (hn : note.length ≤ 4000) :
    ∃ q n n' er, parseL (a ++ b) = (q, n, er) ∧ parseL (a ++ (35 :: note ++ 10 :: 10 :: b)) = (q, n', er) ∧ ((er = 0 ∧ n = 0 ∧ n' = 0) ∨ (er = 130 ∧ (n' = n ∨ n' = n + 2))) := by
  obtain ⟨la, hla⟩ := lines_ahead a ha
  have h1 := hla b
  have h2 := hla (35 :: note ++ 10 :: 10 :: b)
  have h3 : linesOf (35 :: note ++ 10 :: 10 :: b) = ((35 :: note) :: [] :: (linesOf b).1, (linesOf b).2) := by
    rw [linesOf_line (a := 35 :: note) (b := 10 :: b) (fun x hx => by
      rcases List.mem_cons.1 hx with rfl | hx
      · decide
      · exact hno x hx)]
    rw [show (10 :: b : Bs) = [] ++ 10 :: b from rfl, linesOf_line (a := []) (b := b) (fun x hx => by cases hx)]
  rw [h3] at h2
  unfold parseL
  rw [if_neg (by rw [List.length_append]; omega), if_neg (by simp only [List.length_append, List.length_cons]; omega)]
  unfold readL
  rw [h1, h2]
  dsimp only
  cases hp : pass1 la [] 0 ([], []) with
  | wrong m =>
    rw [pass1_bad _ _ _ _ _ _ hp, pass1_bad _ _ _ _ _ _ hp]
    exact ⟨[], m, m, 130, rfl, rfl, .inr ⟨rfl, .inl rfl⟩⟩
  | ok r =>
    obtain ⟨n0, labs0, ls0⟩ := r
    rw [pass1_app _ _ _ _ _ _ _ hp, pass1_app _ _ _ _ _ _ _ hp]
    have h4 : pass1 ((35 :: note) :: [] :: (linesOf b).1) (linesOf b).2 n0 (labs0, ls0) = pass1 (linesOf b).1 (linesOf b).2 (n0 + 2) (labs0, ls0) := by
      rw [pass1]
      have e1 : oneLine (n0 + 1) (35 :: note) (labs0, ls0) = some (labs0, ls0) := by
        unfold oneLine
        dsimp only
        rw [if_pos rfl]
      rw [e1]
      dsimp only
      rw [pass1]
      have e2 : oneLine (n0 + 1 + 1) [] (labs0, ls0) = some (labs0, ls0) := rfl
      rw [e2]
      dsimp only
      rw [show n0 + 1 + 1 = n0 + 2 by omega]
    rw [h4]
    rcases pass_shift (linesOf b).1 (linesOf b).2 n0 labs0 ls0 ls0 (LR.refl _) with ⟨m, h5, h6⟩ | ⟨m, m', labs2, ls2, ls2', h5, h6, h7⟩
    · rw [h5, h6]
      exact ⟨[], m, m + 2, 130, rfl, rfl, .inr ⟨rfl, .inr rfl⟩⟩
    · rw [h5, h6]
      dsimp only
      rcases pass2_shift labs2 h7 with ⟨k, k', h8, h9, h10⟩ | ⟨xs, xs', h8, h9, h10⟩
      · rw [h8, h9]
        exact ⟨[], k, k', 130, rfl, rfl, .inr ⟨rfl, h10⟩⟩
      · rw [h8, h9]
        exact ⟨xs.map (·.i), 0, 0, 0, rfl, by rw [h10], .inl ⟨rfl, rfl, rfl⟩⟩
theorem lines_count : ∀ t : Bs, (linesOf t).1.length ≤ t.length
  | [] => Nat.le_refl _
  | c :: r => by
    have ih := lines_count r
    unfold linesOf
    split
    · simp only [List.length_cons]; omega
    · split
      · simp
      · rename_i x xs hx
        rw [hx] at ih
        simp only [List.length_cons] at ih ⊢
        omega
theorem one_num {n : Int} {s : Bs} {st st' : List (Bs × Int) × List Ln} (h : oneLine n s st = some st') {b : Int} (hb : n ≤ b) (hl : ∀ l ∈ st.2, l.n ≤ b) : ∀ l ∈ st'.2, l.n ≤ b := by
  unfold oneLine at h
  split at h
  · injection h with h; rw [← h]; exact hl
  · split at h
    · injection h with h; rw [← h]; exact hl
    · split at h
      · split at h
        · injection h with h; rw [← h]; exact hl
        · cases h
      · split at h
        · cases h
        · injection h with h
          rw [← h]
          intro l hm
          rcases List.mem_append.1 hm with hm | hm
          · exact hl l hm
          · simp only [List.mem_singleton] at hm
            rw [hm]; exact hb
theorem pass1_num : ∀ (xs : List Bs) (rest : Bs) (n : Int) (st : List (Bs × Int) × List Ln) (b : Int), n + xs.length + 1 ≤ b → (∀ l ∈ st.2, l.n ≤ b) →
    match pass1 xs rest n st with
    | .wrong m => m ≤ b
    | .ok (_, st') => ∀ l ∈ st'.2, l.n ≤ b
  | [], [], n, st, b, hb, hl => hl
  | [], _ :: _, n, st, b, hb, hl => by
    show n + 1 ≤ b
    simpa using hb
  | x :: xs, rest, n, st, b, hb, hl => by
    rw [List.length_cons] at hb
    unfold pass1
    cases ho : oneLine (n + 1) x st with
    | none =>
      show n + 1 ≤ b
      omega
    | some st1 => exact pass1_num xs rest (n + 1) st1 b (by omega) (one_num ho (by omega) hl)
theorem pass2_num (labs : List (Bs × Int)) (b : Int) : ∀ (ls : List Ln), (∀ l ∈ ls, l.n ≤ b) → ∀ m, pass2 labs ls = .wrong m → m ≤ b
  | [], _, m, h => by cases h
  | l :: ls, hl, m, h => by
    unfold pass2 at h
    cases hf : fixLine labs l with
    | none =>
      rw [hf] at h
      injection h with h
      rw [← h]
      exact hl l (by simp)
    | some x =>
      rw [hf] at h
      dsimp only at h
      cases hp : pass2 labs ls with
      | wrong k =>
        rw [hp] at h
        injection h with h
        rw [← h]
        exact pass2_num labs b ls (fun y hy => hl y (List.mem_cons_of_mem _ hy)) k hp
      | ok ys => rw [hp] at h; cases h
/-- The line's number is no greater than the text is long, and one. -/
theorem parse_num {T : Bs} {q : List Ins} {n er : Int} (h : parseL T = (q, n, er)) : n ≤ T.length + 1 := by
  unfold parseL at h
  split at h
  · injection h with _ h
    injection h with h _
    omega
  · cases hr : readL T with
    | ok p =>
      obtain ⟨labs, lines⟩ := p
      rw [hr] at h
      injection h with _ h
      injection h with h _
      omega
    | wrong m =>
      rw [hr] at h
      injection h with _ h
      injection h with h _
      rw [← h]
      have hc := lines_count T
      have h1 := pass1_num (linesOf T).1 (linesOf T).2 0 ([], []) (T.length + 1) (by omega) (fun l hl => by cases hl)
      unfold readL at hr
      cases hp : pass1 (linesOf T).1 (linesOf T).2 0 ([], []) with
      | wrong k =>
        rw [hp] at hr h1
        injection hr with hr
        rw [← hr]
        exact h1
      | ok r =>
        obtain ⟨n0, labs, lines⟩ := r
        rw [hp] at hr h1
        dsimp only at hr h1
        cases h2 : pass2 labs lines with
        | ok xs => rw [h2] at hr; cases hr
        | wrong k =>
          rw [h2] at hr
          injection hr with hr
          rw [← hr]
          exact pass2_num labs _ lines h1 k h2
theorem pass1_pos : ∀ (xs : List Bs) (rest : Bs) (n : Int) (st : List (Bs × Int) × List Ln), 0 ≤ n → (∀ l ∈ st.2, 0 ≤ l.n) →
    match pass1 xs rest n st with
    | .wrong m => 0 ≤ m
    | .ok (_, st') => ∀ l ∈ st'.2, 0 ≤ l.n
  | [], [], n, st, _, hl => hl
  | [], _ :: _, n, st, h, _ => by
    show 0 ≤ n + 1
    omega
  | x :: xs, rest, n, st, h, hl => by
    unfold pass1
    cases ho : oneLine (n + 1) x st with
    | none =>
      show 0 ≤ n + 1
      omega
    | some st1 =>
      refine pass1_pos xs rest (n + 1) st1 (by omega) ?_
      unfold oneLine at ho
      split at ho
      · injection ho with ho; rw [← ho]; exact hl
      · split at ho
        · injection ho with ho; rw [← ho]; exact hl
        · split at ho
          · split at ho
            · injection ho with ho; rw [← ho]; exact hl
            · cases ho
          · split at ho
            · cases ho
            · injection ho with ho
              rw [← ho]
              intro l hm
              rcases List.mem_append.1 hm with hm | hm
              · exact hl l hm
              · simp only [List.mem_singleton] at hm
                rw [hm]
                show 0 ≤ n + 1
                omega
theorem pass2_pos (labs : List (Bs × Int)) : ∀ (ls : List Ln), (∀ l ∈ ls, 0 ≤ l.n) → ∀ m, pass2 labs ls = .wrong m → 0 ≤ m
  | [], _, m, h => by cases h
  | l :: ls, hl, m, h => by
    unfold pass2 at h
    cases hf : fixLine labs l with
    | none =>
      rw [hf] at h
      injection h with h
      rw [← h]
      exact hl l (by simp)
    | some x =>
      rw [hf] at h
      dsimp only at h
      cases hp : pass2 labs ls with
      | wrong k =>
        rw [hp] at h
        injection h with h
        rw [← h]
        exact pass2_pos labs ls (fun y hy => hl y (List.mem_cons_of_mem _ hy)) k hp
      | ok ys => rw [hp] at h; cases h
theorem parse_pos {T : Bs} {q : List Ins} {n er : Int} (h : parseL T = (q, n, er)) : 0 ≤ n := by
  unfold parseL at h
  split at h
  · injection h with _ h
    injection h with h _
    omega
  · cases hr : readL T with
    | ok p =>
      obtain ⟨labs, lines⟩ := p
      rw [hr] at h
      injection h with _ h
      injection h with h _
      omega
    | wrong m =>
      rw [hr] at h
      injection h with _ h
      injection h with h _
      rw [← h]
      have h1 := pass1_pos (linesOf T).1 (linesOf T).2 0 ([], []) (Int.le_refl _) (fun l hl => by cases hl)
      unfold readL at hr
      cases hp : pass1 (linesOf T).1 (linesOf T).2 0 ([], []) with
      | wrong k =>
        rw [hp] at hr h1
        injection hr with hr
        rw [← hr]
        exact h1
      | ok r =>
        obtain ⟨n0, labs, lines⟩ := r
        rw [hp] at hr h1
        dsimp only at hr h1
        cases h2 : pass2 labs lines with
        | ok xs => rw [h2] at hr; cases hr
        | wrong k =>
          rw [h2] at hr
          injection hr with hr
          rw [← hr]
          exact pass2_pos labs lines h1 k h2
end Go.Proofs.YtcamimfepcoggaaDoor
