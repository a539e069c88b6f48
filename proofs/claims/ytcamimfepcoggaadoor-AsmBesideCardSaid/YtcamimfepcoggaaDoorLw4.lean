/- Plain laws: a program's text, read again, is that program; what was read can be printed. -/
import Derived.Test.YtcamimfepcoggaaDoorLw2
namespace Go.Proofs.YtcamimfepcoggaaDoor
/-- The labels that stand ahead of a place. -/
def labsK (p : List Ins) : Nat → List (Bs × Int)
  | 0 => []
  | k + 1 => labsK p k ++ (if 0 < cntAt p k then [(76 :: Lib.itoa (k : Int), (k : Int))] else [])
/-- A program's lines ahead of a place. -/
def linesK (p : List Ins) : Nat → List Bs
  | 0 => []
  | k + 1 => linesK p k ++ ((if 0 < cntAt p k then [58 :: 76 :: Lib.itoa (k : Int)] else []) ++ (match p[k]? with
    | some i => [lineOf i]
    | none => []))
theorem joinL_app (a b : List Bs) : joinL (a ++ b) = joinL a ++ joinL b := by simp [joinL]
theorem textK_join (p : List Ins) : ∀ k, textK p k = joinL (linesK p k)
  | 0 => rfl
  | k + 1 => by
    show textK p k ++ placeT p k = joinL (linesK p k ++ _)
    rw [joinL_app, joinL_app, ← textK_join p k]
    congr 1
    unfold placeT
    congr 1
    · by_cases h : 0 < cntAt p k
      · rw [if_pos h, if_pos h]; simp [joinL]
      · rw [if_neg h, if_neg h]; rfl
    · cases p[k]? with
      | none => rfl
      | some i => simp [joinL]
theorem pass1_app : ∀ (xs ys : List Bs) (rest : Bs) (n : Int) (st : List (Bs × Int) × List Ln) (m : Int) (st' : List (Bs × Int) × List Ln), pass1 xs [] n st = .ok (m, st') → pass1 (xs ++ ys) rest n st = pass1 ys rest m st'
  | [], ys, rest, n, st, m, st', h => by
    injection h with h
    injection h with h1 h2
    rw [← h1, ← h2]; rfl
  | x :: xs, ys, rest, n, st, m, st', h => by
    rw [List.cons_append]
    unfold pass1 at h
    conv => lhs; unfold pass1
    cases ho : oneLine (n + 1) x st with
    | none => rw [ho] at h; cases h
    | some st1 =>
      rw [ho] at h
      dsimp only at h ⊢
      exact pass1_app xs ys rest (n + 1) st1 m st' h
theorem findL_app (a b : List (Bs × Int)) (s : Bs) : findL (a ++ b) s = (findL a s).or (findL b s) := by
  unfold findL
  rw [List.find?_append]
  cases a.find? (fun l => l.1 == s) <;> rfl
theorem findL_one (s t : Bs) (a : Int) : findL [(t, a)] s = if t = s then some a else none := by
  unfold findL
  by_cases h : t = s
  · simp [h]
  · simp [h]
theorem lab_inj {j t : Nat} (hj : j ≤ 1000) (ht : t ≤ 1000) (h : (76 :: Lib.itoa (j : Int) : Bs) = 76 :: Lib.itoa (t : Int)) : j = t := by
  injection h with _ h
  have := itoa_inj h (by omega) (by omega) (by omega) (by omega)
  omega
theorem labs_none (p : List Ins) (t : Nat) (ht : t ≤ 1000) : ∀ k, k ≤ 1000 → k ≤ t → findL (labsK p k) (76 :: Lib.itoa (t : Int)) = none
  | 0, _, _ => rfl
  | k + 1, hk, hkt => by
    unfold labsK
    rw [findL_app, labs_none p t ht k (by omega) (by omega)]
    split
    · rw [findL_one, if_neg (fun e => by have := lab_inj (by omega) ht e; omega)]; rfl
    · rfl
theorem labs_hit (p : List Ins) (t : Nat) (ht : t ≤ 1000) (hc : 0 < cntAt p t) : ∀ k, k ≤ 1000 → t < k → findL (labsK p k) (76 :: Lib.itoa (t : Int)) = some (t : Int)
  | 0, _, h => absurd h (by omega)
  | k + 1, hk, hkt => by
    unfold labsK
    rw [findL_app]
    by_cases e : t = k
    · subst e
      rw [labs_none p t ht t (by omega) (Nat.le_refl _), if_pos hc, findL_one, if_pos rfl]
      rfl
    · rw [labs_hit p t ht hc k (by omega) (by omega)]
      rfl
theorem read_k (p : List Ins) (hn : p.length ≤ 512) (hok : ∀ i ∈ p, insOk i = true) : ∀ k, k ≤ p.length + 1 → ∃ m lns, pass1 (linesK p k) [] 0 ([], []) = .ok (m, (labsK p k, lns)) ∧ lns.map (fun l => (l.i, l.lab)) = (p.take k).map rdOf
  | 0, _ => ⟨0, [], rfl, rfl⟩
  | k + 1, hk => by
    obtain ⟨m, lns, h1, h2⟩ := read_k p hn hok k (by omega)
    have hlen : lns.length = k := by
      have := congrArg List.length h2
      simp only [List.length_map, List.length_take] at this
      omega
    have step1 : ∃ m1, pass1 (if 0 < cntAt p k then [58 :: 76 :: Lib.itoa (k : Int)] else []) [] m (labsK p k, lns) = .ok (m1, (labsK p (k + 1), lns)) := by
      by_cases hc : 0 < cntAt p k
      · rw [if_pos hc]
        refine ⟨m + 1, ?_⟩
        have ho : oneLine (m + 1) (58 :: 76 :: Lib.itoa (k : Int)) (labsK p k, lns) = some (labsK p (k + 1), lns) := by
          unfold oneLine
          dsimp only
          rw [if_neg (by decide), if_pos rfl, if_pos ⟨lab_ok (k : Int) (by omega) (by omega), labs_none p k (by omega) k (by omega) (Nat.le_refl _)⟩, hlen]
          show some (_, _) = some (labsK p k ++ (if 0 < cntAt p k then _ else _), _)
          rw [if_pos hc]
        unfold pass1
        rw [ho]
        rfl
      · rw [if_neg hc]
        refine ⟨m, ?_⟩
        show Res.ok (m, labsK p k, lns) = Res.ok (m, labsK p k ++ (if 0 < cntAt p k then _ else _), lns)
        rw [if_neg hc, List.append_nil]
    obtain ⟨m1, h3⟩ := step1
    have h4 := pass1_app _ ((if 0 < cntAt p k then [58 :: 76 :: Lib.itoa (k : Int)] else []) ++ (match p[k]? with
      | some i => [lineOf i]
      | none => [])) [] 0 ([], []) m _ h1
    have h5 := pass1_app _ (match p[k]? with
      | some i => [lineOf i]
      | none => []) [] m (labsK p k, lns) m1 _ h3
    by_cases hlt : k < p.length
    · rw [List.getElem?_eq_getElem hlt] at h4 h5
      have ho := oneLine_ins (hok p[k] (List.getElem_mem hlt)) (m1 + 1) (labsK p (k + 1), lns) (by rw [hlen]; omega)
      refine ⟨m1 + 1, lns ++ [⟨(rdOf p[k]).1, (rdOf p[k]).2, m1 + 1⟩], ?_, ?_⟩
      · show pass1 (linesK p k ++ _) [] 0 ([], []) = _
        rw [List.getElem?_eq_getElem hlt, h4, h5]
        unfold pass1
        rw [ho]
        rfl
      · rw [List.map_append, h2, List.take_succ_eq_append_getElem hlt, List.map_append]
        rfl
    · rw [List.getElem?_eq_none (by omega)] at h4 h5
      refine ⟨m1, lns, ?_, ?_⟩
      · show pass1 (linesK p k ++ _) [] 0 ([], []) = _
        rw [List.getElem?_eq_none (by omega), h4, h5]
        rfl
      · rw [h2, List.take_of_length_le (by omega), List.take_of_length_le (by omega)]
theorem lines_no10 (p : List Ins) (hok : ∀ i ∈ p, insOk i = true) : ∀ k, ∀ l ∈ linesK p k, ∀ x ∈ l, x ≠ (10 : UInt8)
  | 0, l, hl => by cases hl
  | k + 1, l, hl => by
    have hl' : l ∈ linesK p k ++ ((if 0 < cntAt p k then [58 :: 76 :: Lib.itoa (k : Int)] else []) ++ (match p[k]? with
      | some i => [lineOf i]
      | none => [])) := hl
    rcases List.mem_append.1 hl' with h | h
    · exact lines_no10 p hok k l h
    · rcases List.mem_append.1 h with h | h
      · split at h
        · simp only [List.mem_singleton] at h
          subst h
          intro x hx
          rcases List.mem_cons.1 hx with rfl | hx
          · decide
          · rcases List.mem_cons.1 hx with rfl | hx
            · decide
            · exact (itoa_plain _ x hx).2
        · cases h
      · by_cases hlt : k < p.length
        · rw [List.getElem?_eq_getElem hlt] at h
          simp only [List.mem_singleton] at h
          subst h
          exact lineOf_no10 (hok _ (List.getElem_mem hlt))
        · rw [List.getElem?_eq_none (by omega)] at h
          cases h
theorem okAt_le {n : Nat} {i : Ins} (h : okAt n i = true) (ht : (targetOf i).2 = true) : (targetOf i).1 ≤ (n : Int) := by
  unfold okAt at h
  rw [ht, Bool.and_eq_true] at h
  simpa using h.2
theorem cnt_pos {p : List Ins} {i : Ins} (hi : i ∈ p) (t : Nat) (ht : targetOf i = ((t : Int), true)) : 0 < cntAt p t := by
  unfold cntAt
  refine List.length_pos_of_mem (List.mem_filter.2 ⟨hi, ?_⟩)
  unfold aimsAt
  rw [ht]
  simp
/-- A line with its label's place is its instruction again. -/
theorem fix_rd (p : List Ins) (hn : p.length ≤ 512) {i : Ins} (hi : i ∈ p) (hok : okAt p.length i = true) (l : Ln) (hl : (l.i, l.lab) = rdOf i) : ∃ x, fixLine (labsK p (p.length + 1)) l = some x ∧ x.i = i := by
  have hio := okAt_ok hok
  obtain ⟨⟨b1, b2⟩, f0, f1, f2⟩ := insOk_parts hio
  obtain ⟨op, a, b, c⟩ := i
  obtain ⟨li, ll, ln⟩ := l
  dsimp only at hl b1 b2 f0 f1 f2
  by_cases h8 : op = 8
  · subst h8
    have b0 : b = 0 := fits_zero f1
    have c0 : c = 0 := fits_zero f2
    subst b0 c0
    have hr : rdOf (8, a, 0, 0) = ((8, 0, 0, 0), 76 :: Lib.itoa a) := rfl
    rw [hr] at hl
    injection hl with e1 e2
    subst e1 e2
    have ha : 0 ≤ a ∧ a ≤ 512 := by simpa [formOf, formT, fitsB, withinB] using f0
    obtain ⟨t, rfl⟩ : ∃ t : Nat, a = (t : Int) := ⟨a.toNat, by omega⟩
    have hle := okAt_le hok rfl
    have hle' : (t : Int) ≤ (p.length : Int) := hle
    have hc := cnt_pos hi t rfl
    refine ⟨⟨(8, (t : Int), 0, 0), 76 :: Lib.itoa (t : Int), ln⟩, ?_, rfl⟩
    unfold fixLine
    dsimp only
    rw [if_neg (lab_ne _), labs_hit p t (by omega) hc (p.length + 1) (by omega) (by omega)]
    have ha : aimOf (8, 0, 0, 0) (t : Int) = (8, (t : Int), 0, 0) := rfl
    dsimp only
    rw [ha, if_pos hio]
  · by_cases h9 : op = 9
    · subst h9
      have c0 : c = 0 := fits_zero f2
      subst c0
      have hr : rdOf (9, a, b, 0) = ((9, a, 0, 0), 76 :: Lib.itoa b) := rfl
      rw [hr] at hl
      injection hl with e1 e2
      subst e1 e2
      have hb : 0 ≤ b ∧ b ≤ 512 := by simpa [formOf, formT, fitsB, withinB] using f1
      obtain ⟨t, rfl⟩ : ∃ t : Nat, b = (t : Int) := ⟨b.toNat, by omega⟩
      have hle := okAt_le hok rfl
      have hle' : (t : Int) ≤ (p.length : Int) := hle
      have hc := cnt_pos hi t rfl
      refine ⟨⟨(9, a, (t : Int), 0), 76 :: Lib.itoa (t : Int), ln⟩, ?_, rfl⟩
      unfold fixLine
      dsimp only
      rw [if_neg (lab_ne _), labs_hit p t (by omega) hc (p.length + 1) (by omega) (by omega)]
      have ha : aimOf (9, a, 0, 0) (t : Int) = (9, a, (t : Int), 0) := rfl
      dsimp only
      rw [ha, if_pos hio]
    · rw [rd_plain (i := (op, a, b, c)) h8 h9] at hl
      injection hl with e1 e2
      subst e1 e2
      exact ⟨_, by unfold fixLine; dsimp only; rw [if_pos rfl, if_pos hio], rfl⟩
theorem pass2_rd (p : List Ins) (hn : p.length ≤ 512) (hok : ∀ i ∈ p, okAt p.length i = true) : ∀ (q : List Ins) (lns : List Ln), (∀ i ∈ q, i ∈ p) → lns.map (fun l => (l.i, l.lab)) = q.map rdOf → ∃ xs, pass2 (labsK p (p.length + 1)) lns = .ok xs ∧ xs.map (·.i) = q
  | [], lns, _, h => by
    have : lns = [] := by simpa using h
    subst this
    exact ⟨[], rfl, rfl⟩
  | i :: q, [], _, h => by simp at h
  | i :: q, l :: lns, hq, h => by
    rw [List.map_cons, List.map_cons] at h
    injection h with h1 h2
    obtain ⟨x, hx, hxi⟩ := fix_rd p hn (hq i (by simp)) (hok i (hq i (by simp))) l h1
    obtain ⟨xs, hp, he⟩ := pass2_rd p hn hok q lns (fun j hj => hq j (List.mem_cons_of_mem _ hj)) h2
    refine ⟨x :: xs, ?_, by rw [List.map_cons, hxi, he]⟩
    unfold pass2
    rw [hx]
    dsimp only
    rw [hp]
/-- WHAT IS PRINTED IS READ. -/
theorem parse_print {p : List Ins} {t : Bs} (h : printL p = (t, 0)) : parseL t = (p, 0, 0) := by
  unfold printL at h
  split at h
  · cases h
  · rename_i hn
    split at h
    · rename_i hall
      injection h with ht _
      have hok : ∀ i ∈ p, okAt p.length i = true := by rw [List.all_eq_true] at hall; exact hall
      have hio : ∀ i ∈ p, insOk i = true := fun i hi => okAt_ok (hok i hi)
      obtain ⟨m, lns, h1, h2⟩ := read_k p (by omega) hio (p.length + 1) (Nat.le_refl _)
      rw [List.take_of_length_le (by omega)] at h2
      obtain ⟨xs, h3, h4⟩ := pass2_rd p (by omega) hok p lns (fun i hi => hi) h2
      have hl := textK_len (fun j hj => hok _ (List.getElem_mem hj)) (p.length + 1) (by omega)
      have hlen : ¬ 262144 < t.length := by rw [← ht]; omega
      have hli : linesOf t = (linesK p (p.length + 1), []) := by
        have := linesOf_join (linesK p (p.length + 1)) [] (lines_no10 p hio _)
        rw [List.append_nil, ← textK_join, ht] at this
        rw [this]
        simp [linesOf]
      unfold parseL
      rw [if_neg hlen]
      unfold readL
      rw [hli]
      dsimp only
      rw [h1]
      dsimp only
      rw [h3]
      dsimp only
      rw [h4]
    · cases h
theorem readWords_op (op : Int) : ∀ (ws : List Bs) (k : Nat) (x : Ins × Bs) (y : Ins × Bs), readWords op k ws x = some y → y.1.1 = x.1.1
  | [], k, x, y, h => by
    unfold readWords at h
    injection h with h
    rw [h]
  | w :: ws, k, x, y, h => by
    unfold readWords at h
    split at h
    · cases h
    · have := readWords_op op ws (k + 1) _ y h
      rw [this]
      match k with
      | 0 => rfl
      | 1 => rfl
      | _ + 2 => rfl
theorem word2_ne {w l : Bs} {m : Int} (h : wordL 2 w = some (m, l)) : l ≠ [] := by
  unfold wordL at h
  rw [if_neg (by decide), if_pos rfl] at h
  cases w with
  | nil => cases h
  | cons x r =>
    dsimp only at h
    split at h
    · rename_i hc
      injection h with h
      injection h with _ h
      subst h
      intro e
      subst e
      exact absurd hc.2 (by decide)
    · cases h
/-- A jump that was read names a label. -/
theorem insL_jump {s lab : Bs} {j : Ins} (h : insL s = some (j, lab)) (hj : j.1 = 8 ∨ j.1 = 9) : lab ≠ [] := by
  unfold insL at h
  cases hs : splitC 32 s with
  | nil => rw [hs] at h; cases h
  | cons w0 ws =>
    rw [hs] at h
    dsimp only at h
    split at h
    · rename_i hc
      have ho := readWords_op _ ws 0 _ _ h
      dsimp only at ho
      have hl := hc.2
      rw [← ho] at h hl
      rcases hj with hj | hj
      · rw [hj] at h hl
        have h1 : operands 8 = 1 := rfl
        rw [h1] at hl
        match ws, hl with
        | [w], _ =>
          unfold readWords at h
          have e : sortAt 8 0 = 2 := rfl
          rw [e] at h
          cases hw : wordL 2 w with
          | none => rw [hw] at h; cases h
          | some p =>
            obtain ⟨m, l⟩ := p
            have hne := word2_ne hw
            rw [hw] at h
            dsimp only at h
            unfold readWords at h
            injection h with h
            injection h with _ h
            rw [if_neg hne] at h
            rw [← h]; exact hne
      · rw [hj] at h hl
        have h1 : operands 9 = 2 := rfl
        rw [h1] at hl
        match ws, hl with
        | [w, w'], _ =>
          unfold readWords at h
          split at h
          · cases h
          · unfold readWords at h
            have e : sortAt 9 (0 + 1) = 2 := rfl
            rw [e] at h
            cases hw : wordL 2 w' with
            | none => rw [hw] at h; cases h
            | some p =>
              obtain ⟨m, l⟩ := p
              have hne := word2_ne hw
              rw [hw] at h
              dsimp only at h
              unfold readWords at h
              injection h with h
              injection h with _ h
              rw [if_neg hne] at h
              rw [← h]; exact hne
    · cases h
/-- What the first pass keeps: labels lie within; jumps name labels. -/
def Held (st : List (Bs × Int) × List Ln) : Prop := (∀ x ∈ st.1, x.2 ≤ (st.2.length : Int)) ∧ (∀ l ∈ st.2, l.i.1 = 8 ∨ l.i.1 = 9 → l.lab ≠ [])
theorem held_one {n : Int} {s : Bs} {st st' : List (Bs × Int) × List Ln} (h : oneLine n s st = some st') (hh : Held st) : Held st' := by
  unfold oneLine at h
  split at h
  · injection h with h; rw [← h]; exact hh
  · split at h
    · injection h with h; rw [← h]; exact hh
    · split at h
      · split at h
        · injection h with h
          rw [← h]
          refine ⟨fun x hx => ?_, hh.2⟩
          rcases List.mem_append.1 hx with hx | hx
          · exact hh.1 x hx
          · simp only [List.mem_singleton] at hx
            rw [hx]; exact Int.le_refl _
        · cases h
      · split at h
        · cases h
        · rename_i p hp
          injection h with h
          rw [← h]
          refine ⟨fun x hx => ?_, fun l hl hj => ?_⟩
          · have := hh.1 x hx
            rw [List.length_append]; simp; omega
          · rcases List.mem_append.1 hl with hl | hl
            · exact hh.2 l hl hj
            · simp only [List.mem_singleton] at hl
              subst hl
              unfold insOf at hp
              split at hp
              · exact insL_jump hp hj
              · cases hp
theorem held_pass : ∀ (xs : List Bs) (rest : Bs) (n : Int) (st : List (Bs × Int) × List Ln) (m : Int) (st' : List (Bs × Int) × List Ln), pass1 xs rest n st = .ok (m, st') → Held st → Held st'
  | [], [], n, st, m, st', h, hl => by
    injection h with h
    injection h with h1 h2
    rw [← h2]; exact hl
  | [], _ :: _, n, st, m, st', h, hl => by cases h
  | x :: xs, rest, n, st, m, st', h, hl => by
    unfold pass1 at h
    cases ho : oneLine (n + 1) x st with
    | none => rw [ho] at h; cases h
    | some st1 =>
      rw [ho] at h
      exact held_pass xs rest (n + 1) st1 m st' h (held_one ho hl)
theorem findL_mem {ls : List (Bs × Int)} {s : Bs} {a : Int} (h : findL ls s = some a) : ∃ y ∈ ls, y.2 = a := by
  unfold findL at h
  cases hf : ls.find? (fun l => l.1 == s) with
  | none => rw [hf] at h; cases h
  | some y =>
    rw [hf] at h
    injection h with h
    exact ⟨y, List.mem_of_find?_eq_some hf, h⟩
theorem pass2_mem (labs : List (Bs × Int)) : ∀ (ls xs : List Ln), pass2 labs ls = .ok xs → ∀ x ∈ xs, ∃ l ∈ ls, fixLine labs l = some x
  | [], xs, h, x, hx => by
    injection h with h
    rw [← h] at hx; cases hx
  | l :: ls, xs, h, x, hx => by
    unfold pass2 at h
    cases hf : fixLine labs l with
    | none => rw [hf] at h; cases h
    | some y =>
      rw [hf] at h
      dsimp only at h
      cases hp : pass2 labs ls with
      | wrong n => rw [hp] at h; cases h
      | ok ys =>
        rw [hp] at h
        injection h with h
        rw [← h] at hx
        rcases List.mem_cons.1 hx with rfl | hx
        · exact ⟨l, by simp, hf⟩
        · obtain ⟨l', hl', hx'⟩ := pass2_mem labs ls ys hp x hx
          exact ⟨l', List.mem_cons_of_mem _ hl', hx'⟩
/-- WHAT WAS READ CAN BE PRINTED. -/
theorem read_ok_at {T : Bs} {labs : List (Bs × Int)} {lines : List Ln} (h : readL T = .ok (labs, lines)) : ∀ x ∈ lines, okAt lines.length x.i = true := by
  unfold readL at h
  split at h
  · cases h
  · rename_i m labs' ls hp
    have hh := held_pass _ _ _ _ _ _ hp ⟨fun x hx => (by cases hx), fun l hl => (by cases hl)⟩
    split at h
    · cases h
    · rename_i xs h2
      injection h with h
      injection h with h0 h
      subst h0 h
      have hlen := pass2_length _ _ _ h2
      intro x hx
      obtain ⟨l, hl, hf⟩ := pass2_mem _ _ _ h2 x hx
      unfold fixLine at hf
      rw [hlen]
      split at hf
      · rename_i hlab
        split at hf
        · rename_i hi
          injection hf with hf
          subst hf
          have hnj : (targetOf l.i).2 = false := by
            have hj := hh.2 l hl
            have h8 : l.i.1 ≠ 8 := fun e => hj (.inl e) hlab
            have h9 : l.i.1 ≠ 9 := fun e => hj (.inr e) hlab
            simp [targetOf, h8, h9]
          unfold okAt
          rw [hi, hnj]; rfl
        · cases hf
      · split at hf
        · cases hf
        · rename_i a ha
          split at hf
          · rename_i hi
            injection hf with hf
            subst hf
            obtain ⟨y, hy, hya⟩ := findL_mem ha
            have hle := hh.1 y hy
            rw [hya] at hle
            dsimp only at hle ⊢
            unfold okAt
            rw [hi]
            by_cases h8 : l.i.1 = 8
            · simp [targetOf, aimOf, h8]; exact hle
            · by_cases h9 : l.i.1 = 9
              · simp [targetOf, aimOf, h9]; exact hle
              · simp [targetOf, aimOf, h8, h9]
          · cases hf
/-- What parses, prints to a text that parses to the same. -/
theorem print_parse {s : Bs} {q : List Ins} {n : Int} (h : parseL s = (q, n, 0)) : ∃ t, printL q = (t, 0) ∧ parseL t = (q, 0, 0) := by
  unfold parseL at h
  split at h
  · injection h with _ h
    injection h with _ h
    cases h
  · cases hr : readL s with
    | wrong m =>
      rw [hr] at h
      injection h with _ h
      injection h with _ h
      cases h
    | ok p =>
      obtain ⟨labs, lines⟩ := p
      rw [hr] at h
      injection h with hq _
      have hok := read_ok_at hr
      have hlen := readL_length hr
      have hl : q.length = lines.length := by rw [← hq, List.length_map]
      have hp : printL q = (textK q (q.length + 1), 0) := by
        unfold printL
        rw [if_neg (by omega), if_pos]
        rw [List.all_eq_true]
        intro i hi
        rw [← hq] at hi
        obtain ⟨x, hx, rfl⟩ := List.mem_map.1 hi
        rw [hl]
        exact hok x hx
      exact ⟨_, hp, parse_print hp⟩
theorem parse_err {s : Bs} {q : List Ins} {n er : Int} (h : parseL s = (q, n, er)) (he : er ≠ 0) : q = [] := by
  unfold parseL at h
  split at h
  · injection h with h _
    exact h.symm
  · cases hr : readL s with
    | wrong m =>
      rw [hr] at h
      injection h with h _
      exact h.symm
    | ok p =>
      obtain ⟨labs, lines⟩ := p
      rw [hr] at h
      injection h with _ h
      injection h with _ h
      exact absurd h.symm he
end Go.Proofs.YtcamimfepcoggaaDoor
