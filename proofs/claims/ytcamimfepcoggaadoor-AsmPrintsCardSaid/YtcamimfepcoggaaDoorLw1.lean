/- Plain laws: numbers as words, and back; an instruction's line, read again. -/
import Derived.Test.YtcamimfepcoggaaDoorAw1
namespace Go.Proofs.YtcamimfepcoggaaDoor
theorem pu_app : ∀ (l : Bs) (acc : Nat) (d : UInt8), Lib.parseUint10 acc (l ++ [d]) = match Lib.parseUint10 acc l with
    | .ok u => Lib.parseUint10 u [d]
    | e => e
  | [], acc, d => rfl
  | c :: r, acc, d => by
    rw [List.cons_append, Lib.parseUint10, Lib.parseUint10]
    split
    · split
      · rfl
      · split
        · rfl
        · exact pu_app r _ d
    · rfl
theorem digit_nat (d : Nat) (h : d < 10) : (UInt8.ofNat (48 + d)).toNat = 48 + d := by
  simp; omega
theorem pu_one (acc d : Nat) (h : d < 10) (ha : acc < 1844674407370955162) (hb : acc * 10 + d < 18446744073709551616) : Lib.parseUint10 acc [UInt8.ofNat (48 + d)] = .ok (acc * 10 + d) := by
  rw [Lib.parseUint10, digit_nat d h, if_pos (by omega), if_neg (by omega), if_neg (by omega), Lib.parseUint10]
  congr 1
  omega
theorem pu_dec (u : Nat) (h : u < 9223372036854775808) : Lib.parseUint10 0 (Lib.decDigits u) = .ok u := by
  induction u using Nat.strongRecOn with
  | _ u ih =>
    rw [Lib.decDigits]
    by_cases hu : u < 10
    · rw [dif_pos hu, pu_one 0 u hu (by omega) (by omega)]
      congr 1; omega
    · rw [dif_neg hu, pu_app, ih (u / 10) (by omega) (by omega)]
      dsimp only
      rw [pu_one (u / 10) (u % 10) (by omega) (by omega) (by omega)]
      congr 1; omega
theorem dec_digits (u : Nat) : ∀ c ∈ Lib.decDigits u, 48 ≤ c.toNat ∧ c.toNat ≤ 57 := by
  induction u using Nat.strongRecOn with
  | _ u ih =>
    rw [Lib.decDigits]
    intro c hc
    by_cases hu : u < 10
    · rw [dif_pos hu] at hc
      simp only [List.mem_singleton] at hc
      rw [hc, digit_nat u hu]; omega
    · rw [dif_neg hu] at hc
      rcases List.mem_append.1 hc with hc | hc
      · exact ih (u / 10) (by omega) c hc
      · simp only [List.mem_singleton] at hc
        rw [hc, digit_nat (u % 10) (by omega)]; omega
theorem dec_ne (u : Nat) : Lib.decDigits u ≠ [] := by
  rw [Lib.decDigits]
  split <;> simp
theorem nDigits_le : ∀ (k u : Nat), u < 10 ^ (k + 1) → Lib.nDigits u ≤ k + 1
  | 0, u, h => by rw [Lib.nDigits_small (by simpa using h)]; omega
  | k + 1, u, h => by
    by_cases hu : u < 10
    · rw [Lib.nDigits_small hu]; omega
    · rw [Lib.nDigits_big hu]
      have h10 : (10 : Nat) ^ (k + 1 + 1) = 10 ^ (k + 1) * 10 := Nat.pow_succ 10 (k + 1)
      have := nDigits_le k (u / 10) (by omega)
      omega
theorem dec_len (u : Nat) (h : u < 10000000000000) : (Lib.decDigits u).length ≤ 13 := by
  rw [Lib.decDigits_length]
  exact nDigits_le 12 u (by simpa using h)
theorem mag_dec (u : Nat) (h : u < 9223372036854775808) : Lib.parseMag (Lib.decDigits u) = .ok u := by
  unfold Lib.parseMag
  rw [if_neg (dec_ne u), pu_dec u h]
theorem atoi_pos (u : Nat) (h : u < 9223372036854775808) : Lib.atoiAll (Lib.decDigits u) = .ok (u : Int) := by
  have hd := dec_digits u
  have hm := mag_dec u h
  cases hc : Lib.decDigits u with
  | nil => exact absurd hc (dec_ne u)
  | cons c r =>
    rw [hc] at hd hm
    have hc' := hd c (by simp)
    unfold Lib.atoiAll
    dsimp only
    rw [if_neg (by omega), hm]
    dsimp only
    rw [if_neg (by omega), if_neg (by omega), if_neg (by omega)]
theorem atoi_neg (u : Nat) (h : u < 9223372036854775808) : Lib.atoiAll (45 :: Lib.decDigits u) = .ok (-(u : Int)) := by
  have hm := mag_dec u h
  unfold Lib.atoiAll
  dsimp only
  rw [if_pos (by decide), hm]
  dsimp only
  rw [if_neg (by simp), if_neg (by omega), if_pos (by decide)]
theorem atoi_itoa (n : Int) (h0 : -9223372036854775808 < n) (h1 : n < 9223372036854775808) : Lib.atoiAll (Lib.itoa n) = .ok n := by
  unfold Lib.itoa
  split
  · rw [atoi_neg _ (by omega)]
    congr 1; omega
  · rw [atoi_pos _ (by omega)]
    congr 1; omega
theorem itoa_inj {m n : Int} (h : Lib.itoa m = Lib.itoa n) (m0 : -9223372036854775808 < m) (m1 : m < 9223372036854775808) (n0 : -9223372036854775808 < n) (n1 : n < 9223372036854775808) : m = n := by
  have a := atoi_itoa m m0 m1
  rw [h, atoi_itoa n n0 n1] at a
  injection a with a
  exact a.symm
theorem w_num (n : Int) (h0 : -10000000000000 < n) (h1 : n < 10000000000000) : wordL 0 (Lib.itoa n) = some (n, []) := by
  unfold wordL
  rw [if_neg (by decide), if_neg (by decide), atoi_itoa n (by omega) (by omega)]
  dsimp only
  rw [if_pos]
  refine ⟨rfl, ?_⟩
  unfold Lib.itoa
  by_cases hn : n < 0
  · rw [if_pos hn]
    have : Lib.trimPrefix (45 :: Lib.decDigits n.natAbs) [45] = Lib.decDigits n.natAbs := by simp [Lib.trimPrefix, Lib.hasPrefix]
    rw [this]
    exact dec_len _ (by omega)
  · rw [if_neg hn]
    have hd := dec_digits n.toNat
    have : Lib.trimPrefix (Lib.decDigits n.toNat) [45] = Lib.decDigits n.toNat := by
      unfold Lib.trimPrefix
      rw [if_neg]
      intro hp
      cases hc : Lib.decDigits n.toNat with
      | nil => exact dec_ne _ hc
      | cons c r =>
        rw [hc] at hp hd
        have := hd c (by simp)
        simp [Lib.hasPrefix] at hp
        subst hp
        simp at this
    rw [this]
    exact dec_len _ (by omega)
theorem w_reg_fin : ∀ k : Fin 8, wordL 1 (114 :: Lib.itoa (k.val : Int)) = some ((k.val : Int), []) := by decide +kernel
theorem w_reg (n : Int) (h0 : 0 ≤ n) (h1 : n ≤ 7) : wordL 1 (114 :: Lib.itoa n) = some (n, []) := by
  have h := w_reg_fin ⟨n.toNat, by omega⟩
  have e : ((n.toNat : Nat) : Int) = n := by omega
  dsimp only at h
  rwa [e] at h
theorem okc_digit {c : UInt8} (h : 48 ≤ c.toNat ∧ c.toNat ≤ 57) : okc c = true := by
  have h1 : (48 : UInt8) ≤ c := UInt8.le_iff_toNat_le.2 h.1
  have h2 : c ≤ (57 : UInt8) := UInt8.le_iff_toNat_le.2 h.2
  simp [okc, h1, h2]
theorem itoa_nat (n : Int) (h : 0 ≤ n) : Lib.itoa n = Lib.decDigits n.toNat := by
  unfold Lib.itoa
  rw [if_neg (by omega)]
theorem lab_ok (n : Int) (h0 : 0 ≤ n) (h1 : n ≤ 100000) : isLabelB (76 :: Lib.itoa n) = true := by
  have hl := Lib.itoa_length_le n (by omega) (by omega)
  unfold isLabelB
  rw [Bool.and_eq_true, Bool.and_eq_true]
  refine ⟨⟨?_, by simp⟩, by simp; omega⟩
  rw [List.all_cons, Bool.and_eq_true]
  refine ⟨by decide, ?_⟩
  rw [List.all_eq_true, itoa_nat n h0]
  exact fun c hc => okc_digit (dec_digits _ c hc)
theorem w_place (n : Int) (h0 : 0 ≤ n) (h1 : n ≤ 100000) : wordL 2 (64 :: 76 :: Lib.itoa n) = some (0, 76 :: Lib.itoa n) := by
  unfold wordL
  rw [if_neg (by decide), if_pos rfl]
  dsimp only
  rw [if_pos ⟨rfl, lab_ok n h0 h1⟩]
theorem cutC_app {c : UInt8} : ∀ {a b : Bs}, (∀ x ∈ a, x ≠ c) → cutC c (a ++ c :: b) = some (a, b)
  | [], b, _ => by simp [cutC]
  | x :: r, b, h => by
    rw [List.cons_append, cutC, if_neg (h x (by simp)), cutC_app (fun y hy => h y (List.mem_cons_of_mem _ hy))]
    rfl
theorem cutC_no {c : UInt8} : ∀ {a : Bs}, (∀ x ∈ a, x ≠ c) → cutC c a = none
  | [], _ => rfl
  | x :: r, h => by
    rw [cutC, if_neg (h x (by simp)), cutC_no (fun y hy => h y (List.mem_cons_of_mem _ hy))]
    rfl
theorem split_words : ∀ (ws : List Bs) (a : Bs), (∀ x ∈ a, x ≠ 32) → (∀ w ∈ ws, ∀ x ∈ w, x ≠ (32 : UInt8)) → splitC 32 (a ++ ws.flatMap (fun w => 32 :: w)) = a :: ws
  | [], a, ha, _ => by
    rw [List.flatMap_nil, List.append_nil]
    exact splitC_none (cutC_no ha)
  | w :: ws, a, ha, hw => by
    rw [List.flatMap_cons, List.cons_append]
    rw [splitC_some (cutC_app ha), split_words ws w (hw w (by simp)) (fun v hv => hw v (List.mem_cons_of_mem _ hv))]
def wordOf (s n : Int) : Bs := if s = 0 then Lib.itoa n else if s = 1 then 114 :: Lib.itoa n else 64 :: 76 :: Lib.itoa n
theorem partOf_eq (s n : Int) : partOf s n = 32 :: wordOf s n := by
  unfold partOf markOf wordOf
  split
  · rfl
  · split <;> rfl
def valOf (s n : Int) : Int := if s = 2 then 0 else n
def labOf (s n : Int) : Bs := if s = 2 then 76 :: Lib.itoa n else []
/-- Does a sort of the table stand beside a sort of asm's? -/
def pair (f s : Int) : Bool := (f == 0) || (f == 1 && s == 1) || (f == 3 && s == 2) || ((f == 2 || f == 4 || f == 5 || f == 6) && s == 0)
theorem word_fits {f s n x : Int} (h : fitsB f n x = true) (hp : pair f s = true) (hf : f ≠ 0) : wordL s (wordOf s n) = some (valOf s n, labOf s n) := by
  unfold pair at hp
  simp at hp
  rcases hp with ((h0 | ⟨h1, h2⟩) | ⟨h1, h2⟩) | ⟨h1, h2⟩
  · exact absurd h0 hf
  · subst h1 h2
    simp [fitsB, withinB] at h
    exact w_reg n h.1 h.2
  · subst h1 h2
    simp [fitsB, withinB] at h
    exact w_place n h.1 (by omega)
  · subst h2
    have : -10000000000000 < n ∧ n < 10000000000000 := by
      rcases h1 with ((h1 | h1) | h1) | h1
      · subst h1; simp [fitsB, withinB] at h; omega
      · subst h1; simp [fitsB, withinB] at h; omega
      · subst h1; simp [fitsB, withinB] at h; omega
      · subst h1
        simp [fitsB, withinB] at h
        have := two_pow_le x h.1.1 h.1.2
        omega
    exact w_num n this.1 this.2
theorem fits_zero {n x : Int} (h : fitsB 0 n x = true) : n = 0 := by
  simpa [fitsB] using h
theorem tab_fin : ∀ k : Fin 21, k.val = 0 ∨ (pair (formOf (k.val : Int)).2.1 (sortAt (k.val : Int) 0) = true ∧ pair (formOf (k.val : Int)).2.2.1 (sortAt (k.val : Int) 1) = true ∧ pair (formOf (k.val : Int)).2.2.2 (sortAt (k.val : Int) 2) = true
    ∧ ((formOf (k.val : Int)).2.1 = 0 → (formOf (k.val : Int)).2.2.1 = 0) ∧ ((formOf (k.val : Int)).2.2.1 = 0 → (formOf (k.val : Int)).2.2.2 = 0)
    ∧ (sortAt (k.val : Int) 0 = 2 ↔ k.val = 8) ∧ (sortAt (k.val : Int) 1 = 2 ↔ k.val = 9) ∧ sortAt (k.val : Int) 2 ≠ 2
    ∧ byName (formOf (k.val : Int)).1 = ((k.val : Int), true) ∧ (formOf (k.val : Int)).1 ≠ [] ∧ (∀ x ∈ (formOf (k.val : Int)).1, 97 ≤ x.toNat ∧ x.toNat ≤ 122)) := by decide +kernel
theorem tab {op : Int} (h1 : 1 ≤ op) (h2 : op ≤ 20) : pair (formOf op).2.1 (sortAt op 0) = true ∧ pair (formOf op).2.2.1 (sortAt op 1) = true ∧ pair (formOf op).2.2.2 (sortAt op 2) = true
    ∧ ((formOf op).2.1 = 0 → (formOf op).2.2.1 = 0) ∧ ((formOf op).2.2.1 = 0 → (formOf op).2.2.2 = 0)
    ∧ (sortAt op 0 = 2 ↔ op = 8) ∧ (sortAt op 1 = 2 ↔ op = 9) ∧ sortAt op 2 ≠ 2
    ∧ byName (formOf op).1 = (op, true) ∧ (formOf op).1 ≠ [] ∧ (∀ x ∈ (formOf op).1, 97 ≤ x.toNat ∧ x.toNat ≤ 122) := by
  have h := tab_fin ⟨op.toNat, by omega⟩
  have e : ((op.toNat : Nat) : Int) = op := by omega
  dsimp only at h
  rw [e] at h
  rcases h with h | ⟨a, b, c, d, e1, f, g, r⟩
  · omega
  · exact ⟨a, b, c, d, e1, f.trans (by omega), g.trans (by omega), r⟩
/-- What is read of an instruction's line: a jump's place is told apart. -/
def rdOf (i : Ins) : Ins × Bs := if i.1 = 8 then ((8, 0, 0, 0), 76 :: Lib.itoa i.2.1) else if i.1 = 9 then ((9, i.2.1, 0, 0), 76 :: Lib.itoa i.2.2.1) else (i, [])
theorem insOk_parts {i : Ins} (h : insOk i = true) : (1 ≤ i.1 ∧ i.1 ≤ 20) ∧ fitsB (formOf i.1).2.1 i.2.1 0 = true ∧ fitsB (formOf i.1).2.2.1 i.2.2.1 0 = true ∧ fitsB (formOf i.1).2.2.2 i.2.2.2 i.2.2.1 = true := by
  simp only [insOk, isOp, Bool.and_eq_true, decide_eq_true_eq] at h
  exact ⟨h.1.1.1, h.1.1.2, h.1.2, h.2⟩
theorem itoa_plain (n : Int) : ∀ x ∈ Lib.itoa n, x ≠ (32 : UInt8) ∧ x ≠ 10 := by
  intro x hx
  unfold Lib.itoa at hx
  have key : 45 = x.toNat ∨ (48 ≤ x.toNat ∧ x.toNat ≤ 57) → x ≠ (32 : UInt8) ∧ x ≠ 10 := by
    intro h
    constructor <;> (intro e; subst e; simp at h)
  split at hx
  · rcases List.mem_cons.1 hx with rfl | hx
    · exact key (.inl rfl)
    · exact key (.inr (dec_digits _ x hx))
  · exact key (.inr (dec_digits _ x hx))
theorem wordOf_plain (s n : Int) : ∀ x ∈ wordOf s n, x ≠ (32 : UInt8) ∧ x ≠ 10 := by
  intro x hx
  unfold wordOf at hx
  split at hx
  · exact itoa_plain n x hx
  · split at hx
    · rcases List.mem_cons.1 hx with rfl | hx
      · decide
      · exact itoa_plain n x hx
    · rcases List.mem_cons.1 hx with rfl | hx
      · decide
      · rcases List.mem_cons.1 hx with rfl | hx
        · decide
        · exact itoa_plain n x hx
theorem name_plain {op : Int} (h1 : 1 ≤ op) (h2 : op ≤ 20) : ∀ x ∈ (formOf op).1, x ≠ (32 : UInt8) ∧ x ≠ 10 := by
  intro x hx
  have := (tab h1 h2).2.2.2.2.2.2.2.2.2.2 x hx
  constructor <;> (intro e; subst e; simp at this)
/-- An instruction's words. -/
def wordsOf (i : Ins) : List Bs := ([wordOf (sortAt i.1 0) i.2.1, wordOf (sortAt i.1 1) i.2.2.1, wordOf (sortAt i.1 2) i.2.2.2]).take (operands i.1)
theorem operands_le (op : Int) : operands op ≤ 3 := (cnt3_operands op).2
theorem lineOf_eq (i : Ins) : lineOf i = (formOf i.1).1 ++ (wordsOf i).flatMap (fun w => 32 :: w) := by
  have h := operands_le i.1
  unfold lineOf wordsOf
  generalize operands i.1 = N at h
  have : N = 0 ∨ N = 1 ∨ N = 2 ∨ N = 3 := by omega
  rcases this with rfl | rfl | rfl | rfl
  · simp [lineK]
  · simp [lineK, partOf_eq, sortAt]
  · simp [lineK, partOf_eq, sortAt]
  · simp [lineK, partOf_eq, sortAt]
theorem wordsOf_plain (i : Ins) : ∀ w ∈ wordsOf i, ∀ x ∈ w, x ≠ (32 : UInt8) ∧ x ≠ 10 := by
  intro w hw
  have := List.mem_of_mem_take hw
  simp at this
  rcases this with rfl | rfl | rfl <;> exact wordOf_plain _ _
theorem lineOf_split {i : Ins} (h : insOk i = true) : splitC 32 (lineOf i) = (formOf i.1).1 :: wordsOf i := by
  obtain ⟨⟨h1, h2⟩, _⟩ := insOk_parts h
  rw [lineOf_eq]
  exact split_words _ _ (fun x hx => (name_plain h1 h2 x hx).1) (fun w hw x hx => (wordsOf_plain i w hw x hx).1)
theorem lab_ne (n : Int) : (76 :: Lib.itoa n : Bs) ≠ [] := by simp
/-- THE LINE OF AN INSTRUCTION, READ. -/
theorem insL_line {i : Ins} (h : insOk i = true) : insL (lineOf i) = some (rdOf i) := by
  obtain ⟨⟨h1, h2⟩, f0, f1, f2⟩ := insOk_parts h
  obtain ⟨p0, p1, p2, z0, z1, q0, q1, q2, hb, _, _⟩ := tab h1 h2
  obtain ⟨op, a, b, c⟩ := i
  dsimp only at *
  unfold insL
  rw [lineOf_split h]
  dsimp only
  rw [hb]
  dsimp only
  have ho := operands_le op
  rw [if_pos ⟨rfl, by unfold wordsOf; rw [List.length_take]; simp; omega⟩]
  by_cases h8 : op = 8
  · subst h8
    have a0 : 0 ≤ a ∧ a ≤ 512 := by simpa [formOf, formT, fitsB, withinB] using f0
    have b0 : b = 0 := fits_zero f1
    have c0 : c = 0 := fits_zero f2
    subst b0 c0
    have hw : wordsOf (8, a, 0, 0) = [64 :: 76 :: Lib.itoa a] := rfl
    rw [hw]
    have hs : sortAt 8 0 = 2 := rfl
    simp [readWords, hs, w_place a a0.1 (by omega), setAt, rdOf]
  · by_cases h9 : op = 9
    · subst h9
      have a0 : 0 ≤ a ∧ a ≤ 7 := by simpa [formOf, formT, fitsB, withinB] using f0
      have b0 : 0 ≤ b ∧ b ≤ 512 := by simpa [formOf, formT, fitsB, withinB] using f1
      have c0 : c = 0 := fits_zero f2
      subst c0
      have hw : wordsOf (9, a, b, 0) = [114 :: Lib.itoa a, 64 :: 76 :: Lib.itoa b] := rfl
      rw [hw]
      have hs0 : sortAt 9 0 = 1 := rfl
      have hs1 : sortAt 9 1 = 2 := rfl
      simp [readWords, hs0, hs1, w_reg a a0.1 a0.2, w_place b b0.1 (by omega), setAt, rdOf]
    · have n0 : sortAt op 0 ≠ 2 := fun e => h8 (q0.1 e)
      have n1 : sortAt op 1 ≠ 2 := fun e => h9 (q1.1 e)
      have hr : rdOf (op, a, b, c) = ((op, a, b, c), []) := by simp [rdOf, h8, h9]
      rw [hr]
      have hop : operands op = (if (formOf op).2.1 = 0 then 0 else 1) + (if (formOf op).2.2.1 = 0 then 0 else 1) + (if (formOf op).2.2.2 = 0 then 0 else 1) := rfl
      by_cases e0 : (formOf op).2.1 = 0
      · have e1 := z0 e0
        have e2 := z1 e1
        rw [if_pos e0, if_pos e1, if_pos e2] at hop
        rw [e0] at f0
        rw [e1] at f1
        rw [e2] at f2
        have a0 := fits_zero f0
        have b0 := fits_zero f1
        have c0 := fits_zero f2
        subst a0 b0 c0
        unfold wordsOf
        rw [hop]
        simp [readWords]
      · have w0 := word_fits f0 p0 e0
        by_cases e1 : (formOf op).2.2.1 = 0
        · have e2 := z1 e1
          rw [if_neg e0, if_pos e1, if_pos e2] at hop
          rw [e1] at f1
          rw [e2] at f2
          have b0 := fits_zero f1
          have c0 := fits_zero f2
          subst b0 c0
          unfold wordsOf
          rw [hop]
          simp [readWords, w0, valOf, labOf, n0, setAt]
        · have w1 := word_fits f1 p1 e1
          by_cases e2 : (formOf op).2.2.2 = 0
          · rw [if_neg e0, if_neg e1, if_pos e2] at hop
            rw [e2] at f2
            have c0 := fits_zero f2
            subst c0
            unfold wordsOf
            rw [hop]
            simp [readWords, w0, w1, valOf, labOf, n0, n1, setAt]
          · have w2 := word_fits f2 p2 e2
            rw [if_neg e0, if_neg e1, if_neg e2] at hop
            unfold wordsOf
            rw [hop]
            simp [readWords, w0, w1, w2, valOf, labOf, n0, n1, q2, setAt]
end Go.Proofs.YtcamimfepcoggaaDoor
