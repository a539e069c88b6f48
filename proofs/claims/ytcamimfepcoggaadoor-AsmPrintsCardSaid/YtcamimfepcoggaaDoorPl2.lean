/- Plain words: a text cut at a byte, once or everywhere; what the library's Cut and Split come to. -/
import Derived.Test.YtcamimfepcoggaaDoorPl0
import Derived.Lib.Split
import Derived.Lib.SplitLaws
import Derived.Lib.CutLaws
import Derived.Lib.CountLaws
namespace Go.Proofs.YtcamimfepcoggaaDoor
/-- What stands ahead of the first byte c, and behind it. -/
def cutC (c : UInt8) : Bs → Option (Bs × Bs)
  | [] => none
  | b :: r => if b = c then some ([], r) else (cutC c r).map fun p => (b :: p.1, p.2)
/-- All pieces. -/
def splitC (c : UInt8) : Bs → List Bs
  | [] => [[]]
  | b :: r => if b = c then [] :: splitC c r else match splitC c r with
    | x :: xs => (b :: x) :: xs
    | [] => [[b]]
theorem index_one (c b : UInt8) (r : Bs) : Lib.index (b :: r) [c] = if b = c then 0 else (if Lib.index r [c] = -1 then -1 else Lib.index r [c] + 1) := by
  rw [Lib.index]
  by_cases h : b = c
  · subst h; simp
  · have : ¬ c = b := fun e => h e.symm
    simp [h, this, beq_iff_eq]
theorem cut_of_index (c : UInt8) : ∀ s : Bs, (Lib.index s [c] = -1 ∧ cutC c s = none) ∨ (∃ i : Nat, Lib.index s [c] = i ∧ cutC c s = some (s.take i, s.drop (i + 1)))
  | [] => .inl ⟨rfl, rfl⟩
  | b :: r => by
    rw [index_one]
    unfold cutC
    by_cases h : b = c
    · rw [if_pos h, if_pos h]
      exact .inr ⟨0, rfl, rfl⟩
    · rw [if_neg h, if_neg h]
      rcases cut_of_index c r with ⟨h1, h2⟩ | ⟨i, h1, h2⟩
      · exact .inl ⟨by rw [if_pos h1], by rw [h2]; rfl⟩
      · refine .inr ⟨i + 1, ?_, ?_⟩
        · rw [h1, if_neg (by omega)]; rfl
        · rw [h2]; rfl
theorem cut_some {c : UInt8} {s x y : Bs} (h : cutC c s = some (x, y)) : Lib.cut s [c] = (x, y, true) := by
  rcases cut_of_index c s with ⟨_, h2⟩ | ⟨i, h1, h2⟩
  · rw [h2] at h; cases h
  · rw [h2] at h
    injection h with h
    injection h with hx hy
    unfold Lib.cut
    rw [h1, if_pos (by omega)]
    simp [← hx, ← hy]
theorem cut_none {c : UInt8} {s : Bs} (h : cutC c s = none) : Lib.cut s [c] = (s, [], false) := by
  rcases cut_of_index c s with ⟨h1, _⟩ | ⟨i, _, h2⟩
  · unfold Lib.cut
    rw [h1, if_neg (by decide)]
  · rw [h2] at h; cases h
theorem splitC_cons (c b : UInt8) (r : Bs) : splitC c (b :: r) = if b = c then [] :: splitC c r else match splitC c r with
    | x :: xs => (b :: x) :: xs
    | [] => [[b]] := rfl
theorem splitC_ne (c : UInt8) (s : Bs) : splitC c s ≠ [] := by
  cases s with
  | nil => simp [splitC]
  | cons b r =>
    unfold splitC
    split
    · simp
    · split <;> simp
theorem splitC_none {c : UInt8} : ∀ {s : Bs}, cutC c s = none → splitC c s = [s]
  | [], _ => rfl
  | b :: r, h => by
    unfold cutC at h
    split at h
    · cases h
    · rename_i hb
      have hr : cutC c r = none := by
        cases hc : cutC c r with
        | none => rfl
        | some p => rw [hc] at h; cases h
      unfold splitC
      rw [if_neg hb, splitC_none hr]
theorem splitC_some {c : UInt8} : ∀ {s x y : Bs}, cutC c s = some (x, y) → splitC c s = x :: splitC c y
  | [], _, _, h => by cases h
  | b :: r, x, y, h => by
    unfold cutC at h
    rw [splitC_cons]
    split at h
    · rename_i hb
      injection h with h
      injection h with hx hy
      rw [if_pos hb, ← hx, ← hy]
    · rename_i hb
      rw [if_neg hb]
      cases hc : cutC c r with
      | none => rw [hc] at h; cases h
      | some p =>
        obtain ⟨x', y'⟩ := p
        rw [hc] at h
        injection h with h
        injection h with hx hy
        rw [splitC_some hc, ← hx, ← hy]
theorem cutC_len {c : UInt8} : ∀ {s x y : Bs}, cutC c s = some (x, y) → s = x ++ c :: y
  | [], _, _, h => by cases h
  | b :: r, x, y, h => by
    unfold cutC at h
    split at h
    · rename_i hb
      injection h with h
      injection h with hx hy
      rw [← hx, ← hy, hb]; rfl
    · cases hc : cutC c r with
      | none => rw [hc] at h; cases h
      | some p =>
        obtain ⟨x', y'⟩ := p
        rw [hc] at h
        injection h with h
        injection h with hx hy
        rw [← hx, ← hy, cutC_len hc]; rfl
theorem splitK_eq (c : UInt8) : ∀ (n : Nat) (s : Bs), s.length ≤ n → Lib.splitK [c] 0 (Lib.count s [c]) s = splitC c s := by
  intro n
  induction n with
  | zero =>
    intro s hs
    have : s = [] := List.eq_nil_of_length_eq_zero (by omega)
    subst this
    rfl
  | succ n ih =>
    intro s hs
    rcases cut_of_index c s with ⟨h1, h2⟩ | ⟨i, h1, h2⟩
    · rw [splitC_none h2, Lib.count_miss h1]; rfl
    · rw [splitC_some h2, Lib.count_hit (by simp) h1, Nat.add_comm, Lib.splitK, if_neg (by rw [h1, beq_iff_eq]; omega), h1]
      simp only [Int.toNat_natCast, Nat.add_zero, List.length_cons, List.length_nil, Nat.zero_add]
      have hl := congrArg List.length (cutC_len h2)
      simp only [List.length_append, List.length_cons, List.length_drop] at hl
      rw [ih (s.drop (i + 1)) (by simp only [List.length_drop]; omega)]
theorem splitB_eq (c : UInt8) (s : ByteArray) : Lib.splitB ⟨#[c]⟩ 0 (Lib.countB s ⟨#[c]⟩) s = (splitC c s.data.toList).map fun l => ⟨l.toArray⟩ := by
  have h := Lib.splitB_data ⟨#[c]⟩ 0 (Lib.countB s ⟨#[c]⟩) s
  have h2 : Lib.splitK [c] 0 (Lib.count s.data.toList [c]) s.data.toList = splitC c s.data.toList := splitK_eq c _ _ (Nat.le_refl _)
  have h3 : (Lib.splitB ⟨#[c]⟩ 0 (Lib.countB s ⟨#[c]⟩) s).map (·.data.toList) = splitC c s.data.toList := h.trans h2
  rw [← h3, List.map_map]
  symm
  apply List.map_id''
  intro x
  simp
theorem splitC_le (c : UInt8) : ∀ (s x : Bs), x ∈ splitC c s → x.length ≤ s.length
  | [], x, h => by
    simp [splitC] at h
    simp [h]
  | b :: r, x, h => by
    rw [splitC_cons] at h
    split at h
    · rcases List.mem_cons.1 h with rfl | h
      · simp
      · have := splitC_le c r x h
        simp; omega
    · cases hs : splitC c r with
      | nil => exact absurd hs (splitC_ne c r)
      | cons y ys =>
        rw [hs] at h
        rcases List.mem_cons.1 h with rfl | h
        · have := splitC_le c r y (by rw [hs]; simp)
          simp; omega
        · have := splitC_le c r x (by rw [hs]; exact List.mem_cons_of_mem _ h)
          simp; omega
theorem splitC_length (c : UInt8) (s : ByteArray) : (splitC c s.data.toList).length = Lib.countB s ⟨#[c]⟩ + 1 := by
  have h := Lib.splitB_all ⟨#[c]⟩ (Nat.le_refl 1) 0 _ s rfl
  rw [splitB_eq] at h
  simpa using h
end Go.Proofs.YtcamimfepcoggaaDoor
