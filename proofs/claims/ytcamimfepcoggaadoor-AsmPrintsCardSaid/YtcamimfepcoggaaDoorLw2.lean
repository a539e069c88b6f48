/- Plain laws: an instruction's line, alone. -/
import Derived.Test.YtcamimfepcoggaaDoorLw1
namespace Go.Proofs.YtcamimfepcoggaaDoor
/-- Lines as a text. -/
def joinL (ls : List Bs) : Bs := ls.flatMap fun l => l ++ [10]
theorem linesOf_line : ∀ {a b : Bs}, (∀ x ∈ a, x ≠ (10 : UInt8)) → linesOf (a ++ 10 :: b) = (a :: (linesOf b).1, (linesOf b).2) := fun h => linesOf_some (cutC_app h)
theorem linesOf_join : ∀ (ls : List Bs) (b : Bs), (∀ l ∈ ls, ∀ x ∈ l, x ≠ (10 : UInt8)) → linesOf (joinL ls ++ b) = (ls ++ (linesOf b).1, (linesOf b).2)
  | [], b, _ => rfl
  | l :: ls, b, h => by
    have e : joinL (l :: ls) ++ b = l ++ 10 :: (joinL ls ++ b) := by simp [joinL]
    rw [e, linesOf_line (h l (by simp)), linesOf_join ls b (fun m hm => h m (List.mem_cons_of_mem _ hm))]
    rfl
theorem lineOf_no10 {i : Ins} (h : insOk i = true) : ∀ x ∈ lineOf i, x ≠ (10 : UInt8) := by
  obtain ⟨⟨h1, h2⟩, _⟩ := insOk_parts h
  rw [lineOf_eq]
  intro x hx
  rcases List.mem_append.1 hx with hx | hx
  · exact (name_plain h1 h2 x hx).2
  · obtain ⟨w, hw, hx⟩ := List.mem_flatMap.1 hx
    rcases List.mem_cons.1 hx with rfl | hx
    · decide
    · exact (wordsOf_plain i w hw x hx).2
theorem lineOf_head {i : Ins} (h : insOk i = true) : ∃ c r, lineOf i = c :: r ∧ c ≠ 35 ∧ c ≠ 58 := by
  obtain ⟨⟨h1, h2⟩, _⟩ := insOk_parts h
  obtain ⟨_, _, _, _, _, _, _, _, _, hne, hr⟩ := tab h1 h2
  rw [lineOf_eq]
  cases hn : (formOf i.1).1 with
  | nil => exact absurd hn hne
  | cons c r =>
    rw [hn] at hr
    have hc := hr c (by simp)
    refine ⟨c, _, rfl, ?_, ?_⟩ <;> (intro e; subst e; simp at hc)
theorem oneLine_ins {i : Ins} (h : insOk i = true) (n : Int) (st : List (Bs × Int) × List Ln) (hl : st.2.length < 512) :
    oneLine n (lineOf i) st = some (st.1, st.2 ++ [⟨(rdOf i).1, (rdOf i).2, n⟩]) := by
  obtain ⟨c, r, e, h35, h58⟩ := lineOf_head h
  have hi := insL_line h
  rw [e] at hi ⊢
  unfold oneLine
  dsimp only
  rw [if_neg h35, if_neg h58]
  unfold insOf
  rw [if_pos hl, hi]
theorem rd_jump {i : Ins} (h : i.1 = 8 ∨ i.1 = 9) : (rdOf i).2 ≠ [] := by
  unfold rdOf
  rcases h with h | h
  · rw [if_pos h]; simp
  · rw [if_neg (by omega), if_pos h]; simp
theorem rd_plain {i : Ins} (h8 : i.1 ≠ 8) (h9 : i.1 ≠ 9) : rdOf i = (i, []) := by
  unfold rdOf
  rw [if_neg h8, if_neg h9]
theorem alone_read {i : Ins} (h : insOk i = true) : readL (lineOf i ++ [10]) = match pass2 [] [⟨(rdOf i).1, (rdOf i).2, 1⟩] with
    | .wrong n => .wrong n
    | .ok xs => .ok ([], xs) := by
  unfold readL
  have e : linesOf (lineOf i ++ [10]) = ([lineOf i], []) := linesOf_line (lineOf_no10 h)
  rw [e]
  dsimp only
  rw [pass1, oneLine_ins h _ _ (by decide)]
  dsimp only
  rw [pass1]
  rfl
theorem alone_small {i : Ins} (h : insOk i = true) : ¬ 262144 < (lineOf i ++ [10]).length := by
  have := lineOf_len h
  rw [List.length_append, List.length_cons, List.length_nil]; omega
theorem alone_plain {i : Ins} (h : insOk i = true) (h8 : i.1 ≠ 8) (h9 : i.1 ≠ 9) : parseL (lineOf i ++ [10]) = ([i], 0, 0) := by
  unfold parseL
  rw [if_neg (alone_small h), alone_read h, rd_plain h8 h9]
  simp [pass2, fixLine, h]
theorem alone_jump {i : Ins} (h : insOk i = true) (hj : i.1 = 8 ∨ i.1 = 9) : parseL (lineOf i ++ [10]) = ([], 1, 130) := by
  unfold parseL
  rw [if_neg (alone_small h), alone_read h]
  have : fixLine [] ⟨(rdOf i).1, (rdOf i).2, 1⟩ = none := by
    unfold fixLine
    rw [if_neg (rd_jump hj)]
    rfl
  rw [pass2, this]
end Go.Proofs.YtcamimfepcoggaaDoor
