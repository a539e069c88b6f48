/- The contract of asm's reader's word: at each sort, whatever the text. -/
import Derived.Test.YtcamimfepcoggaaDoorWd2
import Derived.Lib.AtoiAllCases
namespace Go.Proofs.YtcamimfepcoggaaDoor
open Go.RowKit
/-- A word of a sort: its number, its label; none: it is no such word. -/
def wordL (s : Int) (w : Bs) : Option (Int × Bs) :=
  if s = 1 then (match w with
    | [x, c] => if x = 114 ∧ 48 ≤ c.toNat ∧ c.toNat ≤ 55 then some ((c.toNat : Int) - 48, []) else none
    | _ => none)
  else if s = 2 then (match w with
    | x :: l => if x = 64 ∧ isLabelB l = true then some (0, l) else none
    | [] => none)
  else match Lib.atoiAll w with
    | .ok n => if Lib.itoa n = w ∧ (Lib.trimPrefix w [45]).length ≤ 13 then some (n, []) else none
    | _ => none
def WordPost (s : Int) (l : Bs) (n : Int) (w : World) (e : Ending) (w' : World) : Prop :=
  Below w.heap.size w w' ∧ match wordL s l with
  | some (m, lab) => e = .returned (.tuple #[.int .i64 m, .string ⟨lab.toArray⟩])
  | none => e = wrongE n
theorem post_some {s : Int} {l : Bs} {n m : Int} {lab : Bs} {w w' : World} {e : Ending} (h : wordL s l = some (m, lab)) (hb : Below w.heap.size w w') (he : e = .returned (.tuple #[.int .i64 m, .string ⟨lab.toArray⟩])) : WordPost s l n w e w' := by
  unfold WordPost
  rw [h]
  exact ⟨hb, he⟩
theorem post_none {s : Int} {l : Bs} {n : Int} {w w' : World} {e : Ending} (h : wordL s l = none) (hb : Below w.heap.size w w') (he : e = wrongE n) : WordPost s l n w e w' := by
  unfold WordPost
  rw [h]
  exact ⟨hb, he⟩
theorem word_1 (g : Nat) (n : Int) (s : ByteArray) (w : World) (hc : w.cell? ⟨g, 1, none⟩ = some (.int .i64 n)) :
    Calls Tryd.prog 60 #[.pointer (some ⟨g, 0, none⟩), .int .i64 1, .string s] w (WordPost 1 s.data.toList n w) := by
  have hz := Lib.size_eq s
  have hw : ∀ l, wordL 1 l = (match l with
    | [x, c] => if x = 114 ∧ 48 ≤ c.toNat ∧ c.toNat ≤ 55 then some ((c.toNat : Int) - 48, []) else none
    | _ => none) := fun l => by unfold wordL; rw [if_pos rfl]
  rcases hl : s.data.toList with _ | ⟨x, _ | ⟨c, _ | ⟨d, r⟩⟩⟩
  · rw [hl] at hz
    refine (word1_no_a g n s w hc (by rw [hz]; rfl)).mono ?_
    rintro e w' ⟨he, hb⟩
    exact post_none (hw _) hb he
  · rw [hl] at hz
    refine (word1_no_a g n s w hc (by rw [hz]; rfl)).mono ?_
    rintro e w' ⟨he, hb⟩
    exact post_none (hw _) hb he
  · have hz2 : s.size = 2 := by rw [hz, hl]; rfl
    have b0 : 0 < s.size := by omega
    have b1 : 1 < s.size := by omega
    have b1i : (1 : Int) < (s.size : Int) := by omega
    have e0 : ((s.size : Int) == 2) = true := by rw [hz2]; rfl
    have g0 : s[0] = x := by
      have : s.data.toList[0]? = some x := by rw [hl]; rfl
      have h2 : s.data.toList[0]'(by rw [hl]; simp) = x := by simp [hl]
      exact h2
    have g1 : s[1] = c := by
      have h2 : s.data.toList[1]'(by rw [hl]; simp) = c := by simp [hl]
      exact h2
    by_cases hx : x = 114
    · have e1 : ((s[0].toNat : Int) == 114) = true := by rw [g0, hx]; rfl
      by_cases h1 : 48 ≤ c.toNat
      · have d1 : decide ((48 : Int) ≤ (s[1].toNat : Int)) = true := by rw [g1]; simp; omega
        by_cases h2 : c.toNat ≤ 55
        · have d2 : decide ((s[1].toNat : Int) ≤ (55 : Int)) = true := by rw [g1]; simp; omega
          refine (word1_yes g s w b0 b1 b1i e0 e1 d1 d2).mono ?_
          rintro e w' ⟨he, hb⟩
          refine post_some (m := (c.toNat : Int) - 48) (lab := []) ?_ hb (by rw [he, g1])
          rw [hw]; simp [hx, h1, h2]
        · have d2 : decide ((s[1].toNat : Int) ≤ (55 : Int)) = false := by rw [g1]; simp; omega
          refine (word1_no_d g n s w hc b0 b1 b1i e0 e1 d1 d2).mono ?_
          rintro e w' ⟨he, hb⟩
          refine post_none ?_ hb he
          rw [hw]; simp [hx, h1, h2]
      · have d1 : decide ((48 : Int) ≤ (s[1].toNat : Int)) = false := by rw [g1]; simp; omega
        refine (word1_no_c g n s w hc b0 b1 b1i e0 e1 d1).mono ?_
        rintro e w' ⟨he, hb⟩
        refine post_none ?_ hb he
        rw [hw]; simp [h1]
    · have e1 : ((s[0].toNat : Int) == 114) = false := by
        rw [g0, beq_eq_false_iff_ne]
        intro h
        exact hx (UInt8.toNat_inj.1 (by have : (x.toNat : Int) = ((114 : UInt8).toNat : Int) := h; omega))
      refine (word1_no_b g n s w hc b0 e0 e1).mono ?_
      rintro e w' ⟨he, hb⟩
      refine post_none ?_ hb he
      rw [hw]; simp [hx]
  · rw [hl] at hz
    refine (word1_no_a g n s w hc (by rw [hz, beq_eq_false_iff_ne]; simp; omega)).mono ?_
    rintro e w' ⟨he, hb⟩
    exact post_none (hw _) hb he
theorem word_2 (g : Nat) (n : Int) (s : ByteArray) (w : World) (hc : w.cell? ⟨g, 1, none⟩ = some (.int .i64 n)) (hs : s.size < 4294967281) :
    Calls Tryd.prog 60 #[.pointer (some ⟨g, 0, none⟩), .int .i64 2, .string s] w (WordPost 2 s.data.toList n w) := by
  have hz := Lib.size_eq s
  have hw : ∀ l, wordL 2 l = (match l with
    | x :: l => if x = 64 ∧ isLabelB l = true then some (0, l) else none
    | [] => none) := fun l => by unfold wordL; rw [if_neg (by decide), if_pos rfl]
  rcases hl : s.data.toList with _ | ⟨x, l⟩
  · refine (word2_no_a g n s w hc (by rw [hl]; rfl)).mono ?_
    rintro e w' ⟨he, hb⟩
    exact post_none (hw _) hb he
  · have hll : l.length < 4294967281 := by rw [hl] at hz; simp at hz; omega
    by_cases hx : x = 64
    · subst hx
      cases hi : isLabelB l with
      | true =>
        refine (word2_yes g n s l w hc hl hi hll).mono ?_
        rintro e w' ⟨he, hb⟩
        refine post_some (m := 0) (lab := l) ?_ hb he
        rw [hw]; simp [hi]
      | false =>
        refine (word2_no_b g n s l w hc hl hi hll).mono ?_
        rintro e w' ⟨he, hb⟩
        refine post_none ?_ hb he
        rw [hw]; simp [hi]
    · refine (word2_no_a g n s w hc (by rw [hl]; show ((64 : UInt8) == x && _) = false; rw [show ((64 : UInt8) == x) = false from beq_eq_false_iff_ne.2 (Ne.symm hx)]; rfl)).mono ?_
      rintro e w' ⟨he, hb⟩
      refine post_none ?_ hb he
      rw [hw]; simp [hx]
theorem word_0 (g : Nat) (n : Int) (s : ByteArray) (w : World) (hc : w.cell? ⟨g, 1, none⟩ = some (.int .i64 n)) (hg : g < w.heap.size) (hs : s.size < 4294967281) (hE : Env w) :
    Calls Tryd.prog 60 #[.pointer (some ⟨g, 0, none⟩), .int .i64 0, .string s] w (WordPost 0 s.data.toList n w) := by
  have hw : ∀ l, wordL 0 l = (match Lib.atoiAll l with
    | .ok n => if Lib.itoa n = l ∧ (Lib.trimPrefix l [45]).length ≤ 13 then some (n, []) else none
    | _ => none) := fun l => by unfold wordL; rw [if_neg (by decide), if_neg (by decide)]
  by_cases hA : ∀ v, Lib.atoiAll s.data.toList ≠ .ok v
  · refine (word0_bad g n s w hc hg hA hs hE).mono ?_
    rintro e w' ⟨he, hb⟩
    refine post_none ?_ hb he
    rw [hw]
    cases hr : Lib.atoiAll s.data.toList with
    | ok v => exact absurd hr (hA v)
    | _ => rfl
  · obtain ⟨v, hv⟩ : ∃ v, Lib.atoiAll s.data.toList = .ok v := by
      refine Classical.byContradiction fun h => hA fun v hv => h ⟨v, hv⟩
    obtain ⟨v0, v1⟩ := Lib.atoiAll_bounds hv
    by_cases hq : Lib.itoa v = s.data.toList
    · have hq' : (Lib.itoa v == s.toList) = true := by rw [Lib.toList_data, hq]; simp
      by_cases hl : (Lib.trimPrefix s.data.toList [45]).length ≤ 13
      · refine (word0_yes g s v _ w hv hs hE v0 v1 hq' rfl (by simp; omega)).mono ?_
        rintro e w' ⟨he, hb⟩
        refine post_some (m := v) (lab := []) ?_ hb he
        rw [hw, hv]; simp [hq, hl]
      · refine (word0_no_c g n s v _ w hc hg hv hs hE v0 v1 rfl hq' (by simp; omega)).mono ?_
        rintro e w' ⟨he, hb⟩
        refine post_none ?_ hb he
        rw [hw, hv]; simp [hl]
    · have hq' : (Lib.itoa v == s.toList) = false := by rw [Lib.toList_data]; simpa using hq
      refine (word0_no_b g n s v _ w hc hg hv hs hE v0 v1 rfl hq').mono ?_
      rintro e w' ⟨he, hb⟩
      refine post_none ?_ hb he
      rw [hw, hv]; simp [hq]
theorem word_any (g : Nat) (n q : Int) (s : ByteArray) (w : World) (hq : q = 0 ∨ q = 1 ∨ q = 2) (hc : w.cell? ⟨g, 1, none⟩ = some (.int .i64 n)) (hg : g < w.heap.size) (hs : s.size < 4294967281) (hE : Env w) :
    Calls Tryd.prog 60 #[.pointer (some ⟨g, 0, none⟩), .int .i64 q, .string s] w (WordPost q s.data.toList n w) := by
  rcases hq with rfl | rfl | rfl
  · exact word_0 g n s w hc hg hs hE
  · exact word_1 g n s w hc
  · exact word_2 g n s w hc hs
end Go.Proofs.YtcamimfepcoggaaDoor
