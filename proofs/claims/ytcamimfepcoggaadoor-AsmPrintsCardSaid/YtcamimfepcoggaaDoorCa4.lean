/- What a program that comes in reads as, in memory. -/
import Derived.Test.YtcamimfepcoggaaDoorCa0
import Derived.Lib.SmallJoins
import Derived.Carry
import Derived.Deep.Slices
namespace Go.Proofs.YtcamimfepcoggaaDoor
open Go.ChangeShapes Go.WideShapes Go.ChangeAt Go.RowKit Go.Joins Go.Deep
theorem cells25' : Tryd.prog.cellsOf 25 = 4 := by kernel_rfl
theorem list_of {α : Type} (P : Nat → α → Prop) : ∀ n : Nat, (∀ i, i < n → ∃ x, P i x) → ∃ l : List α, l.length = n ∧ ∀ (i : Nat) (h : i < l.length), P i l[i]
  | 0, _ => ⟨[], rfl, fun i h => absurd h (by simp)⟩
  | n + 1, h => by
    obtain ⟨l, hl, hp⟩ := list_of P n (fun i hi => h i (by omega))
    obtain ⟨x, hx⟩ := h n (by omega)
    refine ⟨l ++ [x], by simp [hl], fun i hi => ?_⟩
    rw [List.length_append, List.length_singleton] at hi
    by_cases e : i < l.length
    · rw [List.getElem_append_left e]
      exact hp i e
    · have : i = l.length := by omega
      subst this
      rw [List.getElem_append_right (Nat.le_refl _)]
      simp only [Nat.sub_self, List.getElem_cons_zero]
      rw [hl]
      exact hx
set_option maxRecDepth 100000 in
theorem ins_open {H : Type} {enc : TypeId × Value → H} {W : World} {base : Nat} {v : Value} {d : DataW H} {p : List MemPlace} (hv : Value.okWide Tryd.prog W .any base 22 v) (h : DataW.Trod enc Tryd.prog W 0 (fun _ => true) true 22 v d p) :
    ∃ (ao : Option Addr) (l : List Ins) (cap : Nat), v = .slice ao l.length cap ∧ l.length ≤ cap ∧ InsAt W v l := by
  obtain ⟨a0, len, cap, rfl⟩ := okWide_slice Tryd.underlying22 hv
  obtain ⟨fuel, hf⟩ := h
  rcases open_slice Tryd.underlying22 (by simpa [Value.cells] using hf) with ⟨hcs, _⟩ | ⟨a, len', cap', m, n, D, Pl, hcs, _, hl, _, hm, _, hall⟩
  · injection hcs with hcs _
    injection hcs with h1 h2 h3
    subst h1 h2 h3
    exact ⟨none, [], 0, rfl, Nat.le_refl _, none, 0, rfl, .inl rfl⟩
  · injection hcs with hcs _
    injection hcs with h1 h2 h3
    subst h1 h2 h3
    rw [if_pos rfl] at hm
    subst hm
    have key : ∀ i, i < len → ∃ x : Ins, ∀ (j : Nat) (u : Value), (iCells x)[j]? = some u → W.cell? ((a.add (i * 4)).add j) = some u := by
      intro i hi
      obtain ⟨cs', hc, ht⟩ := hall i (by omega)
      rw [cells25'] at hc
      obtain ⟨y0, y1, y2, y3, k, _, hlen, g0, g1, g2, g3⟩ := trod_struct4 Tryd.underlying25 ht
      rw [cells25'] at hlen
      obtain ⟨z0, z1, z2, z3, rfl⟩ : ∃ z0 z1 z2 z3, cs' = [z0, z1, z2, z3] := by
        match cs', hlen with
        | [z0, z1, z2, z3], _ => exact ⟨z0, z1, z2, z3, rfl⟩
      have e3 : Tryd.prog.cellsOf 3 = 1 := by kernel_rfl
      have e23 : Tryd.prog.cellsOf 23 = 1 := by kernel_rfl
      dsimp only at g0 g1 g2 g3
      rw [e23] at g0
      rw [e3] at g1 g2 g3
      obtain ⟨op, q0, _, _⟩ := DataW.trod_int Tryd.underlying23 g0
      obtain ⟨x, q1, _, _⟩ := DataW.trod_int Tryd.underlying3 g1
      obtain ⟨y, q2, _, _⟩ := DataW.trod_int Tryd.underlying3 g2
      obtain ⟨z, q3, _, _⟩ := DataW.trod_int Tryd.underlying3 g3
      simp at q0 q1 q2 q3
      subst q0 q1 q2 q3
      refine ⟨(op, x, y, z), fun j u hu => ?_⟩
      have hs := World.cells?_some hc
      have hj : j < 4 := by
        rcases Nat.lt_or_ge j 4 with h' | h'
        · exact h'
        · rw [List.getElem?_eq_none (show (iCells (op, x, y, z)).length ≤ j from h')] at hu
          cases hu
      rw [hs.2.2 j hj]
      exact hu
    obtain ⟨l, rfl, hp⟩ := list_of _ len key
    refine ⟨some a, l, _, rfl, hl, some a, _, rfl, ?_⟩
    by_cases h0 : l = []
    · exact .inl h0
    · right
      have h1 : 0 < l.length := List.length_pos_iff.2 h0
      have hcell := hp 0 h1 0 _ rfl
      obtain ⟨b, off, spot⟩ := a
      have hspot : spot = none := by simpa [Addr.add] using World.cell?_spot hcell
      subst hspot
      have hb : b < W.heap.size := by
        rcases Nat.lt_or_ge b W.heap.size with h' | h'
        · exact h'
        · rw [add_plain, add_plain] at hcell
          simp [World.cell?, Array.getElem?_eq_none h'] at hcell
      refine ⟨b, off, rfl, hb, fun i hi j u hu => ?_⟩
      have := hp i hi j u hu
      rw [add_plain, add_plain] at this
      exact this
end Go.Proofs.YtcamimfepcoggaaDoor
