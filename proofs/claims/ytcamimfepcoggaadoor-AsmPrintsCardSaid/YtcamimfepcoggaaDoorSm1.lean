/- Programs as they lie in memory; the walk of the reference's Same. -/
import Derived.Test.YtcamimfepcoggaaDoorRd1
import Derived.LoopN
import Derived.BigQuiet
import Derived.Laws.StructEq
namespace Go.Proofs.YtcamimfepcoggaaDoor
open Go.RowKit
/-- An instruction's cells. -/
def iCells (i : Ins) : List Value := [.int .i64 i.1, .int .i64 i.2.1, .int .i64 i.2.2.1, .int .i64 i.2.2.2]
/-- A program's cells. -/
def insCells (l : List Ins) : List Value := l.flatMap iCells
theorem insCells_length (ls : List Ins) : (insCells ls).length = ls.length * 4 := by
  induction ls with
  | nil => rfl
  | cons x r ih =>
    have e : insCells (x :: r) = iCells x ++ insCells r := rfl
    rw [e, List.length_append, ih]
    have e4 : (iCells x).length = 4 := rfl
    rw [e4, List.length_cons, Nat.add_mul]; omega
theorem insCells_at (ls : List Ins) : ∀ (k : Nat) (h : k < ls.length) (j : Nat) (u : Value), (iCells ls[k])[j]? = some u → (insCells ls)[k * 4 + j]? = some u := by
  induction ls with
  | nil => intro k h; simp at h
  | cons x r ih =>
    intro k h j u hu
    have e : insCells (x :: r) = iCells x ++ insCells r := rfl
    have hl : (iCells x).length = 4 := rfl
    cases k with
    | zero =>
      simp only [List.getElem_cons_zero] at hu
      have hj : j < (iCells x).length := by
        rcases Nat.lt_or_ge j (iCells x).length with h' | h'
        · exact h'
        · rw [List.getElem?_eq_none h'] at hu; cases hu
      rw [e, Nat.zero_mul, Nat.zero_add, List.getElem?_append_left hj]
      exact hu
    | succ k =>
      have := ih k (by simpa using h) j u (by simpa using hu)
      rw [e, List.getElem?_append_right (by rw [hl]; omega), hl, show (k + 1) * 4 + j - 4 = k * 4 + j from by omega]
      exact this
/-- A slice that holds a program. -/
def InsAt (w : World) (v : Value) (l : List Ins) : Prop :=
  ∃ (ao : Option Addr) (cap : Nat), v = .slice ao l.length cap ∧ (l = [] ∨ ∃ g k, ao = some ⟨g, k, none⟩ ∧ g < w.heap.size ∧ ∀ (i : Nat) (h : i < l.length) (j : Nat) (u : Value), (iCells l[i])[j]? = some u → w.cell? ⟨g, k + i * 4 + j, none⟩ = some u)
theorem InsAt.below {w w' : World} {v : Value} {l : List Ins} (h : InsAt w v l) (hb : Below w.heap.size w w') : InsAt w' v l := by
  obtain ⟨ao, cap, hv, h⟩ := h
  refine ⟨ao, cap, hv, ?_⟩
  rcases h with h | ⟨g, k, ha, hg, hc⟩
  · exact .inl h
  · refine .inr ⟨g, k, ha, Nat.lt_of_lt_of_le hg hb.size, fun i hi j u hu => ?_⟩
    rw [hb.cell (p := ⟨g, k + i * 4 + j, none⟩) hg]
    exact hc i hi j u hu
theorem InsAt.own {w : World} {B : Nat} {v : Value} {l : List Ins} (h : w.ownsRow B 25 4 v l.length (insCells l)) : InsAt w v l := by
  rcases h.2 with ⟨rfl, h0⟩ | ⟨g, cap, cur, rfl, r⟩
  · exact ⟨none, 0, by rw [h0], .inl (List.eq_nil_of_length_eq_zero h0)⟩
  · refine ⟨some ⟨g, 0, none⟩, cap, rfl, .inr ⟨g, 0, rfl, (h.lt g rfl).2, fun i hi j u hu => ?_⟩⟩
    have := h.cells (g := g) rfl _ _ (insCells_at l i hi j u hu)
    simp only [Addr.add_lit, Nat.zero_add] at this
    rw [Nat.zero_add]
    exact this
theorem InsAt.cells {w : World} {v : Value} {l : List Ins} (h : InsAt w v l) (hl : l ≠ []) :
    ∃ g k cap, v = .slice (some ⟨g, k, none⟩) l.length cap ∧ g < w.heap.size ∧ ∀ (i : Nat) (h : i < l.length), w.cell? ⟨g, k + i * 4, none⟩ = some (.int .i64 l[i].1) ∧ w.cell? ⟨g, k + i * 4 + 1, none⟩ = some (.int .i64 l[i].2.1) ∧ w.cell? ⟨g, k + i * 4 + 2, none⟩ = some (.int .i64 l[i].2.2.1) ∧ w.cell? ⟨g, k + i * 4 + 3, none⟩ = some (.int .i64 l[i].2.2.2) := by
  obtain ⟨ao, cap, hv, h | ⟨g, k, rfl, hg, hc⟩⟩ := h
  · exact absurd h hl
  · exact ⟨g, k, cap, hv, hg, fun i hi => ⟨hc i hi 0 _ rfl, hc i hi 1 _ rfl, hc i hi 2 _ rfl, hc i hi 3 _ rfl⟩⟩
def agV (i : Ins) : Value := .agg #[.int .i64 i.1, .int .i64 i.2.1, .int .i64 i.2.2.1, .int .i64 i.2.2.2]
theorem below_drewN (w : World) (n : Nat) : Below w.heap.size w (w.drewN n) := ⟨rfl, rfl, rfl, Nat.le_refl _, fun _ _ => rfl⟩
theorem bool_dec {α : Type} [DecidableEq α] {x y : α} {b : Bool} (h : b = true ↔ x = y) : Ending.returned (.bool b) = .returned (.bool (decide (x = y))) := by
  cases b with
  | true => rw [decide_eq_true (h.1 rfl)]
  | false => rw [decide_eq_false (fun e => by have := h.2 e; cases this)]
set_option maxRecDepth 100000 in
set_option maxHeartbeats 2000000 in
theorem same_some (l m : List Ins) (w : World) (g k cap g' k' cap' : Nat) (hlen : m.length = l.length)
    (hl : l.length ≤ 4294967296)
    (hc : ∀ (i : Nat) (h : i < l.length), w.cell? ⟨g, k + i * 4, none⟩ = some (.int .i64 l[i].1) ∧ w.cell? ⟨g, k + i * 4 + 1, none⟩ = some (.int .i64 l[i].2.1) ∧ w.cell? ⟨g, k + i * 4 + 2, none⟩ = some (.int .i64 l[i].2.2.1) ∧ w.cell? ⟨g, k + i * 4 + 3, none⟩ = some (.int .i64 l[i].2.2.2))
    (hd : ∀ (i : Nat) (h : i < m.length), w.cell? ⟨g', k' + i * 4, none⟩ = some (.int .i64 m[i].1) ∧ w.cell? ⟨g', k' + i * 4 + 1, none⟩ = some (.int .i64 m[i].2.1) ∧ w.cell? ⟨g', k' + i * 4 + 2, none⟩ = some (.int .i64 m[i].2.2.1) ∧ w.cell? ⟨g', k' + i * 4 + 3, none⟩ = some (.int .i64 m[i].2.2.2)) :
    Calls Tryd.prog 16 #[.slice (some ⟨g, k, none⟩) l.length cap, .slice (some ⟨g', k', none⟩) l.length cap'] w fun e w' => e = .returned (.bool (decide (l = m))) ∧ Below w.heap.size w w' := by
  have HC := Lib.hid hc
  have HD := Lib.hid hd
  have HL := Lib.hid hlen
  clear hc hd hlen
  go_enter Tryd.func16, Tryd.ntmps16
  go_wp2
  go_loopw [5] (fun i wr => ∃ k : Nat, k ≤ l.length ∧ i = .int .i64 k ∧ (∃ n, wr = w.drewN n) ∧ Hid (∀ (j : Nat) (h : j < l.length) (h' : j < m.length), j < k → l[j] = m[j])) (fun i _ => l.length - (intOf i).toNat)
  case atStart => exact ⟨0, Nat.zero_le _, rfl, ⟨0, rfl⟩, fun j h h' h'' => absurd h'' (by omega)⟩
  case round =>
    obtain ⟨x, hx, rfl, ⟨n, rfl⟩, HN⟩ := hrel
    by_cases hlt : x < l.length
    · obtain ⟨a0, a1, a2, a3⟩ := HC.out x hlt
      obtain ⟨b0, b1, b2, b3⟩ := HD.out x (HL.out ▸ hlt)
      have HE : Hid (∃ (h : x < l.length) (h' : x < m.length), l[x] = l[x]'hlt ∧ m[x]'(HL.out ▸ hlt) = m[x]) := ⟨hlt, HL.out ▸ hlt, rfl, rfl⟩
      have hb : (x : Int) < (l.length : Int) := by omega
      have h0 : (0 : Int) ≤ (x : Int) := by omega
      generalize hi : l[x]'hlt = i at a0 a1 a2 a3 HE
      generalize hj : m[x]'(HL.out ▸ hlt) = j at b0 b1 b2 b3 HE
      obtain ⟨i0, i1, i2, i3⟩ := i
      obtain ⟨j0, j1, j2, j3⟩ := j
      have HI := Lib.hid hi
      have HJ := Lib.hid hj
      clear HE hi hj
      dsimp only at a0 a1 a2 a3 b0 b1 b2 b3
      by_cases he : i0 = j0 ∧ i1 = j1 ∧ i2 = j2 ∧ i3 = j3
      · obtain ⟨e0, e1, e2, e3⟩ := he
        go_wp2
        go_quiet (fail)
        go_wp2
        go_roundw
        case rel => exact ⟨x + 1, by omega, by go_num, ⟨_, rfl⟩, fun j h h' hj => by
          by_cases e : j = x
          · subst e; exact HI.out.trans (by rw [e0, e1, e2, e3]; exact HJ.out.symm)
          · exact HN.out j h h' (by omega)⟩
        case measure => simp [intOf]; omega
      · have HF : Hid (l ≠ m) := Lib.hid (fun e => he (by
          have h1 := HI.out
          have h2 := HJ.out
          subst e
          rw [h1] at h2
          simpa using h2))
        by_cases e0 : i0 = j0
        · by_cases e1 : i1 = j1
          · by_cases e2 : i2 = j2
            · have e3 : ¬ i3 = j3 := fun e3 => he ⟨e0, e1, e2, e3⟩
              clear he
              go_wp2
              go_quiet (fail)
              go_wp2
              go_ret
              exact ⟨bool_dec ⟨fun h => (by cases h), fun h => absurd h HF.out⟩, ⟨rfl, rfl, rfl, Nat.le_refl _, fun _ _ => rfl⟩⟩
            · clear he
              go_wp2
              go_quiet (fail)
              go_wp2
              go_ret
              exact ⟨bool_dec ⟨fun h => (by cases h), fun h => absurd h HF.out⟩, ⟨rfl, rfl, rfl, Nat.le_refl _, fun _ _ => rfl⟩⟩
          · clear he
            go_wp2
            go_quiet (fail)
            go_wp2
            go_ret
            exact ⟨bool_dec ⟨fun h => (by cases h), fun h => absurd h HF.out⟩, ⟨rfl, rfl, rfl, Nat.le_refl _, fun _ _ => rfl⟩⟩
        · clear he
          go_wp2
          go_quiet (fail)
          go_wp2
          go_ret
          exact ⟨bool_dec ⟨fun h => (by cases h), fun h => absurd h HF.out⟩, ⟨rfl, rfl, rfl, Nat.le_refl _, fun _ _ => rfl⟩⟩
    · go_wp2
      go_ret
      exact ⟨bool_dec ⟨fun _ => List.ext_getElem HL.out.symm fun j h h' => HN.out j h h' (by omega), fun _ => rfl⟩, below_drewN _ _⟩
theorem same_len (p q : Option Addr) (a b c d : Nat) (w : World) (h : (a : Int) ≠ b) (h' : (a : Int) = b → False) :
    Calls Tryd.prog 16 #[.slice p a c, .slice q b d] w fun e w' => e = .returned (.bool false) ∧ Below w.heap.size w w' := by
  go_enter Tryd.func16, Tryd.ntmps16
  go_wp2
  go_ret
  exact ⟨rfl, Below.refl _ _⟩
theorem same_nil (p q : Option Addr) (c d : Nat) (w : World) :
    Calls Tryd.prog 16 #[.slice p 0 c, .slice q 0 d] w fun e w' => e = .returned (.bool true) ∧ Below w.heap.size w w' := by
  go_enter Tryd.func16, Tryd.ntmps16
  go_wp2
  refine wp_loop_rounds 1 ?_
  rw [rounds_succ]
  go_wp2
  go_ret
  exact ⟨rfl, Below.refl _ _⟩
theorem same_any (p q : Value) (l m : List Ins) (w : World) (hp : InsAt w p l) (hq : InsAt w q m) (hl : l.length ≤ 4294967296) :
    Calls Tryd.prog 16 #[p, q] w fun e w' => e = .returned (.bool (decide (l = m))) ∧ Below w.heap.size w w' := by
  by_cases hlen : m.length = l.length
  · by_cases h0 : l = []
    · subst h0
      have h1 : m = [] := List.eq_nil_of_length_eq_zero hlen
      subst h1
      obtain ⟨ao, cap, rfl, _⟩ := hp
      obtain ⟨ao', cap', rfl, _⟩ := hq
      exact same_nil ao ao' cap cap' w
    · have h1 : m ≠ [] := fun e => h0 (List.eq_nil_of_length_eq_zero (by rw [← hlen, e]; rfl))
      obtain ⟨g, k, cap, rfl, _, hc⟩ := hp.cells h0
      obtain ⟨g', k', cap', rfl, _, hd⟩ := hq.cells h1
      rw [hlen]
      exact same_some l m w g k cap g' k' cap' hlen hl hc hd
  · obtain ⟨ao, cap, rfl, _⟩ := hp
    obtain ⟨ao', cap', rfl, _⟩ := hq
    refine (same_len ao ao' l.length m.length cap cap' w (by omega) (by omega)).mono ?_
    rintro e w' ⟨rfl, hb⟩
    exact ⟨by rw [decide_eq_false (fun e => hlen (by rw [e]))], hb⟩
end Go.Proofs.YtcamimfepcoggaaDoor
