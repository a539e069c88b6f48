/- The walk of asm's reader's find. -/
import Derived.Test.YtcamimfepcoggaaDoorRd1
import Derived.LoopN
namespace Go.Proofs.YtcamimfepcoggaaDoor
open Go.RowKit
def labCells (ls : List (Bs × Int)) : List Value := ls.flatMap fun l => [.string ⟨l.1.toArray⟩, .int .i64 l.2]
def findL (ls : List (Bs × Int)) (s : Bs) : Option Int := (ls.find? fun l => l.1 == s).map (·.2)
theorem labCells_at (ls : List (Bs × Int)) : ∀ (k : Nat) (h : k < ls.length), (labCells ls)[k * 2]? = some (.string ⟨ls[k].1.toArray⟩) ∧ (labCells ls)[k * 2 + 1]? = some (.int .i64 ls[k].2) := by
  induction ls with
  | nil => intro k h; simp at h
  | cons x r ih =>
    intro k h
    cases k with
    | zero => simp [labCells]
    | succ k =>
      obtain ⟨h1, h2⟩ := ih k (by simpa using h)
      have e : labCells (x :: r) = .string ⟨x.1.toArray⟩ :: .int .i64 x.2 :: labCells r := rfl
      rw [e, show (k + 1) * 2 = k * 2 + 1 + 1 from by omega]
      simpa using ⟨h1, h2⟩
theorem findL_hit (s : Bs) : ∀ (ls : List (Bs × Int)) (k : Nat) (h : k < ls.length), (∀ (j : Nat) (h : j < ls.length), j < k → ls[j].1 ≠ s) → ls[k].1 = s → findL ls s = some ls[k].2
  | [], k, h, _, _ => absurd h (by simp)
  | x :: r, 0, h, _, he => by
    have he' : x.1 = s := he
    simp [findL, he']
  | x :: r, k + 1, h, hm, he => by
    have hx : x.1 ≠ s := hm 0 (by simp) (by omega)
    have ih := findL_hit s r k (by simpa using h) (fun j hj hjk => hm (j + 1) (by simpa using hj) (by omega)) he
    have hb : (x.1 == s) = false := by simpa using hx
    unfold findL at ih ⊢
    rw [List.find?_cons, hb]
    exact ih
theorem findL_miss (s : Bs) (ls : List (Bs × Int)) (hm : ∀ (j : Nat) (h : j < ls.length), ls[j].1 ≠ s) : findL ls s = none := by
  have : ls.find? (fun l => l.1 == s) = none := by
    rw [List.find?_eq_none]
    intro x hx
    obtain ⟨j, hj, rfl⟩ := List.getElem_of_mem hx
    simpa using hm j hj
  unfold findL
  rw [this]; rfl
theorem ret_find {a : Int} {b : Bool} {o : Option Int} (h : o = (if b then some a else none)) (h' : b = false → a = 0) : Ending.returned (.tuple #[.int .i64 a, .bool b]) = .returned (.tuple #[.int .i64 (o.getD 0), .bool o.isSome]) := by
  cases b with
  | true => rw [h]; rfl
  | false => rw [h, h' rfl]; rfl
set_option maxRecDepth 100000 in
theorem find_some (g B gr cap : Nat) (t : ByteArray) (n : Int) (v3 : Value) (ls : List (Bs × Int)) (s : ByteArray) (w : World)
    (hR : RB w g t n (.slice (some ⟨gr, 0, none⟩) ls.length cap) v3) (hO : w.ownsRow B 106 2 (.slice (some ⟨gr, 0, none⟩) ls.length cap) ls.length (labCells ls)) (hl : ls.length ≤ 4294967296) :
    Calls Tryd.prog 47 #[.pointer (some ⟨g, 0, none⟩), .string s] w fun e w' => e = .returned (.tuple #[.int .i64 ((findL ls s.data.toList).getD 0), .bool (findL ls s.data.toList).isSome]) ∧ Below w.heap.size w w' := by
  have c2 := hR.c2
  have hlt := hR.lt
  have hcells : ∀ (k : Nat) (h : k < ls.length), w.cell? ⟨gr, k * 2, none⟩ = some (.string ⟨ls[k].1.toArray⟩) ∧ w.cell? ⟨gr, k * 2 + 1, none⟩ = some (.int .i64 ls[k].2) := by
    intro k h
    have := hO.cells (g := gr) rfl
    obtain ⟨h1, h2⟩ := labCells_at ls k h
    have a1 := this _ _ h1
    have a2 := this _ _ h2
    simp only [Addr.add_lit, Nat.zero_add] at a1 a2
    exact ⟨a1, a2⟩
  have hgr : gr < w.heap.size := (hO.lt gr rfl).2
  have HC := Lib.hid hcells
  have HGR := Lib.hid hgr
  clear hcells hO hR hgr
  go_enter Tryd.func47, Tryd.ntmps47
  go_wp2
  go_loopw [13] (fun i wr => ∃ k : Nat, k ≤ ls.length ∧ i = .int .i64 k ∧ Below w.heap.size w wr ∧ Hid (∀ (j : Nat) (h : j < ls.length), j < k → ls[j].1 ≠ s.data.toList)) (fun i _ => ls.length - (intOf i).toNat)
  case atStart => exact ⟨0, Nat.zero_le _, rfl, Below.refl _ _, fun j h h' => absurd h' (by omega)⟩
  case round =>
    obtain ⟨k, hk, rfl, hb, HN⟩ := hrel
    have HB := Lib.hid hb
    clear hb
    by_cases hlt : k < ls.length
    · obtain ⟨a1, a2⟩ := HC.out k hlt
      have b1 : wr.cell? ⟨gr, k * 2, none⟩ = some (.string ⟨ls[k].1.toArray⟩) := by rw [HB.out.cell (p := ⟨gr, k * 2, none⟩) HGR.out]; exact a1
      have b2 : wr.cell? ⟨gr, k * 2 + 1, none⟩ = some (.int .i64 ls[k].2) := by rw [HB.out.cell (p := ⟨gr, k * 2 + 1, none⟩) HGR.out]; exact a2
      clear a1 a2
      by_cases hq : ls[k].1 = s.data.toList
      · have ht : (ls[k].1 == s.toList) = true := by rw [Lib.toList_data]; simpa using hq
        have HQ := Lib.hid hq
        clear hq
        go_wp2
        go_ret2
        exact ⟨ret_find (findL_hit _ _ _ hlt (fun j h h' => HN.out j h h') HQ.out) (fun h => by cases h), HB.out.alloc HB.out.size _⟩
      · have ht : (ls[k].1 == s.toList) = false := by rw [Lib.toList_data]; simpa using hq
        have HQ := Lib.hid hq
        clear hq
        go_wp2
        go_roundw
        case rel => exact ⟨k + 1, by omega, by go_num, HB.out.alloc HB.out.size _, fun j h h' => by
          by_cases e : j = k
          · subst e; exact HQ.out
          · exact HN.out j h (by omega)⟩
        case measure => simp [intOf]; omega
    · go_wp2
      go_ret2
      exact ⟨ret_find (findL_miss _ _ fun j h => HN.out j h (by omega)) (fun _ => rfl), HB.out⟩
theorem find_any (g B : Nat) (t : ByteArray) (n : Int) (v2 v3 : Value) (ls : List (Bs × Int)) (s : ByteArray) (w : World)
    (hR : RB w g t n v2 v3) (hO : w.ownsRow B 106 2 v2 ls.length (labCells ls)) (hl : ls.length ≤ 4294967296) :
    Calls Tryd.prog 47 #[.pointer (some ⟨g, 0, none⟩), .string s] w fun e w' => e = .returned (.tuple #[.int .i64 ((findL ls s.data.toList).getD 0), .bool (findL ls s.data.toList).isSome]) ∧ Below w.heap.size w w' := by
  rcases hO.2 with ⟨rfl, h0⟩ | ⟨gr, cap, cur, rfl, _⟩
  · obtain rfl : ls = [] := List.eq_nil_of_length_eq_zero h0
    have c2 := hR.c2
    have hlt := hR.lt
    clear hO hR h0
    go_enter Tryd.func47, Tryd.ntmps47
    go_wp2
    refine wp_loop_rounds 1 ?_
    rw [rounds_succ]
    go_wp2
    go_ret2
    exact ⟨rfl, Below.refl _ _⟩
  · exact find_some g B gr cap t n v3 ls s w hR hO hl
end Go.Proofs.YtcamimfepcoggaaDoor
