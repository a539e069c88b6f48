/- The walk of instr.Operands. -/
import Derived.Test.YtcamimfepcoggaaDoorIn2
import Derived.LoopTactic
namespace Go.Proofs.YtcamimfepcoggaaDoor
open Go.RowKit
def one_ (s : Int) : Int := if s = 0 then 0 else 1
def cnt3 (s0 s1 s2 : Int) : Nat → Int
  | 0 => 0
  | 1 => one_ s0
  | 2 => one_ s0 + one_ s1
  | _ => one_ s0 + one_ s1 + one_ s2
theorem ret_int {k : IntKind} {a b : Int} (h : a = b) : Ending.returned (.int k a) = .returned (.int k b) := by rw [h]
theorem idx82_0 (x y z : Value) (w : World) : (Instr.index 82 (.agg #[x, y, z]) (.int .i64 0)).run Tryd.prog w = .ok x w := by kernel_rfl
theorem idx82_1 (x y z : Value) (w : World) : (Instr.index 82 (.agg #[x, y, z]) (.int .i64 1)).run Tryd.prog w = .ok y w := by kernel_rfl
theorem idx82_2 (x y z : Value) (w : World) : (Instr.index 82 (.agg #[x, y, z]) (.int .i64 2)).run Tryd.prog w = .ok z w := by kernel_rfl
set_option maxRecDepth 100000 in
theorem operands_yes (op : Int) (w : World) (h1 : 1 ≤ op) (h2 : op ≤ 20) :
    Calls Tryd.prog 28 #[.int .i64 op] w fun e w' => e = .returned (.int .i64 (cnt3 (fS0 op) (fS1 op) (fS2 op) 3)) ∧ Below w.heap.size w w' := by
  go_enter Tryd.func28, Tryd.ntmps28
  go_wp2_with (first
    | (go_at_call 33; refine (of_yes _ _ h1 h2).mono ?_; rintro e w1 ⟨rfl, hb⟩; obtain ⟨hc, hfz⟩ := bcell hb; have HB := Lib.hid hb; clear hb))
  have hz := HB.out.size
  go_loop [5, 15] (fun n i => ∃ (k : Nat) (m : Int), k ≤ 3 ∧ i = .int .i64 k ∧ n = .int .i64 m ∧ Hid (m = cnt3 (fS0 op) (fS1 op) (fS2 op) k) ∧ 0 ≤ m ∧ m ≤ 3) (fun _ i => 3 - (intOf i).toNat)
  case atStart => exact ⟨0, 0, by omega, rfl, rfl, rfl, by omega, by omega⟩
  case round =>
    obtain ⟨k, m, hk, rfl, rfl, hm, hm0, hm1⟩ := hrel
    have hmk : m ≤ k := by
      have := hm.out
      rw [this]
      have b0 : one_ (fS0 op) ≤ 1 := by unfold one_; split <;> omega
      have b1 : one_ (fS1 op) ≤ 1 := by unfold one_; split <;> omega
      have b2 : one_ (fS2 op) ≤ 1 := by unfold one_; split <;> omega
      match k, hk with
      | 0, _ => simp [cnt3]
      | 1, _ => simp [cnt3]; omega
      | 2, _ => simp [cnt3]; omega
      | 3, _ => simp [cnt3]; omega
    have i0 := idx82_0
    have i1 := idx82_1
    have i2 := idx82_2
    have : k = 0 ∨ k = 1 ∨ k = 2 ∨ k = 3 := by omega
    rcases this with rfl | rfl | rfl | rfl
    · by_cases h : fS0 op = 0
      · have h' : (fS0 op == 0) = true := by simpa using h
        have h'' : (fS0 op != 0) = false := by simpa using h
        have H := Lib.hid h
        clear h
        go_wp2
        all_goals
          go_round
          case rel => exact ⟨1, m, by omega, rfl, rfl, by show m = _; rw [hm.out]; simp [cnt3, one_, H.out], by omega, by omega⟩
          case measure => simp [intOf]
      · have h' : (fS0 op == 0) = false := by simpa using h
        have h'' : (fS0 op != 0) = true := by simpa using h
        have H := Lib.hid h
        clear h
        go_wp2
        all_goals
          go_round
          case rel => exact ⟨1, m + 1, by omega, rfl, rfl, by show m + 1 = _; rw [hm.out]; simp [cnt3, one_, H.out], by omega, by omega⟩
          case measure => simp [intOf]
    · by_cases h : fS1 op = 0
      · have h' : (fS1 op == 0) = true := by simpa using h
        have h'' : (fS1 op != 0) = false := by simpa using h
        have H := Lib.hid h
        clear h
        go_wp2
        all_goals
          go_round
          case rel => exact ⟨2, m, by omega, rfl, rfl, by show m = _; rw [hm.out]; simp [cnt3, one_, H.out], by omega, by omega⟩
          case measure => simp [intOf]
      · have h' : (fS1 op == 0) = false := by simpa using h
        have h'' : (fS1 op != 0) = true := by simpa using h
        have H := Lib.hid h
        clear h
        go_wp2
        all_goals
          go_round
          case rel => exact ⟨2, m + 1, by omega, rfl, rfl, by show m + 1 = _; rw [hm.out]; simp [cnt3, one_, H.out], by omega, by omega⟩
          case measure => simp [intOf]
    · by_cases h : fS2 op = 0
      · have h' : (fS2 op == 0) = true := by simpa using h
        have h'' : (fS2 op != 0) = false := by simpa using h
        have H := Lib.hid h
        clear h
        go_wp2
        all_goals
          go_round
          case rel => exact ⟨3, m, by omega, rfl, rfl, by show m = _; rw [hm.out]; simp [cnt3, one_, H.out], by omega, by omega⟩
          case measure => simp [intOf]
      · have h' : (fS2 op == 0) = false := by simpa using h
        have h'' : (fS2 op != 0) = true := by simpa using h
        have H := Lib.hid h
        clear h
        go_wp2
        all_goals
          go_round
          case rel => exact ⟨3, m + 1, by omega, rfl, rfl, by show m + 1 = _; rw [hm.out]; simp [cnt3, one_, H.out], by omega, by omega⟩
          case measure => simp [intOf]
    · go_wp2
      go_ret
      exact ⟨ret_int hm.out, HB.out.alloc (by omega) _⟩
end Go.Proofs.YtcamimfepcoggaaDoor
