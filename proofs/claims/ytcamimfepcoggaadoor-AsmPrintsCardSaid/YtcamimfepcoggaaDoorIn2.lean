/- The walks of instr.Check, Name, Operands, Target, Aim, ByName. -/
import Derived.Test.YtcamimfepcoggaaDoorIn1
namespace Go.Proofs.YtcamimfepcoggaaDoor
open Go.RowKit
abbrev insV (op a b c : Int) : Value := .agg #[.int .i64 op, .int .i64 a, .int .i64 b, .int .i64 c]
def errOf (b : Bool) : Int := if b then 0 else 100
theorem check_no (op a b c : Int) (w : World) (h : op < 1 ∨ 20 < op) :
    Calls Tryd.prog 18 #[insV op a b c] w fun e w' => e = .returned (.int .i64 100) ∧ Below w.heap.size w w' := by
  go_enter Tryd.func18, Tryd.ntmps18
  go_wp2_with (go_at_call 33; refine (of_no _ _ h).mono ?_; rintro e w1 ⟨rfl, hb⟩; obtain ⟨hc, hfz⟩ := bcell hb; have HB := Lib.hid hb; clear hb)
  go_ret
  exact ⟨rfl, (xt ((Below.refl _ _).alloc (Nat.le_refl _) _) HB.out).alloc (by have := HB.out.size; simp at this; omega) _⟩
theorem check_0 (op a b c : Int) (w : World) (h1 : 1 ≤ op) (h2 : op ≤ 20) (h : fitsB (fS0 op) a 0 = false) :
    Calls Tryd.prog 18 #[insV op a b c] w fun e w' => e = .returned (.int .i64 100) ∧ Below w.heap.size w w' := by
  go_enter Tryd.func18, Tryd.ntmps18
  go_wp2_with (first
    | (go_at_call 33; refine (of_yes _ _ h1 h2).mono ?_; rintro e w1 ⟨rfl, hb⟩; obtain ⟨hc, hfz⟩ := bcell hb; have HB := Lib.hid hb; clear hb; have hz : w.heap.size < w1.heap.size := by (have := HB.out.size; simp at this; omega))
    | (go_at_call 34; refine (fits_any _ _ _ _).mono ?_; rintro e w' ⟨rfl, rfl⟩))
  go_ret
  exact ⟨rfl, (xt ((Below.refl _ _).alloc (Nat.le_refl _) _) HB.out).alloc (by omega) _⟩
theorem check_1 (op a b c : Int) (w : World) (h1 : 1 ≤ op) (h2 : op ≤ 20) (h : fitsB (fS0 op) a 0 = true) (h' : fitsB (fS1 op) b 0 = false) :
    Calls Tryd.prog 18 #[insV op a b c] w fun e w' => e = .returned (.int .i64 100) ∧ Below w.heap.size w w' := by
  go_enter Tryd.func18, Tryd.ntmps18
  go_wp2_with (first
    | (go_at_call 33; refine (of_yes _ _ h1 h2).mono ?_; rintro e w1 ⟨rfl, hb⟩; obtain ⟨hc, hfz⟩ := bcell hb; have HB := Lib.hid hb; clear hb; have hz : w.heap.size < w1.heap.size := by (have := HB.out.size; simp at this; omega))
    | (go_at_call 34; refine (fits_any _ _ _ _).mono ?_; rintro e w' ⟨rfl, rfl⟩))
  go_ret
  exact ⟨rfl, (xt ((Below.refl _ _).alloc (Nat.le_refl _) _) HB.out).alloc (by omega) _⟩
theorem check_2 (op a b c : Int) (w : World) (h1 : 1 ≤ op) (h2 : op ≤ 20) (h : fitsB (fS0 op) a 0 = true) (h' : fitsB (fS1 op) b 0 = true) (h'' : fitsB (fS2 op) c b = false) :
    Calls Tryd.prog 18 #[insV op a b c] w fun e w' => e = .returned (.int .i64 100) ∧ Below w.heap.size w w' := by
  go_enter Tryd.func18, Tryd.ntmps18
  go_wp2_with (first
    | (go_at_call 33; refine (of_yes _ _ h1 h2).mono ?_; rintro e w1 ⟨rfl, hb⟩; obtain ⟨hc, hfz⟩ := bcell hb; have HB := Lib.hid hb; clear hb; have hz : w.heap.size < w1.heap.size := by (have := HB.out.size; simp at this; omega))
    | (go_at_call 34; refine (fits_any _ _ _ _).mono ?_; rintro e w' ⟨rfl, rfl⟩))
  go_ret
  exact ⟨rfl, (xt ((Below.refl _ _).alloc (Nat.le_refl _) _) HB.out).alloc (by omega) _⟩
theorem check_3 (op a b c : Int) (w : World) (h1 : 1 ≤ op) (h2 : op ≤ 20) (h : fitsB (fS0 op) a 0 = true) (h' : fitsB (fS1 op) b 0 = true) (h'' : fitsB (fS2 op) c b = true) :
    Calls Tryd.prog 18 #[insV op a b c] w fun e w' => e = .returned (.int .i64 0) ∧ Below w.heap.size w w' := by
  go_enter Tryd.func18, Tryd.ntmps18
  go_wp2_with (first
    | (go_at_call 33; refine (of_yes _ _ h1 h2).mono ?_; rintro e w1 ⟨rfl, hb⟩; obtain ⟨hc, hfz⟩ := bcell hb; have HB := Lib.hid hb; clear hb; have hz : w.heap.size < w1.heap.size := by (have := HB.out.size; simp at this; omega))
    | (go_at_call 34; refine (fits_any _ _ _ _).mono ?_; rintro e w' ⟨rfl, rfl⟩))
  go_ret
  exact ⟨rfl, (xt ((Below.refl _ _).alloc (Nat.le_refl _) _) HB.out).alloc (by omega) _⟩
theorem check_any (op a b c : Int) (w : World) :
    Calls Tryd.prog 18 #[insV op a b c] w fun e w' => e = .returned (.int .i64 (errOf (insOk (op, a, b, c)))) ∧ Below w.heap.size w w' := by
  by_cases h1 : op < 1 ∨ 20 < op
  · have : insOk (op, a, b, c) = false := by simp [insOk, isOp]; omega
    rw [this]; exact check_no op a b c w h1
  · have h2 : 1 ≤ op := by omega
    have h3 : op ≤ 20 := by omega
    have hi : isOp op = true := by simp [isOp]; omega
    cases h4 : fitsB (fS0 op) a 0 with
    | false =>
      have : insOk (op, a, b, c) = false := by unfold fS0 at h4; simp [insOk, h4]
      rw [this]; exact check_0 op a b c w h2 h3 h4
    | true =>
      cases h5 : fitsB (fS1 op) b 0 with
      | false =>
        have : insOk (op, a, b, c) = false := by unfold fS1 at h5; simp [insOk, h5]
        rw [this]; exact check_1 op a b c w h2 h3 h4 h5
      | true =>
        cases h6 : fitsB (fS2 op) c b with
        | false =>
          have : insOk (op, a, b, c) = false := by unfold fS2 at h6; simp [insOk, h6]
          rw [this]; exact check_2 op a b c w h2 h3 h4 h5 h6
        | true =>
          have : insOk (op, a, b, c) = true := by unfold fS0 at h4; unfold fS1 at h5; unfold fS2 at h6; simp [insOk, hi, h4, h5, h6]
          rw [this]; exact check_3 op a b c w h2 h3 h4 h5 h6
theorem name_any (op : Int) (w : World) :
    Calls Tryd.prog 26 #[.int .i64 op] w fun e w' => e = .returned (.string (fName op)) ∧ Below w.heap.size w w' := by
  by_cases h : op < 1 ∨ 20 < op
  · have hn : fName op = ⟨#[]⟩ := by unfold fName formOf; rw [if_neg (by omega)]
    rw [hn]
    clear hn
    go_enter Tryd.func26, Tryd.ntmps26
    go_wp2_with (go_at_call 33; refine (of_no _ _ h).mono ?_; rintro e w1 ⟨rfl, hb⟩; obtain ⟨hc, hfz⟩ := bcell hb; have HB := Lib.hid hb; clear hb; have hz := HB.out.size)
    go_ret
    exact ⟨rfl, HB.out.alloc (by omega) _⟩
  · have h1 : 1 ≤ op := by omega
    have h2 : op ≤ 20 := by omega
    clear h
    go_enter Tryd.func26, Tryd.ntmps26
    go_wp2_with (go_at_call 33; refine (of_yes _ _ h1 h2).mono ?_; rintro e w1 ⟨rfl, hb⟩; obtain ⟨hc, hfz⟩ := bcell hb; have HB := Lib.hid hb; clear hb; have hz := HB.out.size)
    go_ret
    exact ⟨rfl, HB.out.alloc (by omega) _⟩
def targetOf (i : Ins) : Int × Bool := if i.1 = 8 then (i.2.1, true) else if i.1 = 9 then (i.2.2.1, true) else (0, false)
theorem target_any (op a b c : Int) (w : World) :
    Calls Tryd.prog 17 #[insV op a b c] w fun e w' => e = .returned (.tuple #[.int .i64 (targetOf (op, a, b, c)).1, .bool (targetOf (op, a, b, c)).2]) ∧ Below w.heap.size w w' := by
  unfold targetOf
  by_cases h8 : op = 8
  · subst h8
    go_enter Tryd.func17, Tryd.ntmps17
    go_wp2
    go_ret2
    exact ⟨rfl, (Below.refl _ _).alloc (Nat.le_refl _) _⟩
  · by_cases h9 : op = 9
    · subst h9
      go_enter Tryd.func17, Tryd.ntmps17
      go_wp2
      go_ret2
      exact ⟨rfl, (Below.refl _ _).alloc (Nat.le_refl _) _⟩
    · rw [if_neg h8, if_neg h9]
      go_enter Tryd.func17, Tryd.ntmps17
      go_wp2
      go_ret2
      exact ⟨rfl, (Below.refl _ _).alloc (Nat.le_refl _) _⟩
theorem ret_insV {v v' : Value} (h : v = v') : Ending.returned v = .returned v' := by rw [h]
def aimOf (i : Ins) (at_ : Int) : Ins := if i.1 = 8 then (i.1, at_, i.2.2.1, i.2.2.2) else if i.1 = 9 then (i.1, i.2.1, at_, i.2.2.2) else i
def insVal (i : Ins) : Value := insV i.1 i.2.1 i.2.2.1 i.2.2.2
theorem aim_any (op a b c at_ : Int) (w : World) :
    Calls Tryd.prog 51 #[insV op a b c, .int .i64 at_] w fun e w' => e = .returned (insVal (aimOf (op, a, b, c) at_)) ∧ Below w.heap.size w w' := by
  unfold aimOf insVal
  by_cases h8 : op = 8
  · subst h8
    go_enter Tryd.func51, Tryd.ntmps51
    go_wp2
    exact bodyPost_ret (v := insV 8 at_ b c) (by simp [results, Tryd.results51, go_sem]) rfl ⟨rfl, ((Below.refl _ _).alloc (Nat.le_refl _) _).alloc (by simp) _⟩
  · by_cases h9 : op = 9
    · subst h9
      go_enter Tryd.func51, Tryd.ntmps51
      go_wp2
      exact bodyPost_ret (v := insV 9 a at_ c) (by simp [results, Tryd.results51, go_sem]) rfl ⟨rfl, ((Below.refl _ _).alloc (Nat.le_refl _) _).alloc (by simp) _⟩
    · rw [if_neg h8, if_neg h9]
      go_enter Tryd.func51, Tryd.ntmps51
      go_wp2
      exact bodyPost_ret (v := insV op a b c) (by simp [results, Tryd.results51, go_sem]) rfl ⟨rfl, ((Below.refl _ _).alloc (Nat.le_refl _) _).alloc (by simp) _⟩
end Go.Proofs.YtcamimfepcoggaaDoor
