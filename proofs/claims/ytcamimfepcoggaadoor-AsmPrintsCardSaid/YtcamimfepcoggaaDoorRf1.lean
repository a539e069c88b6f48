/- The walks of the reference's functions on one instruction: Target, Has, fits, Is, Names, Name. -/
import Derived.Test.YtcamimfepcoggaaDoorPr1
namespace Go.Proofs.YtcamimfepcoggaaDoor
open Go.RowKit
theorem rtarget_any (op a b c : Int) (w : World) :
    Calls Tryd.prog 22 #[insV op a b c] w fun e w' => e = .returned (.tuple #[.int .i64 (targetOf (op, a, b, c)).1, .bool (targetOf (op, a, b, c)).2]) ∧ Below w.heap.size w w' := by
  unfold targetOf
  by_cases h8 : op = 8
  · subst h8
    go_enter Tryd.func22, Tryd.ntmps22
    go_wp2
    go_ret2
    exact ⟨rfl, (Below.refl _ _).alloc (Nat.le_refl _) _⟩
  · by_cases h9 : op = 9
    · subst h9
      go_enter Tryd.func22, Tryd.ntmps22
      go_wp2
      go_ret2
      exact ⟨rfl, (Below.refl _ _).alloc (Nat.le_refl _) _⟩
    · rw [if_neg h8, if_neg h9]
      go_enter Tryd.func22, Tryd.ntmps22
      go_wp2
      go_ret2
      exact ⟨rfl, (Below.refl _ _).alloc (Nat.le_refl _) _⟩
theorem rtgt_eq {op a b c tv : Int} {tb : Bool} (h : targetOf (op, a, b, c) = (tv, tb)) (w : World) :
    Calls Tryd.prog 22 #[insV op a b c] w fun e w' => e = .returned (.tuple #[.int .i64 tv, .bool tb]) ∧ Below w.heap.size w w' := by
  refine (rtarget_any op a b c w).mono ?_
  rintro e w' ⟨rfl, hb⟩
  refine ⟨?_, hb⟩
  rw [h]
def hasV (op : Int) : Value := .agg #[.int .i64 (formOf op).2.1, .int .i64 (formOf op).2.2.1, .int .i64 (formOf op).2.2.2]
theorem rhas_1 (w : World) : Calls Tryd.prog 29 #[.int .i64 1] w fun e w' => e = .returned (.tuple #[hasV 1, .bool true]) ∧ Below w.heap.size w w' := by
  go_enter Tryd.func29, Tryd.ntmps29
  go_wp2
  exact bodyPost_ret (v := .tuple #[.agg #[.int .i64 1, .int .i64 2, .int .i64 0], .bool true]) (by simp [results, Tryd.results29, go_sem]) rfl ⟨rfl, (Below.refl _ _).alloc (Nat.le_refl _) _⟩
theorem rhas_2 (w : World) : Calls Tryd.prog 29 #[.int .i64 2] w fun e w' => e = .returned (.tuple #[hasV 2, .bool true]) ∧ Below w.heap.size w w' := by
  go_enter Tryd.func29, Tryd.ntmps29
  go_wp2
  exact bodyPost_ret (v := .tuple #[.agg #[.int .i64 1, .int .i64 0, .int .i64 0], .bool true]) (by simp [results, Tryd.results29, go_sem]) rfl ⟨rfl, (Below.refl _ _).alloc (Nat.le_refl _) _⟩
theorem rhas_3 (w : World) : Calls Tryd.prog 29 #[.int .i64 3] w fun e w' => e = .returned (.tuple #[hasV 3, .bool true]) ∧ Below w.heap.size w w' := by
  go_enter Tryd.func29, Tryd.ntmps29
  go_wp2
  exact bodyPost_ret (v := .tuple #[.agg #[.int .i64 1, .int .i64 1, .int .i64 0], .bool true]) (by simp [results, Tryd.results29, go_sem]) rfl ⟨rfl, (Below.refl _ _).alloc (Nat.le_refl _) _⟩
theorem rhas_4 (w : World) : Calls Tryd.prog 29 #[.int .i64 4] w fun e w' => e = .returned (.tuple #[hasV 4, .bool true]) ∧ Below w.heap.size w w' := by
  go_enter Tryd.func29, Tryd.ntmps29
  go_wp2
  exact bodyPost_ret (v := .tuple #[.agg #[.int .i64 1, .int .i64 1, .int .i64 1], .bool true]) (by simp [results, Tryd.results29, go_sem]) rfl ⟨rfl, (Below.refl _ _).alloc (Nat.le_refl _) _⟩
theorem rhas_5 (w : World) : Calls Tryd.prog 29 #[.int .i64 5] w fun e w' => e = .returned (.tuple #[hasV 5, .bool true]) ∧ Below w.heap.size w w' := by
  go_enter Tryd.func29, Tryd.ntmps29
  go_wp2
  exact bodyPost_ret (v := .tuple #[.agg #[.int .i64 1, .int .i64 1, .int .i64 1], .bool true]) (by simp [results, Tryd.results29, go_sem]) rfl ⟨rfl, (Below.refl _ _).alloc (Nat.le_refl _) _⟩
theorem rhas_6 (w : World) : Calls Tryd.prog 29 #[.int .i64 6] w fun e w' => e = .returned (.tuple #[hasV 6, .bool true]) ∧ Below w.heap.size w w' := by
  go_enter Tryd.func29, Tryd.ntmps29
  go_wp2
  exact bodyPost_ret (v := .tuple #[.agg #[.int .i64 1, .int .i64 1, .int .i64 1], .bool true]) (by simp [results, Tryd.results29, go_sem]) rfl ⟨rfl, (Below.refl _ _).alloc (Nat.le_refl _) _⟩
theorem rhas_7 (w : World) : Calls Tryd.prog 29 #[.int .i64 7] w fun e w' => e = .returned (.tuple #[hasV 7, .bool true]) ∧ Below w.heap.size w w' := by
  go_enter Tryd.func29, Tryd.ntmps29
  go_wp2
  exact bodyPost_ret (v := .tuple #[.agg #[.int .i64 1, .int .i64 1, .int .i64 1], .bool true]) (by simp [results, Tryd.results29, go_sem]) rfl ⟨rfl, (Below.refl _ _).alloc (Nat.le_refl _) _⟩
theorem rhas_8 (w : World) : Calls Tryd.prog 29 #[.int .i64 8] w fun e w' => e = .returned (.tuple #[hasV 8, .bool true]) ∧ Below w.heap.size w w' := by
  go_enter Tryd.func29, Tryd.ntmps29
  go_wp2
  exact bodyPost_ret (v := .tuple #[.agg #[.int .i64 3, .int .i64 0, .int .i64 0], .bool true]) (by simp [results, Tryd.results29, go_sem]) rfl ⟨rfl, (Below.refl _ _).alloc (Nat.le_refl _) _⟩
theorem rhas_9 (w : World) : Calls Tryd.prog 29 #[.int .i64 9] w fun e w' => e = .returned (.tuple #[hasV 9, .bool true]) ∧ Below w.heap.size w w' := by
  go_enter Tryd.func29, Tryd.ntmps29
  go_wp2
  exact bodyPost_ret (v := .tuple #[.agg #[.int .i64 1, .int .i64 3, .int .i64 0], .bool true]) (by simp [results, Tryd.results29, go_sem]) rfl ⟨rfl, (Below.refl _ _).alloc (Nat.le_refl _) _⟩
theorem rhas_10 (w : World) : Calls Tryd.prog 29 #[.int .i64 10] w fun e w' => e = .returned (.tuple #[hasV 10, .bool true]) ∧ Below w.heap.size w w' := by
  go_enter Tryd.func29, Tryd.ntmps29
  go_wp2
  exact bodyPost_ret (v := .tuple #[.agg #[.int .i64 1, .int .i64 0, .int .i64 0], .bool true]) (by simp [results, Tryd.results29, go_sem]) rfl ⟨rfl, (Below.refl _ _).alloc (Nat.le_refl _) _⟩
theorem rhas_11 (w : World) : Calls Tryd.prog 29 #[.int .i64 11] w fun e w' => e = .returned (.tuple #[hasV 11, .bool true]) ∧ Below w.heap.size w w' := by
  go_enter Tryd.func29, Tryd.ntmps29
  go_wp2
  exact bodyPost_ret (v := .tuple #[.agg #[.int .i64 1, .int .i64 5, .int .i64 6], .bool true]) (by simp [results, Tryd.results29, go_sem]) rfl ⟨rfl, (Below.refl _ _).alloc (Nat.le_refl _) _⟩
theorem rhas_12 (w : World) : Calls Tryd.prog 29 #[.int .i64 12] w fun e w' => e = .returned (.tuple #[hasV 12, .bool true]) ∧ Below w.heap.size w w' := by
  go_enter Tryd.func29, Tryd.ntmps29
  go_wp2
  exact bodyPost_ret (v := .tuple #[.agg #[.int .i64 1, .int .i64 0, .int .i64 0], .bool true]) (by simp [results, Tryd.results29, go_sem]) rfl ⟨rfl, (Below.refl _ _).alloc (Nat.le_refl _) _⟩
theorem rhas_13 (w : World) : Calls Tryd.prog 29 #[.int .i64 13] w fun e w' => e = .returned (.tuple #[hasV 13, .bool true]) ∧ Below w.heap.size w w' := by
  go_enter Tryd.func29, Tryd.ntmps29
  go_wp2
  exact bodyPost_ret (v := .tuple #[.agg #[.int .i64 1, .int .i64 1, .int .i64 4], .bool true]) (by simp [results, Tryd.results29, go_sem]) rfl ⟨rfl, (Below.refl _ _).alloc (Nat.le_refl _) _⟩
theorem rhas_14 (w : World) : Calls Tryd.prog 29 #[.int .i64 14] w fun e w' => e = .returned (.tuple #[hasV 14, .bool true]) ∧ Below w.heap.size w w' := by
  go_enter Tryd.func29, Tryd.ntmps29
  go_wp2
  exact bodyPost_ret (v := .tuple #[.agg #[.int .i64 1, .int .i64 4, .int .i64 1], .bool true]) (by simp [results, Tryd.results29, go_sem]) rfl ⟨rfl, (Below.refl _ _).alloc (Nat.le_refl _) _⟩
theorem rhas_15 (w : World) : Calls Tryd.prog 29 #[.int .i64 15] w fun e w' => e = .returned (.tuple #[hasV 15, .bool true]) ∧ Below w.heap.size w w' := by
  go_enter Tryd.func29, Tryd.ntmps29
  go_wp2
  exact bodyPost_ret (v := .tuple #[.agg #[.int .i64 0, .int .i64 0, .int .i64 0], .bool true]) (by simp [results, Tryd.results29, go_sem]) rfl ⟨rfl, (Below.refl _ _).alloc (Nat.le_refl _) _⟩
theorem rhas_16 (w : World) : Calls Tryd.prog 29 #[.int .i64 16] w fun e w' => e = .returned (.tuple #[hasV 16, .bool true]) ∧ Below w.heap.size w w' := by
  go_enter Tryd.func29, Tryd.ntmps29
  go_wp2
  exact bodyPost_ret (v := .tuple #[.agg #[.int .i64 0, .int .i64 0, .int .i64 0], .bool true]) (by simp [results, Tryd.results29, go_sem]) rfl ⟨rfl, (Below.refl _ _).alloc (Nat.le_refl _) _⟩
theorem rhas_17 (w : World) : Calls Tryd.prog 29 #[.int .i64 17] w fun e w' => e = .returned (.tuple #[hasV 17, .bool true]) ∧ Below w.heap.size w w' := by
  go_enter Tryd.func29, Tryd.ntmps29
  go_wp2
  exact bodyPost_ret (v := .tuple #[.agg #[.int .i64 0, .int .i64 0, .int .i64 0], .bool true]) (by simp [results, Tryd.results29, go_sem]) rfl ⟨rfl, (Below.refl _ _).alloc (Nat.le_refl _) _⟩
theorem rhas_18 (w : World) : Calls Tryd.prog 29 #[.int .i64 18] w fun e w' => e = .returned (.tuple #[hasV 18, .bool true]) ∧ Below w.heap.size w w' := by
  go_enter Tryd.func29, Tryd.ntmps29
  go_wp2
  exact bodyPost_ret (v := .tuple #[.agg #[.int .i64 0, .int .i64 0, .int .i64 0], .bool true]) (by simp [results, Tryd.results29, go_sem]) rfl ⟨rfl, (Below.refl _ _).alloc (Nat.le_refl _) _⟩
theorem rhas_19 (w : World) : Calls Tryd.prog 29 #[.int .i64 19] w fun e w' => e = .returned (.tuple #[hasV 19, .bool true]) ∧ Below w.heap.size w w' := by
  go_enter Tryd.func29, Tryd.ntmps29
  go_wp2
  exact bodyPost_ret (v := .tuple #[.agg #[.int .i64 1, .int .i64 0, .int .i64 0], .bool true]) (by simp [results, Tryd.results29, go_sem]) rfl ⟨rfl, (Below.refl _ _).alloc (Nat.le_refl _) _⟩
theorem rhas_20 (w : World) : Calls Tryd.prog 29 #[.int .i64 20] w fun e w' => e = .returned (.tuple #[hasV 20, .bool true]) ∧ Below w.heap.size w w' := by
  go_enter Tryd.func29, Tryd.ntmps29
  go_wp2
  exact bodyPost_ret (v := .tuple #[.agg #[.int .i64 0, .int .i64 0, .int .i64 0], .bool true]) (by simp [results, Tryd.results29, go_sem]) rfl ⟨rfl, (Below.refl _ _).alloc (Nat.le_refl _) _⟩
theorem rhas_no (op : Int) (h : op < 1 ∨ 20 < op) (w : World) : Calls Tryd.prog 29 #[.int .i64 op] w fun e w' => e = .returned (.tuple #[.agg #[.int .i64 0, .int .i64 0, .int .i64 0], .bool false]) ∧ Below w.heap.size w w' := by
  have h1 : ¬ op = 1 := by omega
  have h2 : ¬ op = 2 := by omega
  have h3 : ¬ op = 3 := by omega
  have h4 : ¬ op = 4 := by omega
  have h5 : ¬ op = 5 := by omega
  have h6 : ¬ op = 6 := by omega
  have h7 : ¬ op = 7 := by omega
  have h8 : ¬ op = 8 := by omega
  have h9 : ¬ op = 9 := by omega
  have h10 : ¬ op = 10 := by omega
  have h11 : ¬ op = 11 := by omega
  have h12 : ¬ op = 12 := by omega
  have h13 : ¬ op = 13 := by omega
  have h14 : ¬ op = 14 := by omega
  have h15 : ¬ op = 15 := by omega
  have h16 : ¬ op = 16 := by omega
  have h17 : ¬ op = 17 := by omega
  have h18 : ¬ op = 18 := by omega
  have h19 : ¬ op = 19 := by omega
  have h20 : ¬ op = 20 := by omega
  clear h
  go_enter Tryd.func29, Tryd.ntmps29
  go_wp2
  exact bodyPost_ret (v := .tuple #[.agg #[.int .i64 0, .int .i64 0, .int .i64 0], .bool false]) (by simp [results, Tryd.results29, go_sem]) rfl ⟨rfl, (Below.refl _ _).alloc (Nat.le_refl _) _⟩
theorem rhas_any (op : Int) (w : World) : Calls Tryd.prog 29 #[.int .i64 op] w fun e w' => e = .returned (.tuple #[hasV op, .bool (isOp op)]) ∧ Below w.heap.size w w' := by
  by_cases h : op < 1 ∨ 20 < op
  · have h1 : hasV op = .agg #[.int .i64 0, .int .i64 0, .int .i64 0] := by
      unfold hasV formOf
      rw [if_neg (by omega)]
    have h2 : isOp op = false := by simp [isOp]; omega
    rw [h1, h2]
    exact rhas_no op h w
  · obtain ⟨n, rfl⟩ := Int.eq_ofNat_of_zero_le (show 0 ≤ op by omega)
    have : n = 1 ∨ n = 2 ∨ n = 3 ∨ n = 4 ∨ n = 5 ∨ n = 6 ∨ n = 7 ∨ n = 8 ∨ n = 9 ∨ n = 10 ∨ n = 11 ∨ n = 12 ∨ n = 13 ∨ n = 14 ∨ n = 15 ∨ n = 16 ∨ n = 17 ∨ n = 18 ∨ n = 19 ∨ n = 20 := by omega
    rcases this with rfl | rfl | rfl | rfl | rfl | rfl | rfl | rfl | rfl | rfl | rfl | rfl | rfl | rfl | rfl | rfl | rfl | rfl | rfl | rfl
    · exact rhas_1 w
    · exact rhas_2 w
    · exact rhas_3 w
    · exact rhas_4 w
    · exact rhas_5 w
    · exact rhas_6 w
    · exact rhas_7 w
    · exact rhas_8 w
    · exact rhas_9 w
    · exact rhas_10 w
    · exact rhas_11 w
    · exact rhas_12 w
    · exact rhas_13 w
    · exact rhas_14 w
    · exact rhas_15 w
    · exact rhas_16 w
    · exact rhas_17 w
    · exact rhas_18 w
    · exact rhas_19 w
    · exact rhas_20 w
theorem shl_small (f : Int) (h1 : 1 ≤ f) (h2 : f ≤ 16) : wrap64 ((2 : Int) ^ f.toNat) = (2 : Int) ^ f.toNat := by
  obtain ⟨n, rfl⟩ := Int.eq_ofNat_of_zero_le (show 0 ≤ f by omega)
  have : n = 1 ∨ n = 2 ∨ n = 3 ∨ n = 4 ∨ n = 5 ∨ n = 6 ∨ n = 7 ∨ n = 8 ∨ n = 9 ∨ n = 10 ∨ n = 11 ∨ n = 12 ∨ n = 13 ∨ n = 14 ∨ n = 15 ∨ n = 16 := by omega
  rcases this with rfl | rfl | rfl | rfl | rfl | rfl | rfl | rfl | rfl | rfl | rfl | rfl | rfl | rfl | rfl | rfl <;> decide +kernel
theorem rfits_1 (n f : Int) (w : World) :
    Calls Tryd.prog 37 #[.int .i64 1, .int .i64 n, .int .i64 f] w fun e w' => e = .returned (.bool (fitsB 1 n f)) ∧ w' = w := by
  have hf : fitsB 1 n f = (decide (0 ≤ n) && decide (n < 8)) := by
    show (decide (0 ≤ n) && decide (n ≤ 7)) = _
    rw [show decide (n ≤ 7) = decide (n < 8) from decide_eq_decide.2 (by omega)]
  rw [hf]
  clear hf
  by_cases h : 0 ≤ n
  · by_cases h' : n < 8
    · rw [decide_eq_true h, decide_eq_true h']
      go_enter Tryd.func37, Tryd.ntmps37
      go_wp2
      go_ret
      exact ⟨rfl, rfl⟩
    · rw [decide_eq_true h, decide_eq_false h']
      go_enter Tryd.func37, Tryd.ntmps37
      go_wp2
      go_ret
      exact ⟨rfl, rfl⟩
  · rw [decide_eq_false h]
    go_enter Tryd.func37, Tryd.ntmps37
    go_wp2
    go_ret
    exact ⟨rfl, rfl⟩
theorem rfits_2 (n f : Int) (w : World) :
    Calls Tryd.prog 37 #[.int .i64 2, .int .i64 n, .int .i64 f] w fun e w' => e = .returned (.bool (fitsB 2 n f)) ∧ w' = w := by
  have hf : fitsB 2 n f = (decide (-1099511627776 ≤ n) && decide (n ≤ 1099511627776)) := by
    simp [fitsB, withinB]
  rw [hf]
  clear hf
  by_cases h : -1099511627776 ≤ n
  · by_cases h' : n ≤ 1099511627776
    · rw [decide_eq_true h, decide_eq_true h']
      go_enter Tryd.func37, Tryd.ntmps37
      go_wp2
      go_ret
      exact ⟨rfl, rfl⟩
    · rw [decide_eq_true h, decide_eq_false h']
      go_enter Tryd.func37, Tryd.ntmps37
      go_wp2
      go_ret
      exact ⟨rfl, rfl⟩
  · rw [decide_eq_false h]
    go_enter Tryd.func37, Tryd.ntmps37
    go_wp2
    go_ret
    exact ⟨rfl, rfl⟩
theorem rfits_3 (n f : Int) (w : World) :
    Calls Tryd.prog 37 #[.int .i64 3, .int .i64 n, .int .i64 f] w fun e w' => e = .returned (.bool (fitsB 3 n f)) ∧ w' = w := by
  have hf : fitsB 3 n f = (decide (0 ≤ n) && decide (n ≤ 512)) := by
    simp [fitsB, withinB]
  rw [hf]
  clear hf
  by_cases h : 0 ≤ n
  · by_cases h' : n ≤ 512
    · rw [decide_eq_true h, decide_eq_true h']
      go_enter Tryd.func37, Tryd.ntmps37
      go_wp2
      go_ret
      exact ⟨rfl, rfl⟩
    · rw [decide_eq_true h, decide_eq_false h']
      go_enter Tryd.func37, Tryd.ntmps37
      go_wp2
      go_ret
      exact ⟨rfl, rfl⟩
  · rw [decide_eq_false h]
    go_enter Tryd.func37, Tryd.ntmps37
    go_wp2
    go_ret
    exact ⟨rfl, rfl⟩
theorem rfits_4 (n f : Int) (w : World) :
    Calls Tryd.prog 37 #[.int .i64 4, .int .i64 n, .int .i64 f] w fun e w' => e = .returned (.bool (fitsB 4 n f)) ∧ w' = w := by
  have hf : fitsB 4 n f = (decide (0 ≤ n) && decide (n < 16)) := by
    show (decide (0 ≤ n) && decide (n ≤ 15)) = _
    rw [show decide (n ≤ 15) = decide (n < 16) from decide_eq_decide.2 (by omega)]
  rw [hf]
  clear hf
  by_cases h : 0 ≤ n
  · by_cases h' : n < 16
    · rw [decide_eq_true h, decide_eq_true h']
      go_enter Tryd.func37, Tryd.ntmps37
      go_wp2
      go_ret
      exact ⟨rfl, rfl⟩
    · rw [decide_eq_true h, decide_eq_false h']
      go_enter Tryd.func37, Tryd.ntmps37
      go_wp2
      go_ret
      exact ⟨rfl, rfl⟩
  · rw [decide_eq_false h]
    go_enter Tryd.func37, Tryd.ntmps37
    go_wp2
    go_ret
    exact ⟨rfl, rfl⟩
theorem rfits_5 (n f : Int) (w : World) :
    Calls Tryd.prog 37 #[.int .i64 5, .int .i64 n, .int .i64 f] w fun e w' => e = .returned (.bool (fitsB 5 n f)) ∧ w' = w := by
  have hf : fitsB 5 n f = (decide (1 ≤ n) && decide (n ≤ 16)) := by
    simp [fitsB, withinB]
  rw [hf]
  clear hf
  by_cases h : 1 ≤ n
  · by_cases h' : n ≤ 16
    · rw [decide_eq_true h, decide_eq_true h']
      go_enter Tryd.func37, Tryd.ntmps37
      go_wp2
      go_ret
      exact ⟨rfl, rfl⟩
    · rw [decide_eq_true h, decide_eq_false h']
      go_enter Tryd.func37, Tryd.ntmps37
      go_wp2
      go_ret
      exact ⟨rfl, rfl⟩
  · rw [decide_eq_false h]
    go_enter Tryd.func37, Tryd.ntmps37
    go_wp2
    go_ret
    exact ⟨rfl, rfl⟩
theorem rfits_0 (n f : Int) (w : World) :
    Calls Tryd.prog 37 #[.int .i64 0, .int .i64 n, .int .i64 f] w fun e w' => e = .returned (.bool (fitsB 0 n f)) ∧ w' = w := by
  go_enter Tryd.func37, Tryd.ntmps37
  go_wp2
  go_ret
  exact ⟨rfl, rfl⟩
theorem rfits_6 (n f : Int) (w : World) :
    Calls Tryd.prog 37 #[.int .i64 6, .int .i64 n, .int .i64 f] w fun e w' => e = .returned (.bool (fitsB 6 n f)) ∧ w' = w := by
  by_cases h1 : 1 ≤ f
  · by_cases h2 : f ≤ 16
    · by_cases h3 : 0 ≤ n
      · have HM := Lib.hid (shl_small f h1 h2)
        go_enter Tryd.func37, Tryd.ntmps37
        go_wp2
        go_ret
        exact ⟨ret_bool (by rw [HM.out]; simp only [fitsB, withinB]; rw [decide_eq_true h1, decide_eq_true h2, decide_eq_true h3]; simp; omega), rfl⟩
      · go_enter Tryd.func37, Tryd.ntmps37
        go_wp2
        go_ret
        exact ⟨ret_bool (by simp only [fitsB, withinB]; rw [decide_eq_false (show ¬ 0 ≤ n by omega)]; simp), rfl⟩
    · go_enter Tryd.func37, Tryd.ntmps37
      go_wp2
      go_ret
      exact ⟨ret_bool (by simp only [fitsB, withinB]; rw [decide_eq_false (show ¬ f ≤ 16 by omega)]; simp), rfl⟩
  · go_enter Tryd.func37, Tryd.ntmps37
    go_wp2
    go_ret
    exact ⟨ret_bool (by simp only [fitsB, withinB]; rw [decide_eq_false (show ¬ 1 ≤ f by omega)]; simp), rfl⟩
theorem rfits_any (s n f : Int) (hs : 0 ≤ s ∧ s ≤ 6) (w : World) :
    Calls Tryd.prog 37 #[.int .i64 s, .int .i64 n, .int .i64 f] w fun e w' => e = .returned (.bool (fitsB s n f)) ∧ w' = w := by
  have : s = 0 ∨ s = 1 ∨ s = 2 ∨ s = 3 ∨ s = 4 ∨ s = 5 ∨ s = 6 := by omega
  rcases this with rfl | rfl | rfl | rfl | rfl | rfl | rfl
  · exact rfits_0 n f w
  · exact rfits_1 n f w
  · exact rfits_2 n f w
  · exact rfits_3 n f w
  · exact rfits_4 n f w
  · exact rfits_5 n f w
  · exact rfits_6 n f w
theorem form_sorts_fin : ∀ k : Fin 21, 0 ≤ (formOf (k.val : Int)).2.1 ∧ (formOf (k.val : Int)).2.1 ≤ 6 ∧ 0 ≤ (formOf (k.val : Int)).2.2.1 ∧ (formOf (k.val : Int)).2.2.1 ≤ 6 ∧ 0 ≤ (formOf (k.val : Int)).2.2.2 ∧ (formOf (k.val : Int)).2.2.2 ≤ 6 := by decide +kernel
theorem form_sorts (op : Int) : (0 ≤ (formOf op).2.1 ∧ (formOf op).2.1 ≤ 6) ∧ (0 ≤ (formOf op).2.2.1 ∧ (formOf op).2.2.1 ≤ 6) ∧ (0 ≤ (formOf op).2.2.2 ∧ (formOf op).2.2.2 ≤ 6) := by
  by_cases h : 1 ≤ op ∧ op ≤ 20
  · have hk := form_sorts_fin ⟨op.toNat, by omega⟩
    have e : ((op.toNat : Nat) : Int) = op := by omega
    dsimp only at hk
    rw [e] at hk
    obtain ⟨a, b, c, d, e, f⟩ := hk
    exact ⟨⟨a, b⟩, ⟨c, d⟩, e, f⟩
  · unfold formOf
    rw [if_neg h]
    exact ⟨⟨by decide, by decide⟩, ⟨by decide, by decide⟩, by decide, by decide⟩
end Go.Proofs.YtcamimfepcoggaaDoor
