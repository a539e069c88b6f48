/- The walk of the law AsmBeside: true of every text, place and note. -/
import Derived.Test.YtcamimfepcoggaaDoorLw5
import Derived.Test.YtcamimfepcoggaaDoorLa7
import Derived.Deep.RegionLaw
import Derived.BigQuiet
namespace Go.Proofs.YtcamimfepcoggaaDoor
open Go.RowKit
theorem no_ten {M : ByteArray} (h : ∀ (j : Nat) (h : j < M.size), M[j] ≠ 10) : ∀ x ∈ M.data.toList, x ≠ (10 : UInt8) := by
  intro x hx
  obtain ⟨j, hj, rfl⟩ := List.getElem_of_mem hx
  have hj' : j < M.size := by simpa using hj
  exact h j hj'
theorem q_len {s : Bs} {q : List Ins} {n er : Int} (h : parseL s = (q, n, er)) : q.length ≤ 512 := by
  unfold parseL at h
  split at h
  · injection h with h _
    rw [← h]; simp
  · cases hr : readL s with
    | wrong m =>
      rw [hr] at h
      injection h with h _
      rw [← h]; simp
    | ok p =>
      obtain ⟨labs, lines⟩ := p
      rw [hr] at h
      injection h with h _
      rw [← h, List.length_map]
      exact readL_length hr
theorem extract_data (S : ByteArray) (a b : Nat) : (S.extract a b).data.toList = (S.data.toList.take b).drop a := by
  rw [ByteArray.data_extract]
  simp [List.drop_take]
theorem beside_data (S M : ByteArray) (k : Nat) :
    parseL ((S.extract 0 k ++ ⟨#[35]⟩ ++ M ++ ⟨#[10, 10]⟩ ++ S.extract k S.size).data.toList) = parseL (S.data.toList.take k ++ (35 :: M.data.toList ++ 10 :: 10 :: S.data.toList.drop k)) := by
  congr 1
  rw [app_data, app_data, app_data, app_data, extract_data, extract_data, List.drop_zero, List.take_of_length_le (show S.data.toList.length ≤ S.size by simp)]
  simp
theorem beside_data0 (S M : ByteArray) :
    parseL (((⟨#[35]⟩ : ByteArray) ++ M ++ ⟨#[10, 10]⟩ ++ S).data.toList) = parseL (S.data.toList.take 0 ++ (35 :: M.data.toList ++ 10 :: 10 :: S.data.toList.drop 0)) := by
  congr 1
  rw [app_data, app_data, app_data, List.take_zero, List.drop_zero]
  simp
theorem extract_le (S : ByteArray) (a b : Nat) (h : S.size ≤ 4000) : (S.extract a b).size ≤ 4000 := by
  rw [ByteArray.size_extract]; omega
theorem ends_ten {S : ByteArray} {k : Nat} (h : k < S.size) (hq : S[k] = 10) : S.data.toList.take (k + 1) = [] ∨ ∃ c, S.data.toList.take (k + 1) = c ++ [10] := by
  right
  have hl : k < S.data.toList.length := by simpa using h
  refine ⟨S.data.toList.take k, ?_⟩
  rw [List.take_succ_eq_append_getElem hl]
  congr 2
set_option maxRecDepth 100000 in
set_option maxHeartbeats 8000000 in
theorem beside_walk (T U : Bs) (m : Int) (m0 : 0 ≤ m) (m1 : m ≤ 65535) (w : World) (hE : Env w) :
    Calls Tryd.prog 5 #[.string ⟨T.toArray⟩, .int .u16 m, .string ⟨U.toArray⟩] w fun e w' => e = .returned (.bool true) ∧ Below w.heap.size w w' := by
  obtain ⟨S, hS⟩ : ∃ S : ByteArray, S = ⟨(T.take 4000).toArray⟩ := ⟨_, rfl⟩
  obtain ⟨M, hM⟩ : ∃ M : ByteArray, M = ⟨(U.take 4000).toArray⟩ := ⟨_, rfl⟩
  have hSl : S.size ≤ 4000 := by rw [hS, mk_size, List.length_take]; omega
  have hMl : M.size ≤ 4000 := by rw [hM, mk_size, List.length_take]; omega
  have hc1 : Calls Tryd.prog 14 #[.string ⟨T.toArray⟩] w fun e w' => e = .returned (.string S) ∧ w = w' := by
    refine (cut_any T w).mono ?_
    rintro e w' ⟨rfl, rfl⟩
    rw [hS]
    exact ⟨rfl, rfl⟩
  have hc2 : Calls Tryd.prog 14 #[.string ⟨U.toArray⟩] w fun e w' => e = .returned (.string M) ∧ w = w' := by
    refine (cut_any U w).mono ?_
    rintro e w' ⟨rfl, rfl⟩
    rw [hM]
    exact ⟨rfl, rfl⟩
  have HE := Lib.hid hE
  clear hE hS hM
  go_enter Tryd.func5, Tryd.ntmps5
  go_wp2_with (go_at_call 14; have hone := hc1; refine hc1.mono ?_; rintro e w1 ⟨rfl, rfl⟩; clear hc1 hone)
  go_wp2_with (go_at_call 14; refine hc2.mono ?_; rintro e w1 ⟨rfl, rfl⟩)
  clear hc2
  go_loopw [7] (fun i wr => ∃ k : Nat, k ≤ M.size ∧ i = .int .i64 k ∧ wr = w ∧ Hid (∀ (j : Nat) (h : j < M.size), j < k → M[j] ≠ 10)) (fun i _ => M.size - (intOf i).toNat)
  case atStart => exact ⟨0, Nat.zero_le _, rfl, rfl, Lib.hid (fun j h h' => absurd h' (by omega))⟩
  case round =>
    obtain ⟨k, hk, rfl, rfl, HX⟩ := hrel
    by_cases hlt : k < M.size
    · have hkI : (k : Int) < (M.size : Int) := by omega
      by_cases hq : M[k] = 10
      · have hb : ((M[k].toNat : Int) == 10) = true := by rw [hq]; rfl
        go_wp2_with (go_at_call 13; refine (awake_any _ HE.out).mono ?_; rintro e w1 ⟨rfl, hb1⟩)
        go_ret
        exact ⟨rfl, hb1⟩
      · have hb : ((M[k].toNat : Int) == 10) = false := by
          rw [beq_eq_false_iff_ne]
          intro e
          exact hq (UInt8.toNat_inj.1 (by show M[k].toNat = 10; omega))
        have HQ := Lib.hid hq
        clear hq
        go_wp2
        go_roundw
        case rel => exact ⟨k + 1, by omega, by go_num, trivial, Lib.hid (fun j h hj => by
            by_cases e : j = k
            · subst e; exact HQ.out
            · exact HX.out j h (by omega))⟩
        case measure => simp [intOf]; omega
    · have hkI : ¬ (k : Int) < (M.size : Int) := by omega
      have HNO : Hid (∀ (j : Nat) (h : j < M.size), M[j] ≠ 10) := Lib.hid (fun j h => HX.out j h (by omega))
      clear HX
      obtain ⟨K0, hK0, hK1⟩ : ∃ K0 : Nat, m % ((S.size : Int) + 1) = (K0 : Int) ∧ K0 ≤ S.size := by
        have h1 := Int.emod_nonneg m (show ((S.size : Int) + 1) ≠ 0 by omega)
        have h2 := Int.emod_lt_of_pos m (show (0 : Int) < (S.size : Int) + 1 by omega)
        exact ⟨(m % ((S.size : Int) + 1)).toNat, by omega, by omega⟩
      have HN : Hid (∀ x ∈ M.data.toList, x ≠ (10 : UInt8)) := Lib.hid (no_ten HNO.out)
      have dlen : ∀ b : ByteArray, b.data.toList.length = b.size := fun b => by simp
      go_wp2
      clear hK0 HNO
      go_loopw [8] (fun i wq => ∃ k : Nat, k ≤ S.size ∧ i = .int .i64 k ∧ wq = wr) (fun i _ => (intOf i).toNat)
      case atStart => exact ⟨K0, hK1, rfl, rfl⟩
      case round =>
        obtain ⟨k, hk, rfl, rfl⟩ := hrel
        rcases k with _ | k
        · have hna : S.data.toList.take 0 = [] ∨ ∃ c, S.data.toList.take 0 = c ++ [10] := .inl rfl
          obtain ⟨q, n, n', er, hp1, hp2, hcase⟩ := parse_beside (S.data.toList.take 0) M.data.toList (S.data.toList.drop 0) hna HN.out (by rw [List.length_take, List.length_drop, dlen]; omega) (by rw [dlen]; omega)
          rw [List.take_append_drop] at hp1
          have hn1 := parse_num hp1
          have hn2 := parse_pos hp1
          rw [dlen] at hn1
          have HP1 := Lib.hid hp1
          have HP2 := Lib.hid hp2
          clear hp1 hp2 hna
          have l1 : (⟨#[35]⟩ : ByteArray).size = 1 := rfl
          have l2 : (⟨#[10, 10]⟩ : ByteArray).size = 2 := rfl
          have hX1 : (S.extract 0 0).size ≤ 4000 := extract_le S _ _ hSl
          have hX2 : (S.extract 0 S.size).size ≤ 4000 := extract_le S _ _ hSl
          have l3 : (⟨#[35]⟩ : ByteArray).size + M.size ≤ 4001 := by rw [l1]; omega
          rcases hcase with ⟨rfl, rfl, rfl⟩ | ⟨rfl, rfl | rfl⟩
          · go_wp2_with (go_at_call 15; have hone := l1; refine (parse_at HP1.out _ HE.out).mono ?_; rintro e w1 ⟨⟨v1, rfl, hv1⟩, hb1⟩; have HB1 := Lib.hid hb1; have HV1 := Lib.hid hv1; clear hb1 hv1 hone)
            have HB2 : Hid (Below wr.heap.size wr w1.drew) := Lib.hid HB1.out.drew
            have HV2 : Hid (InsAt w1.drew v1 q) := Lib.hid HV1.out
            refine wp_region_any (by kernel_rfl) ?_
            change wpAny _ _ _ _ _ _ _ (World.drew _)
            refine wpAny_take (i := 0) (v := ?v0b) rfl (by kernel_rfl) (by kernel_rfl) (by kernel_rfl) (fun _ _ _ h => h) (Or.inl ⟨by kernel_rfl, ?h0b⟩) ?_
            case h0b => (intro w; go_simp; try (first | with_reducible rfl | (rw [if_neg (by omega)]; done) | (rw [if_neg (by omega)]; with_reducible rfl)))
            refine wpAny_take (i := 1) (v := ?v1b) rfl (by kernel_rfl) (by kernel_rfl) (by kernel_rfl) (fun _ _ _ h => h) (Or.inl ⟨by kernel_rfl, ?h1b⟩) ?_
            case h1b => (intro w; go_simp; try (first | with_reducible rfl | (rw [if_neg (by omega)]; done) | (rw [if_neg (by omega)]; with_reducible rfl)))
            refine wpAny_take (i := 2) (v := ?v2b) rfl (by kernel_rfl) (by kernel_rfl) (by kernel_rfl) (fun _ _ _ h => h) (Or.inl ⟨by kernel_rfl, ?h2b⟩) ?_
            case h2b => (intro w; go_simp; try (first | with_reducible rfl | (rw [if_neg (by omega)]; done) | (rw [if_neg (by omega)]; with_reducible rfl)))
            refine wpAny_take (i := 3) (v := ?v3b) rfl (by kernel_rfl) (by kernel_rfl) (by kernel_rfl) (fun _ _ _ h => h) (Or.inl ⟨by kernel_rfl, ?h3b⟩) ?_
            case h3b => (intro w; go_simp; try (first | with_reducible rfl | (rw [if_neg (by omega)]; done) | (rw [if_neg (by omega)]; with_reducible rfl)))
            refine wpAny_take (i := 4) (v := ?v4b) rfl (by kernel_rfl) (by kernel_rfl) (by kernel_rfl) (fun _ _ _ h => h) (Or.inl ⟨by kernel_rfl, ?h4b⟩) ?_
            case h4b => (intro w; go_simp; try (first | with_reducible rfl | (rw [if_neg (by omega)]; done) | (rw [if_neg (by omega)]; with_reducible rfl)))
            refine wpAny_take (i := 5) (v := ?v5b) rfl (by kernel_rfl) (by kernel_rfl) (by kernel_rfl) (fun _ _ _ h => h) (Or.inl ⟨by kernel_rfl, ?h5b⟩) ?_
            case h5b => (intro w; go_simp; try (first | with_reducible rfl | (rw [if_neg (by omega)]; done) | (rw [if_neg (by omega)]; with_reducible rfl)))
            refine wpAny_take (i := 6) (v := ?v6b) rfl (by kernel_rfl) (by kernel_rfl) (by kernel_rfl) (fun _ _ _ h => h) (Or.inl ⟨by kernel_rfl, ?h6b⟩) ?_
            case h6b => (intro w; go_simp; try (first | with_reducible rfl | (rw [if_neg (by omega)]; done) | (rw [if_neg (by omega)]; with_reducible rfl)))
            refine wpAny_take (i := 7) (v := ?v7b) rfl (by kernel_rfl) (by kernel_rfl) (by kernel_rfl) (fun _ _ _ h => h) (Or.inl ⟨by kernel_rfl, ?h7b⟩) ?_
            case h7b => (intro w; go_simp; try (first | with_reducible rfl | (rw [if_neg (by omega)]; done) | (rw [if_neg (by omega)]; with_reducible rfl)))
            refine wpAny_take (i := 8) (v := ?v8b) rfl (by kernel_rfl) (by kernel_rfl) (by kernel_rfl) (fun _ _ _ h => h) (Or.inl ⟨by kernel_rfl, ?h8b⟩) ?_
            case h8b => (intro w; go_simp; try (first | with_reducible rfl | (rw [if_neg (by omega)]; done) | (rw [if_neg (by omega)]; with_reducible rfl)))
            refine wpAny_take (i := 9) (v := ?v9b) rfl (by kernel_rfl) (by kernel_rfl) (by kernel_rfl) (fun _ _ _ h => h) (Or.inl ⟨by kernel_rfl, ?h9b⟩) ?_
            case h9b => (intro w; go_simp; try (first | with_reducible rfl | (rw [if_neg (by omega)]; done) | (rw [if_neg (by omega)]; with_reducible rfl)))
            refine wpAny_take (i := 10) (v := ?v10b) rfl (by kernel_rfl) (by kernel_rfl) (by kernel_rfl) (fun _ _ _ h => h) (Or.inl ⟨by kernel_rfl, ?h10b⟩) ?_
            case h10b => (intro w; go_simp; try (first | with_reducible rfl | (rw [if_neg (by omega)]; done) | (rw [if_neg (by omega)]; with_reducible rfl)))
            refine wpAny_ready (rs := [11]) (by kernel_rfl) (by simp) ?_
            refine AllReady.cons rfl (fun K hK => ?_) AllReady.nil
            go_simp
            refine (parse_at ((beside_data0 S M).trans HP2.out) _ (HE.out.on HB2.out)).mono ?_
            rintro e w3 ⟨⟨v3, rfl, hv3⟩, hb3⟩
            have HB3 := Lib.hid (HB2.out.trans (hb3.mono HB2.out.size))
            have HV3 := Lib.hid (HV2.out.on hb3 (Nat.le_refl _))
            have HU3 := Lib.hid hv3
            have hq5 := q_len HP1.out
            clear hb3 hv3
            refine hK _ _ ?_
            clear hK K
            refine wpAny_take (i := 12) (v := ?v12b) rfl (by kernel_rfl) (by kernel_rfl) (by kernel_rfl) (fun _ _ _ h => h) (Or.inl ⟨by kernel_rfl, ?h12b⟩) ?_
            case h12b => (intro w; go_simp; try (first | with_reducible rfl | (rw [if_neg (by omega)]; done) | (rw [if_neg (by omega)]; with_reducible rfl)))
            refine wpAny_take (i := 13) (v := ?v13b) rfl (by kernel_rfl) (by kernel_rfl) (by kernel_rfl) (fun _ _ _ h => h) (Or.inl ⟨by kernel_rfl, ?h13b⟩) ?_
            case h13b => (intro w; go_simp; try (first | with_reducible rfl | (rw [if_neg (by omega)]; done) | (rw [if_neg (by omega)]; with_reducible rfl)))
            refine wpAny_take (i := 14) (v := ?v14b) rfl (by kernel_rfl) (by kernel_rfl) (by kernel_rfl) (fun _ _ _ h => h) (Or.inl ⟨by kernel_rfl, ?h14b⟩) ?_
            case h14b => (intro w; go_simp; try (first | with_reducible rfl | (rw [if_neg (by omega)]; done) | (rw [if_neg (by omega)]; with_reducible rfl)))
            refine wpAny_take (i := 15) (v := ?v15b) rfl (by kernel_rfl) (by kernel_rfl) (by kernel_rfl) (fun _ _ _ h => h) (Or.inl ⟨by kernel_rfl, ?h15b⟩) ?_
            case h15b => (intro w; go_simp; try (first | with_reducible rfl | (rw [if_neg (by omega)]; done) | (rw [if_neg (by omega)]; with_reducible rfl)))
            refine wpAny_take (i := 16) (v := ?v16b) rfl (by kernel_rfl) (by kernel_rfl) (by kernel_rfl) (fun _ _ _ h => h) (Or.inl ⟨by kernel_rfl, ?h16b⟩) ?_
            case h16b => (intro w; go_simp; try (first | with_reducible rfl | (rw [if_neg (by omega)]; done) | (rw [if_neg (by omega)]; with_reducible rfl)))
            refine wpAny_take (i := 17) (v := ?v17b) rfl (by kernel_rfl) (by kernel_rfl) (by kernel_rfl) (fun _ _ _ h => h) (Or.inl ⟨by kernel_rfl, ?h17b⟩) ?_
            case h17b => (intro w; go_simp; try (first | with_reducible rfl | (rw [if_neg (by omega)]; done) | (rw [if_neg (by omega)]; with_reducible rfl)))
            refine wpAny_take (i := 18) (v := ?v18b) rfl (by kernel_rfl) (by kernel_rfl) (by kernel_rfl) (fun _ _ _ h => h) (Or.inl ⟨by kernel_rfl, ?h18b⟩) ?_
            case h18b => (intro w; go_simp; try (first | with_reducible rfl | (rw [if_neg (by omega)]; done) | (rw [if_neg (by omega)]; with_reducible rfl)))
            refine wpAny_done (by kernel_rfl) ?_ _
            go_wp2_with (go_at_call 16; refine (same_true _ HV3.out HU3.out (by omega)).mono ?_; rintro e w4 ⟨rfl, hb4⟩; have HB4 := Lib.hid (HB3.out.trans (hb4.mono HB3.out.size)); clear hb4)
            go_wp2_with (go_at_call 13; refine (awake_on HE.out HB4.out).mono ?_; rintro e w5 ⟨rfl, hb5⟩; have HB5 := Lib.hid hb5; clear hb5)
            go_ret
            exact ⟨rfl, HB5.out⟩
          · go_wp2_with (go_at_call 15; have hone := l1; refine (parse_at HP1.out _ HE.out).mono ?_; rintro e w1 ⟨⟨v1, rfl, hv1⟩, hb1⟩; have HB1 := Lib.hid hb1; have HV1 := Lib.hid hv1; clear hb1 hv1 hone)
            have HB2 : Hid (Below wr.heap.size wr w1.drew) := Lib.hid HB1.out.drew
            have HV2 : Hid (InsAt w1.drew v1 q) := Lib.hid HV1.out
            refine wp_region_any (by kernel_rfl) ?_
            change wpAny _ _ _ _ _ _ _ (World.drew _)
            refine wpAny_take (i := 0) (v := ?v0c) rfl (by kernel_rfl) (by kernel_rfl) (by kernel_rfl) (fun _ _ _ h => h) (Or.inl ⟨by kernel_rfl, ?h0c⟩) ?_
            case h0c => (intro w; go_simp; try (first | with_reducible rfl | (rw [if_neg (by omega)]; done) | (rw [if_neg (by omega)]; with_reducible rfl)))
            refine wpAny_take (i := 1) (v := ?v1c) rfl (by kernel_rfl) (by kernel_rfl) (by kernel_rfl) (fun _ _ _ h => h) (Or.inl ⟨by kernel_rfl, ?h1c⟩) ?_
            case h1c => (intro w; go_simp; try (first | with_reducible rfl | (rw [if_neg (by omega)]; done) | (rw [if_neg (by omega)]; with_reducible rfl)))
            refine wpAny_take (i := 2) (v := ?v2c) rfl (by kernel_rfl) (by kernel_rfl) (by kernel_rfl) (fun _ _ _ h => h) (Or.inl ⟨by kernel_rfl, ?h2c⟩) ?_
            case h2c => (intro w; go_simp; try (first | with_reducible rfl | (rw [if_neg (by omega)]; done) | (rw [if_neg (by omega)]; with_reducible rfl)))
            refine wpAny_take (i := 3) (v := ?v3c) rfl (by kernel_rfl) (by kernel_rfl) (by kernel_rfl) (fun _ _ _ h => h) (Or.inl ⟨by kernel_rfl, ?h3c⟩) ?_
            case h3c => (intro w; go_simp; try (first | with_reducible rfl | (rw [if_neg (by omega)]; done) | (rw [if_neg (by omega)]; with_reducible rfl)))
            refine wpAny_take (i := 4) (v := ?v4c) rfl (by kernel_rfl) (by kernel_rfl) (by kernel_rfl) (fun _ _ _ h => h) (Or.inl ⟨by kernel_rfl, ?h4c⟩) ?_
            case h4c => (intro w; go_simp; try (first | with_reducible rfl | (rw [if_neg (by omega)]; done) | (rw [if_neg (by omega)]; with_reducible rfl)))
            refine wpAny_take (i := 5) (v := ?v5c) rfl (by kernel_rfl) (by kernel_rfl) (by kernel_rfl) (fun _ _ _ h => h) (Or.inl ⟨by kernel_rfl, ?h5c⟩) ?_
            case h5c => (intro w; go_simp; try (first | with_reducible rfl | (rw [if_neg (by omega)]; done) | (rw [if_neg (by omega)]; with_reducible rfl)))
            refine wpAny_take (i := 6) (v := ?v6c) rfl (by kernel_rfl) (by kernel_rfl) (by kernel_rfl) (fun _ _ _ h => h) (Or.inl ⟨by kernel_rfl, ?h6c⟩) ?_
            case h6c => (intro w; go_simp; try (first | with_reducible rfl | (rw [if_neg (by omega)]; done) | (rw [if_neg (by omega)]; with_reducible rfl)))
            refine wpAny_take (i := 7) (v := ?v7c) rfl (by kernel_rfl) (by kernel_rfl) (by kernel_rfl) (fun _ _ _ h => h) (Or.inl ⟨by kernel_rfl, ?h7c⟩) ?_
            case h7c => (intro w; go_simp; try (first | with_reducible rfl | (rw [if_neg (by omega)]; done) | (rw [if_neg (by omega)]; with_reducible rfl)))
            refine wpAny_take (i := 8) (v := ?v8c) rfl (by kernel_rfl) (by kernel_rfl) (by kernel_rfl) (fun _ _ _ h => h) (Or.inl ⟨by kernel_rfl, ?h8c⟩) ?_
            case h8c => (intro w; go_simp; try (first | with_reducible rfl | (rw [if_neg (by omega)]; done) | (rw [if_neg (by omega)]; with_reducible rfl)))
            refine wpAny_take (i := 9) (v := ?v9c) rfl (by kernel_rfl) (by kernel_rfl) (by kernel_rfl) (fun _ _ _ h => h) (Or.inl ⟨by kernel_rfl, ?h9c⟩) ?_
            case h9c => (intro w; go_simp; try (first | with_reducible rfl | (rw [if_neg (by omega)]; done) | (rw [if_neg (by omega)]; with_reducible rfl)))
            refine wpAny_take (i := 10) (v := ?v10c) rfl (by kernel_rfl) (by kernel_rfl) (by kernel_rfl) (fun _ _ _ h => h) (Or.inl ⟨by kernel_rfl, ?h10c⟩) ?_
            case h10c => (intro w; go_simp; try (first | with_reducible rfl | (rw [if_neg (by omega)]; done) | (rw [if_neg (by omega)]; with_reducible rfl)))
            refine wpAny_ready (rs := [11]) (by kernel_rfl) (by simp) ?_
            refine AllReady.cons rfl (fun K hK => ?_) AllReady.nil
            go_simp
            refine (parse_at ((beside_data0 S M).trans HP2.out) _ (HE.out.on HB2.out)).mono ?_
            rintro e w3 ⟨⟨v3, rfl, hv3⟩, hb3⟩
            have HB3 := Lib.hid (HB2.out.trans (hb3.mono HB2.out.size))
            have HV3 := Lib.hid (HV2.out.on hb3 (Nat.le_refl _))
            have HU3 := Lib.hid hv3
            have hq5 := q_len HP1.out
            clear hb3 hv3
            refine hK _ _ ?_
            clear hK K
            refine wpAny_take (i := 12) (v := ?v12c) rfl (by kernel_rfl) (by kernel_rfl) (by kernel_rfl) (fun _ _ _ h => h) (Or.inl ⟨by kernel_rfl, ?h12c⟩) ?_
            case h12c => (intro w; go_simp; try (first | with_reducible rfl | (rw [if_neg (by omega)]; done) | (rw [if_neg (by omega)]; with_reducible rfl)))
            refine wpAny_take (i := 13) (v := ?v13c) rfl (by kernel_rfl) (by kernel_rfl) (by kernel_rfl) (fun _ _ _ h => h) (Or.inl ⟨by kernel_rfl, ?h13c⟩) ?_
            case h13c => (intro w; go_simp; try (first | with_reducible rfl | (rw [if_neg (by omega)]; done) | (rw [if_neg (by omega)]; with_reducible rfl)))
            refine wpAny_take (i := 14) (v := ?v14c) rfl (by kernel_rfl) (by kernel_rfl) (by kernel_rfl) (fun _ _ _ h => h) (Or.inl ⟨by kernel_rfl, ?h14c⟩) ?_
            case h14c => (intro w; go_simp; try (first | with_reducible rfl | (rw [if_neg (by omega)]; done) | (rw [if_neg (by omega)]; with_reducible rfl)))
            refine wpAny_take (i := 15) (v := ?v15c) rfl (by kernel_rfl) (by kernel_rfl) (by kernel_rfl) (fun _ _ _ h => h) (Or.inl ⟨by kernel_rfl, ?h15c⟩) ?_
            case h15c => (intro w; go_simp; try (first | with_reducible rfl | (rw [if_neg (by omega)]; done) | (rw [if_neg (by omega)]; with_reducible rfl)))
            refine wpAny_take (i := 16) (v := ?v16c) rfl (by kernel_rfl) (by kernel_rfl) (by kernel_rfl) (fun _ _ _ h => h) (Or.inl ⟨by kernel_rfl, ?h16c⟩) ?_
            case h16c => (intro w; go_simp; try (first | with_reducible rfl | (rw [if_neg (by omega)]; done) | (rw [if_neg (by omega)]; with_reducible rfl)))
            refine wpAny_take (i := 17) (v := ?v17c) rfl (by kernel_rfl) (by kernel_rfl) (by kernel_rfl) (fun _ _ _ h => h) (Or.inl ⟨by kernel_rfl, ?h17c⟩) ?_
            case h17c => (intro w; go_simp; try (first | with_reducible rfl | (rw [if_neg (by omega)]; done) | (rw [if_neg (by omega)]; with_reducible rfl)))
            refine wpAny_take (i := 18) (v := ?v18c) rfl (by kernel_rfl) (by kernel_rfl) (by kernel_rfl) (fun _ _ _ h => h) (Or.inl ⟨by kernel_rfl, ?h18c⟩) ?_
            case h18c => (intro w; go_simp; try (first | with_reducible rfl | (rw [if_neg (by omega)]; done) | (rw [if_neg (by omega)]; with_reducible rfl)))
            refine wpAny_done (by kernel_rfl) ?_ _
            go_wp2_with (go_at_call 16; refine (same_true _ HV3.out HU3.out (by omega)).mono ?_; rintro e w4 ⟨rfl, hb4⟩; have HB4 := Lib.hid (HB3.out.trans (hb4.mono HB3.out.size)); clear hb4)
            go_wp2_with (go_at_call 13; refine (awake_on HE.out HB4.out).mono ?_; rintro e w5 ⟨rfl, hb5⟩; have HB5 := Lib.hid hb5; clear hb5)
            go_ret
            exact ⟨rfl, HB5.out⟩
          · go_wp2_with (go_at_call 15; have hone := l1; refine (parse_at HP1.out _ HE.out).mono ?_; rintro e w1 ⟨⟨v1, rfl, hv1⟩, hb1⟩; have HB1 := Lib.hid hb1; have HV1 := Lib.hid hv1; clear hb1 hv1 hone)
            have HB2 : Hid (Below wr.heap.size wr w1.drew) := Lib.hid HB1.out.drew
            have HV2 : Hid (InsAt w1.drew v1 q) := Lib.hid HV1.out
            refine wp_region_any (by kernel_rfl) ?_
            change wpAny _ _ _ _ _ _ _ (World.drew _)
            refine wpAny_take (i := 0) (v := ?v0d) rfl (by kernel_rfl) (by kernel_rfl) (by kernel_rfl) (fun _ _ _ h => h) (Or.inl ⟨by kernel_rfl, ?h0d⟩) ?_
            case h0d => (intro w; go_simp; try (first | with_reducible rfl | (rw [if_neg (by omega)]; done) | (rw [if_neg (by omega)]; with_reducible rfl)))
            refine wpAny_take (i := 1) (v := ?v1d) rfl (by kernel_rfl) (by kernel_rfl) (by kernel_rfl) (fun _ _ _ h => h) (Or.inl ⟨by kernel_rfl, ?h1d⟩) ?_
            case h1d => (intro w; go_simp; try (first | with_reducible rfl | (rw [if_neg (by omega)]; done) | (rw [if_neg (by omega)]; with_reducible rfl)))
            refine wpAny_take (i := 2) (v := ?v2d) rfl (by kernel_rfl) (by kernel_rfl) (by kernel_rfl) (fun _ _ _ h => h) (Or.inl ⟨by kernel_rfl, ?h2d⟩) ?_
            case h2d => (intro w; go_simp; try (first | with_reducible rfl | (rw [if_neg (by omega)]; done) | (rw [if_neg (by omega)]; with_reducible rfl)))
            refine wpAny_take (i := 3) (v := ?v3d) rfl (by kernel_rfl) (by kernel_rfl) (by kernel_rfl) (fun _ _ _ h => h) (Or.inl ⟨by kernel_rfl, ?h3d⟩) ?_
            case h3d => (intro w; go_simp; try (first | with_reducible rfl | (rw [if_neg (by omega)]; done) | (rw [if_neg (by omega)]; with_reducible rfl)))
            refine wpAny_take (i := 4) (v := ?v4d) rfl (by kernel_rfl) (by kernel_rfl) (by kernel_rfl) (fun _ _ _ h => h) (Or.inl ⟨by kernel_rfl, ?h4d⟩) ?_
            case h4d => (intro w; go_simp; try (first | with_reducible rfl | (rw [if_neg (by omega)]; done) | (rw [if_neg (by omega)]; with_reducible rfl)))
            refine wpAny_take (i := 5) (v := ?v5d) rfl (by kernel_rfl) (by kernel_rfl) (by kernel_rfl) (fun _ _ _ h => h) (Or.inl ⟨by kernel_rfl, ?h5d⟩) ?_
            case h5d => (intro w; go_simp; try (first | with_reducible rfl | (rw [if_neg (by omega)]; done) | (rw [if_neg (by omega)]; with_reducible rfl)))
            refine wpAny_take (i := 6) (v := ?v6d) rfl (by kernel_rfl) (by kernel_rfl) (by kernel_rfl) (fun _ _ _ h => h) (Or.inl ⟨by kernel_rfl, ?h6d⟩) ?_
            case h6d => (intro w; go_simp; try (first | with_reducible rfl | (rw [if_neg (by omega)]; done) | (rw [if_neg (by omega)]; with_reducible rfl)))
            refine wpAny_take (i := 7) (v := ?v7d) rfl (by kernel_rfl) (by kernel_rfl) (by kernel_rfl) (fun _ _ _ h => h) (Or.inl ⟨by kernel_rfl, ?h7d⟩) ?_
            case h7d => (intro w; go_simp; try (first | with_reducible rfl | (rw [if_neg (by omega)]; done) | (rw [if_neg (by omega)]; with_reducible rfl)))
            refine wpAny_take (i := 8) (v := ?v8d) rfl (by kernel_rfl) (by kernel_rfl) (by kernel_rfl) (fun _ _ _ h => h) (Or.inl ⟨by kernel_rfl, ?h8d⟩) ?_
            case h8d => (intro w; go_simp; try (first | with_reducible rfl | (rw [if_neg (by omega)]; done) | (rw [if_neg (by omega)]; with_reducible rfl)))
            refine wpAny_take (i := 9) (v := ?v9d) rfl (by kernel_rfl) (by kernel_rfl) (by kernel_rfl) (fun _ _ _ h => h) (Or.inl ⟨by kernel_rfl, ?h9d⟩) ?_
            case h9d => (intro w; go_simp; try (first | with_reducible rfl | (rw [if_neg (by omega)]; done) | (rw [if_neg (by omega)]; with_reducible rfl)))
            refine wpAny_take (i := 10) (v := ?v10d) rfl (by kernel_rfl) (by kernel_rfl) (by kernel_rfl) (fun _ _ _ h => h) (Or.inl ⟨by kernel_rfl, ?h10d⟩) ?_
            case h10d => (intro w; go_simp; try (first | with_reducible rfl | (rw [if_neg (by omega)]; done) | (rw [if_neg (by omega)]; with_reducible rfl)))
            refine wpAny_ready (rs := [11]) (by kernel_rfl) (by simp) ?_
            refine AllReady.cons rfl (fun K hK => ?_) AllReady.nil
            go_simp
            refine (parse_at ((beside_data0 S M).trans HP2.out) _ (HE.out.on HB2.out)).mono ?_
            rintro e w3 ⟨⟨v3, rfl, hv3⟩, hb3⟩
            have HB3 := Lib.hid (HB2.out.trans (hb3.mono HB2.out.size))
            have HV3 := Lib.hid (HV2.out.on hb3 (Nat.le_refl _))
            have HU3 := Lib.hid hv3
            have hq5 := q_len HP1.out
            clear hb3 hv3
            refine hK _ _ ?_
            clear hK K
            refine wpAny_take (i := 12) (v := ?v12d) rfl (by kernel_rfl) (by kernel_rfl) (by kernel_rfl) (fun _ _ _ h => h) (Or.inl ⟨by kernel_rfl, ?h12d⟩) ?_
            case h12d => (intro w; go_simp; try (first | with_reducible rfl | (rw [if_neg (by omega)]; done) | (rw [if_neg (by omega)]; with_reducible rfl)))
            refine wpAny_take (i := 13) (v := ?v13d) rfl (by kernel_rfl) (by kernel_rfl) (by kernel_rfl) (fun _ _ _ h => h) (Or.inl ⟨by kernel_rfl, ?h13d⟩) ?_
            case h13d => (intro w; go_simp; try (first | with_reducible rfl | (rw [if_neg (by omega)]; done) | (rw [if_neg (by omega)]; with_reducible rfl)))
            refine wpAny_take (i := 14) (v := ?v14d) rfl (by kernel_rfl) (by kernel_rfl) (by kernel_rfl) (fun _ _ _ h => h) (Or.inl ⟨by kernel_rfl, ?h14d⟩) ?_
            case h14d => (intro w; go_simp; try (first | with_reducible rfl | (rw [if_neg (by omega)]; done) | (rw [if_neg (by omega)]; with_reducible rfl)))
            refine wpAny_take (i := 15) (v := ?v15d) rfl (by kernel_rfl) (by kernel_rfl) (by kernel_rfl) (fun _ _ _ h => h) (Or.inl ⟨by kernel_rfl, ?h15d⟩) ?_
            case h15d => (intro w; go_simp; try (first | with_reducible rfl | (rw [if_neg (by omega)]; done) | (rw [if_neg (by omega)]; with_reducible rfl)))
            refine wpAny_take (i := 16) (v := ?v16d) rfl (by kernel_rfl) (by kernel_rfl) (by kernel_rfl) (fun _ _ _ h => h) (Or.inl ⟨by kernel_rfl, ?h16d⟩) ?_
            case h16d => (intro w; go_simp; try (first | with_reducible rfl | (rw [if_neg (by omega)]; done) | (rw [if_neg (by omega)]; with_reducible rfl)))
            refine wpAny_take (i := 17) (v := ?v17d) rfl (by kernel_rfl) (by kernel_rfl) (by kernel_rfl) (fun _ _ _ h => h) (Or.inl ⟨by kernel_rfl, ?h17d⟩) ?_
            case h17d => (intro w; go_simp; try (first | with_reducible rfl | (rw [if_neg (by omega)]; done) | (rw [if_neg (by omega)]; with_reducible rfl)))
            refine wpAny_take (i := 18) (v := ?v18d) rfl (by kernel_rfl) (by kernel_rfl) (by kernel_rfl) (fun _ _ _ h => h) (Or.inl ⟨by kernel_rfl, ?h18d⟩) ?_
            case h18d => (intro w; go_simp; try (first | with_reducible rfl | (rw [if_neg (by omega)]; done) | (rw [if_neg (by omega)]; with_reducible rfl)))
            refine wpAny_done (by kernel_rfl) ?_ _
            go_wp2_with (go_at_call 16; refine (same_true _ HV3.out HU3.out (by omega)).mono ?_; rintro e w4 ⟨rfl, hb4⟩; have HB4 := Lib.hid (HB3.out.trans (hb4.mono HB3.out.size)); clear hb4)
            go_wp2_with (go_at_call 13; refine (awake_on HE.out HB4.out).mono ?_; rintro e w5 ⟨rfl, hb5⟩; have HB5 := Lib.hid hb5; clear hb5)
            go_ret
            exact ⟨rfl, HB5.out⟩
        · have hkI : (0 : Int) < (k : Int) + 1 := by omega
          have hk1 : k < S.size := by omega
          have hk2 : (k : Int) < (S.size : Int) := by omega
          have hk3 : (k : Int) + 1 ≤ (S.size : Int) := by omega
          have hk4 : (0 : Int) ≤ (k : Int) + 1 := by omega
          by_cases hq : S[k] = 10
          · have hb : ((S[k].toNat : Int) == 10) = true := by rw [hq]; rfl
            have hna : S.data.toList.take (k + 1) = [] ∨ ∃ c, S.data.toList.take (k + 1) = c ++ [10] := ends_ten hk1 hq
            obtain ⟨q, n, n', er, hp1, hp2, hcase⟩ := parse_beside (S.data.toList.take (k + 1)) M.data.toList (S.data.toList.drop (k + 1)) hna HN.out (by rw [List.length_take, List.length_drop, dlen]; omega) (by rw [dlen]; omega)
            rw [List.take_append_drop] at hp1
            have hn1 := parse_num hp1
            have hn2 := parse_pos hp1
            rw [dlen] at hn1
            have HP1 := Lib.hid hp1
            have HP2 := Lib.hid hp2
            clear hp1 hp2 hna
            have l1 : (⟨#[35]⟩ : ByteArray).size = 1 := rfl
            have l2 : (⟨#[10, 10]⟩ : ByteArray).size = 2 := rfl
            have hX1 : (S.extract 0 (k + 1)).size ≤ 4000 := extract_le S _ _ hSl
            have hX2 : (S.extract (k + 1) S.size).size ≤ 4000 := extract_le S _ _ hSl
            have l3 : (⟨#[35]⟩ : ByteArray).size + M.size ≤ 4001 := by rw [l1]; omega
            rcases hcase with ⟨rfl, rfl, rfl⟩ | ⟨rfl, rfl | rfl⟩
            · go_wp2_with (go_at_call 15; have hone := l1; refine (parse_at HP1.out _ HE.out).mono ?_; rintro e w1 ⟨⟨v1, rfl, hv1⟩, hb1⟩; have HB1 := Lib.hid hb1; have HV1 := Lib.hid hv1; clear hb1 hv1 hone)
              have HB2 : Hid (Below wr.heap.size wr w1.drew) := Lib.hid HB1.out.drew
              have HV2 : Hid (InsAt w1.drew v1 q) := Lib.hid HV1.out
              refine wp_region_any (by kernel_rfl) ?_
              change wpAny _ _ _ _ _ _ _ (World.drew _)
              refine wpAny_take (i := 0) (v := ?v0e) rfl (by kernel_rfl) (by kernel_rfl) (by kernel_rfl) (fun _ _ _ h => h) (Or.inl ⟨by kernel_rfl, ?h0e⟩) ?_
              case h0e => (intro w; go_simp; try (first | with_reducible rfl | (rw [if_neg (by omega)]; done) | (rw [if_neg (by omega)]; with_reducible rfl)))
              refine wpAny_take (i := 1) (v := ?v1e) rfl (by kernel_rfl) (by kernel_rfl) (by kernel_rfl) (fun _ _ _ h => h) (Or.inl ⟨by kernel_rfl, ?h1e⟩) ?_
              case h1e => (intro w; go_simp; try (first | with_reducible rfl | (rw [if_neg (by omega)]; done) | (rw [if_neg (by omega)]; with_reducible rfl)))
              refine wpAny_take (i := 2) (v := ?v2e) rfl (by kernel_rfl) (by kernel_rfl) (by kernel_rfl) (fun _ _ _ h => h) (Or.inl ⟨by kernel_rfl, ?h2e⟩) ?_
              case h2e => (intro w; go_simp; try (first | with_reducible rfl | (rw [if_neg (by omega)]; done) | (rw [if_neg (by omega)]; with_reducible rfl)))
              refine wpAny_take (i := 3) (v := ?v3e) rfl (by kernel_rfl) (by kernel_rfl) (by kernel_rfl) (fun _ _ _ h => h) (Or.inl ⟨by kernel_rfl, ?h3e⟩) ?_
              case h3e => (intro w; go_simp; try (first | with_reducible rfl | (rw [if_neg (by omega)]; done) | (rw [if_neg (by omega)]; with_reducible rfl)))
              refine wpAny_take (i := 4) (v := ?v4e) rfl (by kernel_rfl) (by kernel_rfl) (by kernel_rfl) (fun _ _ _ h => h) (Or.inl ⟨by kernel_rfl, ?h4e⟩) ?_
              case h4e => (intro w; go_simp; try (first | with_reducible rfl | (rw [if_neg (by omega)]; done) | (rw [if_neg (by omega)]; with_reducible rfl)))
              refine wpAny_take (i := 5) (v := ?v5e) rfl (by kernel_rfl) (by kernel_rfl) (by kernel_rfl) (fun _ _ _ h => h) (Or.inl ⟨by kernel_rfl, ?h5e⟩) ?_
              case h5e => (intro w; go_simp; try (first | with_reducible rfl | (rw [if_neg (by omega)]; done) | (rw [if_neg (by omega)]; with_reducible rfl)))
              refine wpAny_take (i := 6) (v := ?v6e) rfl (by kernel_rfl) (by kernel_rfl) (by kernel_rfl) (fun _ _ _ h => h) (Or.inl ⟨by kernel_rfl, ?h6e⟩) ?_
              case h6e => (intro w; go_simp; try (first | with_reducible rfl | (rw [if_neg (by omega)]; done) | (rw [if_neg (by omega)]; with_reducible rfl)))
              refine wpAny_take (i := 7) (v := ?v7e) rfl (by kernel_rfl) (by kernel_rfl) (by kernel_rfl) (fun _ _ _ h => h) (Or.inl ⟨by kernel_rfl, ?h7e⟩) ?_
              case h7e => (intro w; go_simp; try (first | with_reducible rfl | (rw [if_neg (by omega)]; done) | (rw [if_neg (by omega)]; with_reducible rfl)))
              refine wpAny_take (i := 8) (v := ?v8e) rfl (by kernel_rfl) (by kernel_rfl) (by kernel_rfl) (fun _ _ _ h => h) (Or.inl ⟨by kernel_rfl, ?h8e⟩) ?_
              case h8e => (intro w; go_simp; try (first | with_reducible rfl | (rw [if_neg (by omega)]; done) | (rw [if_neg (by omega)]; with_reducible rfl)))
              refine wpAny_take (i := 9) (v := ?v9e) rfl (by kernel_rfl) (by kernel_rfl) (by kernel_rfl) (fun _ _ _ h => h) (Or.inl ⟨by kernel_rfl, ?h9e⟩) ?_
              case h9e => (intro w; go_simp; try (first | with_reducible rfl | (rw [if_neg (by omega)]; done) | (rw [if_neg (by omega)]; with_reducible rfl)))
              refine wpAny_take (i := 10) (v := ?v10e) rfl (by kernel_rfl) (by kernel_rfl) (by kernel_rfl) (fun _ _ _ h => h) (Or.inl ⟨by kernel_rfl, ?h10e⟩) ?_
              case h10e => (intro w; go_simp; try (first | with_reducible rfl | (rw [if_neg (by omega)]; done) | (rw [if_neg (by omega)]; with_reducible rfl)))
              refine wpAny_ready (rs := [11]) (by kernel_rfl) (by simp) ?_
              refine AllReady.cons rfl (fun K hK => ?_) AllReady.nil
              go_simp
              refine (parse_at ((beside_data S M (k + 1)).trans HP2.out) _ (HE.out.on HB2.out)).mono ?_
              rintro e w3 ⟨⟨v3, rfl, hv3⟩, hb3⟩
              have HB3 := Lib.hid (HB2.out.trans (hb3.mono HB2.out.size))
              have HV3 := Lib.hid (HV2.out.on hb3 (Nat.le_refl _))
              have HU3 := Lib.hid hv3
              have hq5 := q_len HP1.out
              clear hb3 hv3
              refine hK _ _ ?_
              clear hK K
              refine wpAny_take (i := 12) (v := ?v12e) rfl (by kernel_rfl) (by kernel_rfl) (by kernel_rfl) (fun _ _ _ h => h) (Or.inl ⟨by kernel_rfl, ?h12e⟩) ?_
              case h12e => (intro w; go_simp; try (first | with_reducible rfl | (rw [if_neg (by omega)]; done) | (rw [if_neg (by omega)]; with_reducible rfl)))
              refine wpAny_take (i := 13) (v := ?v13e) rfl (by kernel_rfl) (by kernel_rfl) (by kernel_rfl) (fun _ _ _ h => h) (Or.inl ⟨by kernel_rfl, ?h13e⟩) ?_
              case h13e => (intro w; go_simp; try (first | with_reducible rfl | (rw [if_neg (by omega)]; done) | (rw [if_neg (by omega)]; with_reducible rfl)))
              refine wpAny_take (i := 14) (v := ?v14e) rfl (by kernel_rfl) (by kernel_rfl) (by kernel_rfl) (fun _ _ _ h => h) (Or.inl ⟨by kernel_rfl, ?h14e⟩) ?_
              case h14e => (intro w; go_simp; try (first | with_reducible rfl | (rw [if_neg (by omega)]; done) | (rw [if_neg (by omega)]; with_reducible rfl)))
              refine wpAny_take (i := 15) (v := ?v15e) rfl (by kernel_rfl) (by kernel_rfl) (by kernel_rfl) (fun _ _ _ h => h) (Or.inl ⟨by kernel_rfl, ?h15e⟩) ?_
              case h15e => (intro w; go_simp; try (first | with_reducible rfl | (rw [if_neg (by omega)]; done) | (rw [if_neg (by omega)]; with_reducible rfl)))
              refine wpAny_take (i := 16) (v := ?v16e) rfl (by kernel_rfl) (by kernel_rfl) (by kernel_rfl) (fun _ _ _ h => h) (Or.inl ⟨by kernel_rfl, ?h16e⟩) ?_
              case h16e => (intro w; go_simp; try (first | with_reducible rfl | (rw [if_neg (by omega)]; done) | (rw [if_neg (by omega)]; with_reducible rfl)))
              refine wpAny_take (i := 17) (v := ?v17e) rfl (by kernel_rfl) (by kernel_rfl) (by kernel_rfl) (fun _ _ _ h => h) (Or.inl ⟨by kernel_rfl, ?h17e⟩) ?_
              case h17e => (intro w; go_simp; try (first | with_reducible rfl | (rw [if_neg (by omega)]; done) | (rw [if_neg (by omega)]; with_reducible rfl)))
              refine wpAny_take (i := 18) (v := ?v18e) rfl (by kernel_rfl) (by kernel_rfl) (by kernel_rfl) (fun _ _ _ h => h) (Or.inl ⟨by kernel_rfl, ?h18e⟩) ?_
              case h18e => (intro w; go_simp; try (first | with_reducible rfl | (rw [if_neg (by omega)]; done) | (rw [if_neg (by omega)]; with_reducible rfl)))
              refine wpAny_done (by kernel_rfl) ?_ _
              go_wp2_with (go_at_call 16; refine (same_true _ HV3.out HU3.out (by omega)).mono ?_; rintro e w4 ⟨rfl, hb4⟩; have HB4 := Lib.hid (HB3.out.trans (hb4.mono HB3.out.size)); clear hb4)
              go_wp2_with (go_at_call 13; refine (awake_on HE.out HB4.out).mono ?_; rintro e w5 ⟨rfl, hb5⟩; have HB5 := Lib.hid hb5; clear hb5)
              go_ret
              exact ⟨rfl, HB5.out⟩
            · go_wp2_with (go_at_call 15; have hone := l1; refine (parse_at HP1.out _ HE.out).mono ?_; rintro e w1 ⟨⟨v1, rfl, hv1⟩, hb1⟩; have HB1 := Lib.hid hb1; have HV1 := Lib.hid hv1; clear hb1 hv1 hone)
              have HB2 : Hid (Below wr.heap.size wr w1.drew) := Lib.hid HB1.out.drew
              have HV2 : Hid (InsAt w1.drew v1 q) := Lib.hid HV1.out
              refine wp_region_any (by kernel_rfl) ?_
              change wpAny _ _ _ _ _ _ _ (World.drew _)
              refine wpAny_take (i := 0) (v := ?v0f) rfl (by kernel_rfl) (by kernel_rfl) (by kernel_rfl) (fun _ _ _ h => h) (Or.inl ⟨by kernel_rfl, ?h0f⟩) ?_
              case h0f => (intro w; go_simp; try (first | with_reducible rfl | (rw [if_neg (by omega)]; done) | (rw [if_neg (by omega)]; with_reducible rfl)))
              refine wpAny_take (i := 1) (v := ?v1f) rfl (by kernel_rfl) (by kernel_rfl) (by kernel_rfl) (fun _ _ _ h => h) (Or.inl ⟨by kernel_rfl, ?h1f⟩) ?_
              case h1f => (intro w; go_simp; try (first | with_reducible rfl | (rw [if_neg (by omega)]; done) | (rw [if_neg (by omega)]; with_reducible rfl)))
              refine wpAny_take (i := 2) (v := ?v2f) rfl (by kernel_rfl) (by kernel_rfl) (by kernel_rfl) (fun _ _ _ h => h) (Or.inl ⟨by kernel_rfl, ?h2f⟩) ?_
              case h2f => (intro w; go_simp; try (first | with_reducible rfl | (rw [if_neg (by omega)]; done) | (rw [if_neg (by omega)]; with_reducible rfl)))
              refine wpAny_take (i := 3) (v := ?v3f) rfl (by kernel_rfl) (by kernel_rfl) (by kernel_rfl) (fun _ _ _ h => h) (Or.inl ⟨by kernel_rfl, ?h3f⟩) ?_
              case h3f => (intro w; go_simp; try (first | with_reducible rfl | (rw [if_neg (by omega)]; done) | (rw [if_neg (by omega)]; with_reducible rfl)))
              refine wpAny_take (i := 4) (v := ?v4f) rfl (by kernel_rfl) (by kernel_rfl) (by kernel_rfl) (fun _ _ _ h => h) (Or.inl ⟨by kernel_rfl, ?h4f⟩) ?_
              case h4f => (intro w; go_simp; try (first | with_reducible rfl | (rw [if_neg (by omega)]; done) | (rw [if_neg (by omega)]; with_reducible rfl)))
              refine wpAny_take (i := 5) (v := ?v5f) rfl (by kernel_rfl) (by kernel_rfl) (by kernel_rfl) (fun _ _ _ h => h) (Or.inl ⟨by kernel_rfl, ?h5f⟩) ?_
              case h5f => (intro w; go_simp; try (first | with_reducible rfl | (rw [if_neg (by omega)]; done) | (rw [if_neg (by omega)]; with_reducible rfl)))
              refine wpAny_take (i := 6) (v := ?v6f) rfl (by kernel_rfl) (by kernel_rfl) (by kernel_rfl) (fun _ _ _ h => h) (Or.inl ⟨by kernel_rfl, ?h6f⟩) ?_
              case h6f => (intro w; go_simp; try (first | with_reducible rfl | (rw [if_neg (by omega)]; done) | (rw [if_neg (by omega)]; with_reducible rfl)))
              refine wpAny_take (i := 7) (v := ?v7f) rfl (by kernel_rfl) (by kernel_rfl) (by kernel_rfl) (fun _ _ _ h => h) (Or.inl ⟨by kernel_rfl, ?h7f⟩) ?_
              case h7f => (intro w; go_simp; try (first | with_reducible rfl | (rw [if_neg (by omega)]; done) | (rw [if_neg (by omega)]; with_reducible rfl)))
              refine wpAny_take (i := 8) (v := ?v8f) rfl (by kernel_rfl) (by kernel_rfl) (by kernel_rfl) (fun _ _ _ h => h) (Or.inl ⟨by kernel_rfl, ?h8f⟩) ?_
              case h8f => (intro w; go_simp; try (first | with_reducible rfl | (rw [if_neg (by omega)]; done) | (rw [if_neg (by omega)]; with_reducible rfl)))
              refine wpAny_take (i := 9) (v := ?v9f) rfl (by kernel_rfl) (by kernel_rfl) (by kernel_rfl) (fun _ _ _ h => h) (Or.inl ⟨by kernel_rfl, ?h9f⟩) ?_
              case h9f => (intro w; go_simp; try (first | with_reducible rfl | (rw [if_neg (by omega)]; done) | (rw [if_neg (by omega)]; with_reducible rfl)))
              refine wpAny_take (i := 10) (v := ?v10f) rfl (by kernel_rfl) (by kernel_rfl) (by kernel_rfl) (fun _ _ _ h => h) (Or.inl ⟨by kernel_rfl, ?h10f⟩) ?_
              case h10f => (intro w; go_simp; try (first | with_reducible rfl | (rw [if_neg (by omega)]; done) | (rw [if_neg (by omega)]; with_reducible rfl)))
              refine wpAny_ready (rs := [11]) (by kernel_rfl) (by simp) ?_
              refine AllReady.cons rfl (fun K hK => ?_) AllReady.nil
              go_simp
              refine (parse_at ((beside_data S M (k + 1)).trans HP2.out) _ (HE.out.on HB2.out)).mono ?_
              rintro e w3 ⟨⟨v3, rfl, hv3⟩, hb3⟩
              have HB3 := Lib.hid (HB2.out.trans (hb3.mono HB2.out.size))
              have HV3 := Lib.hid (HV2.out.on hb3 (Nat.le_refl _))
              have HU3 := Lib.hid hv3
              have hq5 := q_len HP1.out
              clear hb3 hv3
              refine hK _ _ ?_
              clear hK K
              refine wpAny_take (i := 12) (v := ?v12f) rfl (by kernel_rfl) (by kernel_rfl) (by kernel_rfl) (fun _ _ _ h => h) (Or.inl ⟨by kernel_rfl, ?h12f⟩) ?_
              case h12f => (intro w; go_simp; try (first | with_reducible rfl | (rw [if_neg (by omega)]; done) | (rw [if_neg (by omega)]; with_reducible rfl)))
              refine wpAny_take (i := 13) (v := ?v13f) rfl (by kernel_rfl) (by kernel_rfl) (by kernel_rfl) (fun _ _ _ h => h) (Or.inl ⟨by kernel_rfl, ?h13f⟩) ?_
              case h13f => (intro w; go_simp; try (first | with_reducible rfl | (rw [if_neg (by omega)]; done) | (rw [if_neg (by omega)]; with_reducible rfl)))
              refine wpAny_take (i := 14) (v := ?v14f) rfl (by kernel_rfl) (by kernel_rfl) (by kernel_rfl) (fun _ _ _ h => h) (Or.inl ⟨by kernel_rfl, ?h14f⟩) ?_
              case h14f => (intro w; go_simp; try (first | with_reducible rfl | (rw [if_neg (by omega)]; done) | (rw [if_neg (by omega)]; with_reducible rfl)))
              refine wpAny_take (i := 15) (v := ?v15f) rfl (by kernel_rfl) (by kernel_rfl) (by kernel_rfl) (fun _ _ _ h => h) (Or.inl ⟨by kernel_rfl, ?h15f⟩) ?_
              case h15f => (intro w; go_simp; try (first | with_reducible rfl | (rw [if_neg (by omega)]; done) | (rw [if_neg (by omega)]; with_reducible rfl)))
              refine wpAny_take (i := 16) (v := ?v16f) rfl (by kernel_rfl) (by kernel_rfl) (by kernel_rfl) (fun _ _ _ h => h) (Or.inl ⟨by kernel_rfl, ?h16f⟩) ?_
              case h16f => (intro w; go_simp; try (first | with_reducible rfl | (rw [if_neg (by omega)]; done) | (rw [if_neg (by omega)]; with_reducible rfl)))
              refine wpAny_take (i := 17) (v := ?v17f) rfl (by kernel_rfl) (by kernel_rfl) (by kernel_rfl) (fun _ _ _ h => h) (Or.inl ⟨by kernel_rfl, ?h17f⟩) ?_
              case h17f => (intro w; go_simp; try (first | with_reducible rfl | (rw [if_neg (by omega)]; done) | (rw [if_neg (by omega)]; with_reducible rfl)))
              refine wpAny_take (i := 18) (v := ?v18f) rfl (by kernel_rfl) (by kernel_rfl) (by kernel_rfl) (fun _ _ _ h => h) (Or.inl ⟨by kernel_rfl, ?h18f⟩) ?_
              case h18f => (intro w; go_simp; try (first | with_reducible rfl | (rw [if_neg (by omega)]; done) | (rw [if_neg (by omega)]; with_reducible rfl)))
              refine wpAny_done (by kernel_rfl) ?_ _
              go_wp2_with (go_at_call 16; refine (same_true _ HV3.out HU3.out (by omega)).mono ?_; rintro e w4 ⟨rfl, hb4⟩; have HB4 := Lib.hid (HB3.out.trans (hb4.mono HB3.out.size)); clear hb4)
              go_wp2_with (go_at_call 13; refine (awake_on HE.out HB4.out).mono ?_; rintro e w5 ⟨rfl, hb5⟩; have HB5 := Lib.hid hb5; clear hb5)
              go_ret
              exact ⟨rfl, HB5.out⟩
            · go_wp2_with (go_at_call 15; have hone := l1; refine (parse_at HP1.out _ HE.out).mono ?_; rintro e w1 ⟨⟨v1, rfl, hv1⟩, hb1⟩; have HB1 := Lib.hid hb1; have HV1 := Lib.hid hv1; clear hb1 hv1 hone)
              have HB2 : Hid (Below wr.heap.size wr w1.drew) := Lib.hid HB1.out.drew
              have HV2 : Hid (InsAt w1.drew v1 q) := Lib.hid HV1.out
              refine wp_region_any (by kernel_rfl) ?_
              change wpAny _ _ _ _ _ _ _ (World.drew _)
              refine wpAny_take (i := 0) (v := ?v0g) rfl (by kernel_rfl) (by kernel_rfl) (by kernel_rfl) (fun _ _ _ h => h) (Or.inl ⟨by kernel_rfl, ?h0g⟩) ?_
              case h0g => (intro w; go_simp; try (first | with_reducible rfl | (rw [if_neg (by omega)]; done) | (rw [if_neg (by omega)]; with_reducible rfl)))
              refine wpAny_take (i := 1) (v := ?v1g) rfl (by kernel_rfl) (by kernel_rfl) (by kernel_rfl) (fun _ _ _ h => h) (Or.inl ⟨by kernel_rfl, ?h1g⟩) ?_
              case h1g => (intro w; go_simp; try (first | with_reducible rfl | (rw [if_neg (by omega)]; done) | (rw [if_neg (by omega)]; with_reducible rfl)))
              refine wpAny_take (i := 2) (v := ?v2g) rfl (by kernel_rfl) (by kernel_rfl) (by kernel_rfl) (fun _ _ _ h => h) (Or.inl ⟨by kernel_rfl, ?h2g⟩) ?_
              case h2g => (intro w; go_simp; try (first | with_reducible rfl | (rw [if_neg (by omega)]; done) | (rw [if_neg (by omega)]; with_reducible rfl)))
              refine wpAny_take (i := 3) (v := ?v3g) rfl (by kernel_rfl) (by kernel_rfl) (by kernel_rfl) (fun _ _ _ h => h) (Or.inl ⟨by kernel_rfl, ?h3g⟩) ?_
              case h3g => (intro w; go_simp; try (first | with_reducible rfl | (rw [if_neg (by omega)]; done) | (rw [if_neg (by omega)]; with_reducible rfl)))
              refine wpAny_take (i := 4) (v := ?v4g) rfl (by kernel_rfl) (by kernel_rfl) (by kernel_rfl) (fun _ _ _ h => h) (Or.inl ⟨by kernel_rfl, ?h4g⟩) ?_
              case h4g => (intro w; go_simp; try (first | with_reducible rfl | (rw [if_neg (by omega)]; done) | (rw [if_neg (by omega)]; with_reducible rfl)))
              refine wpAny_take (i := 5) (v := ?v5g) rfl (by kernel_rfl) (by kernel_rfl) (by kernel_rfl) (fun _ _ _ h => h) (Or.inl ⟨by kernel_rfl, ?h5g⟩) ?_
              case h5g => (intro w; go_simp; try (first | with_reducible rfl | (rw [if_neg (by omega)]; done) | (rw [if_neg (by omega)]; with_reducible rfl)))
              refine wpAny_take (i := 6) (v := ?v6g) rfl (by kernel_rfl) (by kernel_rfl) (by kernel_rfl) (fun _ _ _ h => h) (Or.inl ⟨by kernel_rfl, ?h6g⟩) ?_
              case h6g => (intro w; go_simp; try (first | with_reducible rfl | (rw [if_neg (by omega)]; done) | (rw [if_neg (by omega)]; with_reducible rfl)))
              refine wpAny_take (i := 7) (v := ?v7g) rfl (by kernel_rfl) (by kernel_rfl) (by kernel_rfl) (fun _ _ _ h => h) (Or.inl ⟨by kernel_rfl, ?h7g⟩) ?_
              case h7g => (intro w; go_simp; try (first | with_reducible rfl | (rw [if_neg (by omega)]; done) | (rw [if_neg (by omega)]; with_reducible rfl)))
              refine wpAny_take (i := 8) (v := ?v8g) rfl (by kernel_rfl) (by kernel_rfl) (by kernel_rfl) (fun _ _ _ h => h) (Or.inl ⟨by kernel_rfl, ?h8g⟩) ?_
              case h8g => (intro w; go_simp; try (first | with_reducible rfl | (rw [if_neg (by omega)]; done) | (rw [if_neg (by omega)]; with_reducible rfl)))
              refine wpAny_take (i := 9) (v := ?v9g) rfl (by kernel_rfl) (by kernel_rfl) (by kernel_rfl) (fun _ _ _ h => h) (Or.inl ⟨by kernel_rfl, ?h9g⟩) ?_
              case h9g => (intro w; go_simp; try (first | with_reducible rfl | (rw [if_neg (by omega)]; done) | (rw [if_neg (by omega)]; with_reducible rfl)))
              refine wpAny_take (i := 10) (v := ?v10g) rfl (by kernel_rfl) (by kernel_rfl) (by kernel_rfl) (fun _ _ _ h => h) (Or.inl ⟨by kernel_rfl, ?h10g⟩) ?_
              case h10g => (intro w; go_simp; try (first | with_reducible rfl | (rw [if_neg (by omega)]; done) | (rw [if_neg (by omega)]; with_reducible rfl)))
              refine wpAny_ready (rs := [11]) (by kernel_rfl) (by simp) ?_
              refine AllReady.cons rfl (fun K hK => ?_) AllReady.nil
              go_simp
              refine (parse_at ((beside_data S M (k + 1)).trans HP2.out) _ (HE.out.on HB2.out)).mono ?_
              rintro e w3 ⟨⟨v3, rfl, hv3⟩, hb3⟩
              have HB3 := Lib.hid (HB2.out.trans (hb3.mono HB2.out.size))
              have HV3 := Lib.hid (HV2.out.on hb3 (Nat.le_refl _))
              have HU3 := Lib.hid hv3
              have hq5 := q_len HP1.out
              clear hb3 hv3
              refine hK _ _ ?_
              clear hK K
              refine wpAny_take (i := 12) (v := ?v12g) rfl (by kernel_rfl) (by kernel_rfl) (by kernel_rfl) (fun _ _ _ h => h) (Or.inl ⟨by kernel_rfl, ?h12g⟩) ?_
              case h12g => (intro w; go_simp; try (first | with_reducible rfl | (rw [if_neg (by omega)]; done) | (rw [if_neg (by omega)]; with_reducible rfl)))
              refine wpAny_take (i := 13) (v := ?v13g) rfl (by kernel_rfl) (by kernel_rfl) (by kernel_rfl) (fun _ _ _ h => h) (Or.inl ⟨by kernel_rfl, ?h13g⟩) ?_
              case h13g => (intro w; go_simp; try (first | with_reducible rfl | (rw [if_neg (by omega)]; done) | (rw [if_neg (by omega)]; with_reducible rfl)))
              refine wpAny_take (i := 14) (v := ?v14g) rfl (by kernel_rfl) (by kernel_rfl) (by kernel_rfl) (fun _ _ _ h => h) (Or.inl ⟨by kernel_rfl, ?h14g⟩) ?_
              case h14g => (intro w; go_simp; try (first | with_reducible rfl | (rw [if_neg (by omega)]; done) | (rw [if_neg (by omega)]; with_reducible rfl)))
              refine wpAny_take (i := 15) (v := ?v15g) rfl (by kernel_rfl) (by kernel_rfl) (by kernel_rfl) (fun _ _ _ h => h) (Or.inl ⟨by kernel_rfl, ?h15g⟩) ?_
              case h15g => (intro w; go_simp; try (first | with_reducible rfl | (rw [if_neg (by omega)]; done) | (rw [if_neg (by omega)]; with_reducible rfl)))
              refine wpAny_take (i := 16) (v := ?v16g) rfl (by kernel_rfl) (by kernel_rfl) (by kernel_rfl) (fun _ _ _ h => h) (Or.inl ⟨by kernel_rfl, ?h16g⟩) ?_
              case h16g => (intro w; go_simp; try (first | with_reducible rfl | (rw [if_neg (by omega)]; done) | (rw [if_neg (by omega)]; with_reducible rfl)))
              refine wpAny_take (i := 17) (v := ?v17g) rfl (by kernel_rfl) (by kernel_rfl) (by kernel_rfl) (fun _ _ _ h => h) (Or.inl ⟨by kernel_rfl, ?h17g⟩) ?_
              case h17g => (intro w; go_simp; try (first | with_reducible rfl | (rw [if_neg (by omega)]; done) | (rw [if_neg (by omega)]; with_reducible rfl)))
              refine wpAny_take (i := 18) (v := ?v18g) rfl (by kernel_rfl) (by kernel_rfl) (by kernel_rfl) (fun _ _ _ h => h) (Or.inl ⟨by kernel_rfl, ?h18g⟩) ?_
              case h18g => (intro w; go_simp; try (first | with_reducible rfl | (rw [if_neg (by omega)]; done) | (rw [if_neg (by omega)]; with_reducible rfl)))
              refine wpAny_done (by kernel_rfl) ?_ _
              go_wp2_with (go_at_call 16; refine (same_true _ HV3.out HU3.out (by omega)).mono ?_; rintro e w4 ⟨rfl, hb4⟩; have HB4 := Lib.hid (HB3.out.trans (hb4.mono HB3.out.size)); clear hb4)
              go_wp2_with (go_at_call 13; refine (awake_on HE.out HB4.out).mono ?_; rintro e w5 ⟨rfl, hb5⟩; have HB5 := Lib.hid hb5; clear hb5)
              go_ret
              exact ⟨rfl, HB5.out⟩
          · have hb : ((S[k].toNat : Int) == 10) = false := by
              rw [beq_eq_false_iff_ne]
              intro e
              exact hq (UInt8.toNat_inj.1 (by show S[k].toNat = 10; omega))
            go_wp2
            go_roundw
            case rel => exact ⟨k, by omega, by go_num, trivial⟩
            case measure => simp [intOf]
end Go.Proofs.YtcamimfepcoggaaDoor
