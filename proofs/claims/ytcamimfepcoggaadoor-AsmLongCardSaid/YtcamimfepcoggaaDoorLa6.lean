/- The walk of the law AsmLong: true of every text. -/
import Derived.Test.YtcamimfepcoggaaDoorLa7
import Derived.Laws.BytesArg
namespace Go.Proofs.YtcamimfepcoggaaDoor
open Go.RowKit
theorem lines_nl : ∀ n : Nat, linesOf (List.replicate n 10) = (List.replicate n [], [])
  | 0 => rfl
  | n + 1 => by
    rw [List.replicate_succ, List.replicate_succ]
    unfold linesOf
    rw [if_pos rfl, lines_nl n]
theorem pass1_nl : ∀ (n : Nat) (m : Int) (st : List (Bs × Int) × List Ln), ∃ k, pass1 (List.replicate n []) [] m st = .ok (k, st)
  | 0, m, st => ⟨m, rfl⟩
  | n + 1, m, st => by
    obtain ⟨k, h⟩ := pass1_nl n (m + 1) st
    refine ⟨k, ?_⟩
    rw [List.replicate_succ]
    unfold pass1
    exact h
theorem parse_nl (n : Nat) (h : n ≤ 262144) : parseL (List.replicate n 10) = ([], 0, 0) := by
  unfold parseL
  rw [if_neg (by rw [List.length_replicate]; omega)]
  unfold readL
  rw [lines_nl]
  dsimp only
  obtain ⟨k, hk⟩ := pass1_nl n 0 ([], [])
  rw [hk]
  rfl
theorem parse_over (T : Bs) (h : 262144 < T.length) : parseL T = ([], 0, 2) := by
  unfold parseL
  rw [if_pos h]
theorem InsAt.nil {w : World} {v : Value} (h : InsAt w v []) : ∃ ao cap, v = .slice ao 0 cap := by
  obtain ⟨ao, cap, rfl, _⟩ := h
  exact ⟨ao, cap, rfl⟩
theorem parse_none {s : ByteArray} {n er : Int} (h : parseL s.data.toList = ([], n, er)) (w : World) (hE : Env w) :
    Calls Tryd.prog 15 #[.string s] w fun e w' => (∃ ao cap, e = .returned (.tuple #[.slice ao 0 cap, .int .i64 n, .int .i64 er])) ∧ Below w.heap.size w w' := by
  refine (parse_at h w hE).mono ?_
  rintro e w' ⟨⟨v, rfl, hv⟩, hb⟩
  obtain ⟨ao, cap, rfl⟩ := hv.nil
  exact ⟨⟨ao, cap, rfl⟩, hb⟩
theorem strOf_ten (N : Nat) : strOfNums (List.replicate N 10) = ⟨(List.replicate N (10 : UInt8)).toArray⟩ := by
  unfold strOfNums
  rw [List.map_replicate]
  rfl
set_option maxRecDepth 100000 in
set_option maxHeartbeats 8000000 in
theorem long_walk (T : Bs) (m : Int) (w : World) (hE : Env w) :
    Calls Tryd.prog 6 #[.string ⟨T.toArray⟩, .int .u8 m] w fun e w' => e = .returned (.bool true) ∧ Below w.heap.size w w' := by
  obtain ⟨i0, hi, hz0, hz1, hz2⟩ := info_parts inf5
  obtain ⟨N, hN⟩ : ∃ N : Nat, N = 262144 := ⟨_, rfl⟩
  obtain ⟨S, hS⟩ : ∃ S : Bs, S = T.take 4000 := ⟨_, rfl⟩
  have hSl : S.length ≤ 4000 := by rw [hS, List.length_take]; omega
  have HN := Lib.hid hN
  have HS := Lib.hid hS
  have HE := Lib.hid hE
  have hNI : (262144 : Int) = (N : Int) := by omega
  have HNI := Lib.hid hNI
  clear hE hN hS hNI
  go_enter Tryd.func6, Tryd.ntmps6
  have hcut : Calls Tryd.prog 14 #[.string ⟨T.toArray⟩] w fun e w' => e = .returned (.string ⟨S.toArray⟩) ∧ w = w' := by
    refine (cut_any T w).mono ?_
    rintro e w' ⟨rfl, rfl⟩
    rw [HS.out]
    exact ⟨rfl, rfl⟩
  go_wp2_with (first
    | (go_at_call 14; refine hcut.mono ?_; rintro e w1 ⟨rfl, rfl⟩)
    | (at_make; refine wpList_make_full _ rfl _ _ 43 rfl w.heap.size 5 i0 (.int .u8 0) 1 Tryd.underlying43 hi hz0 hz1 .i64 .i64 _ _ N rfl rfl HNI.out HNI.out (by rw [hz2]; have := HN.out; omega) (by unfold maxLen; have := HN.out; omega) (Nat.le_refl _) ?_; intro w0 hown0 hgrow0))
  have hb0 : Below w.heap.size w w0 := (Below.refl _ _).grown hgrow0 (Nat.le_refl _) (fun k h => by cases h)
  have HO0 := Lib.hid hown0
  have HB0 := Lib.hid hb0
  clear hown0 hgrow0 hb0 hcut
  go_loopw [6] (fun i wr => ∃ k : Nat, k ≤ N ∧ i = .int .i64 k ∧ Below w.heap.size w wr ∧ ∃ xs, wr.ownsRow w.heap.size 5 1 (.slice (some ⟨w.heap.size, 0, none⟩) N N) N xs ∧ Hid (∀ j : Nat, j < k → xs[j]? = some (.int .u8 10))) (fun i _ => N - (intOf i).toNat)
  case atStart => exact ⟨0, Nat.zero_le _, rfl, HB0.out, _, HO0.out, Lib.hid (fun j h => absurd h (by omega))⟩
  case round =>
    obtain ⟨k, hk, rfl, hb, xs, ho, HX⟩ := hrel
    have HB := Lib.hid hb
    have HO := Lib.hid ho
    clear hb ho
    by_cases hlt : k < N
    · have hlen : xs.length = N := by have := HO.out.1; omega
      obtain ⟨u, hu⟩ : ∃ u, xs[k]? = some u := ⟨_, List.getElem?_eq_getElem (show k < xs.length by omega)⟩
      have d0 : wr.cell? ⟨w.heap.size, k, none⟩ = some u := by
        have := HO.out.cells (g := w.heap.size) rfl k u hu
        simpa only [Addr.add_lit, Nat.zero_add] using this
      have f0 := own_frozen HO.out k
      have hkI : (k : Int) < (N : Int) := by omega
      have hN4 : N ≤ 4294967296 := by have := HN.out; omega
      have HLN := Lib.hid hlen
      clear hlen hu
      go_wp2
      go_roundw
      case rel => exact ⟨k + 1, by omega, by go_num, HB.out.setCell (Nat.le_refl _) _, _, own_put HO.out k _, Lib.hid (fun j hj => by
          have hl := HLN.out
          by_cases e : j = k
          · subst e
            rw [List.getElem?_set_self (by omega)]
          · rw [List.getElem?_set_ne (fun h => e h.symm)]
            exact HX.out j (by omega))⟩
      case measure => simp [intOf]; omega
    · have HK : Hid (k = N) := Lib.hid (by omega)
      obtain ⟨R, hR⟩ : ∃ R : Bs, R = List.replicate N 10 := ⟨_, rfl⟩
      have hRl : R.length = N := by rw [hR, List.length_replicate]
      have hcells : ∀ i, i < N → wr.cell? ⟨w.heap.size, 0 + i, none⟩ = some (.int .u8 ((List.replicate N (10 : Int)).getD i 0)) := by
        intro i hi
        have := HO.out.cells (g := w.heap.size) rfl i _ (HX.out i (by have := HK.out; omega))
        simp only [Addr.add_lit, Nat.zero_add] at this
        rw [Nat.zero_add, this, List.getD_eq_getElem?_getD, List.getElem?_replicate_of_lt hi]
        rfl
      have hcv : (convert 43 9 (.slice (some ⟨w.heap.size, 0, none⟩) N N)).run Tryd.prog wr = .ok (.string ⟨R.toArray⟩) wr := by
        have := run_convert_bytes_arg (P := Tryd.prog) wr 43 5 Tryd.underlying43 Tryd.underlying5 w.heap.size 0 N N (List.replicate N 10) (by simp) hcells 9 Tryd.underlying9
        rw [strOf_ten, ← hR] at this
        exact this
      have hpR : parseL R = ([], 0, 0) := by rw [hR]; exact parse_nl N (by have := HN.out; omega)
      have HP := Lib.hid hpR
      have HRl := Lib.hid hRl
      have hkI : ¬ (k : Int) < (N : Int) := by omega
      have hz : R.length + S.length ≤ 9223372036854775807 := by have := HN.out; omega
      clear hcells hR hpR hRl
      by_cases hS0 : S = []
      · subst hS0
        go_wp2_with (go_at_call 15; have hone := hcv; refine (parse_none (s := ⟨R.toArray⟩) (n := 0) (er := 0) HP.out _ (HE.out.on HB.out)).mono ?_; rintro e w2 ⟨⟨a2, k2, rfl⟩, hb2⟩; have HB2 := Lib.hid (HB.out.trans (hb2.mono HB.out.size)); clear hb2 hcv hone)
        go_wp2_with (go_at_call 15; refine (parse_none (n := 0) (er := 0) ?_ _ (HE.out.on HB2.out)).mono ?_)
        · rw [app_data]
          exact (congrArg parseL (List.append_nil R)).trans HP.out
        rintro e w3 ⟨⟨a3, k3, rfl⟩, hb3⟩
        have HB3 := Lib.hid (HB2.out.trans (hb3.mono HB2.out.size))
        clear hb3
        go_wp2_with (go_at_call 13; refine (awake_on HE.out HB3.out).mono ?_; rintro e w4 ⟨rfl, hb4⟩; have HB4 := Lib.hid hb4; clear hb4)
        go_ret
        exact ⟨rfl, HB4.out⟩
      · have hS1 : (0 : Int) < (S.length : Int) := by
          have : S.length ≠ 0 := fun e => hS0 (List.eq_nil_of_length_eq_zero e)
          omega
        clear hS0
        go_wp2_with (go_at_call 15; have hone := hcv; refine (parse_none (s := ⟨R.toArray⟩) (n := 0) (er := 0) HP.out _ (HE.out.on HB.out)).mono ?_; rintro e w2 ⟨⟨a2, k2, rfl⟩, hb2⟩; have HB2 := Lib.hid (HB.out.trans (hb2.mono HB.out.size)); clear hb2 hcv hone)
        go_wp2_with (go_at_call 15; refine (parse_none (n := 0) (er := 2) ?_ _ (HE.out.on HB2.out)).mono ?_)
        · rw [app_data]
          exact parse_over (R ++ S) (by have := HN.out; have := HRl.out; rw [List.length_append]; omega)
        rintro e w3 ⟨⟨a3, k3, rfl⟩, hb3⟩
        have HB3 := Lib.hid (HB2.out.trans (hb3.mono HB2.out.size))
        clear hb3
        go_wp2_with (go_at_call 13; refine (awake_on HE.out HB3.out).mono ?_; rintro e w4 ⟨rfl, hb4⟩; have HB4 := Lib.hid hb4; clear hb4)
        go_ret
        exact ⟨rfl, HB4.out⟩
end Go.Proofs.YtcamimfepcoggaaDoor
