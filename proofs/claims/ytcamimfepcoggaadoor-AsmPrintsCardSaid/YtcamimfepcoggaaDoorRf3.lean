/- The walks of the reference's Num and operand. -/
import Derived.Test.YtcamimfepcoggaaDoorRf2
import Derived.Test.YtcamimfepcoggaaDoorLw1
import Derived.Laws.BytesArg
import Derived.Deep.RegionLaw
namespace Go.Proofs.YtcamimfepcoggaaDoor
open Go.RowKit
theorem conv_one (w1 : World) (g : Nat) (x : Int) (hc : w1.cell? ⟨g, 0, none⟩ = some (.int .u8 x)) : (convert 43 9 (.slice (some ⟨g, 0, none⟩) 1 1)).run Tryd.prog w1 = .ok (.string (strOfNums [x])) w1 :=
  run_convert_bytes_arg (P := Tryd.prog) w1 43 5 Tryd.underlying43 Tryd.underlying5 g 0 1 1 [x] rfl (fun i hi => by
    obtain rfl : i = 0 := by omega
    exact hc) 9 Tryd.underlying9
theorem conv_new (w : World) (x : Int) : (convert 43 9 (.slice (some ⟨w.heap.size, 0, none⟩) 1 1)).run Tryd.prog (w.alloc (.cells #[.int .u8 x] 5)) = .ok (.string (strOfNums [x])) (w.alloc (.cells #[.int .u8 x] 5)) :=
  run_convert_bytes_arg (P := Tryd.prog) _ 43 5 Tryd.underlying43 Tryd.underlying5 w.heap.size 0 1 1 [x] rfl (fun i hi => by
    obtain rfl : i = 0 := by omega
    rw [Lib.cell_of_heap (heap_alloc_new w _)]; rfl) 9 Tryd.underlying9
theorem one_digit (u : Nat) (h : u < 10) : strOfNums [48 + (u : Int)] = ⟨#[UInt8.ofNat (48 + u)]⟩ := by
  unfold strOfNums
  rw [List.map_cons, List.map_nil, show (48 + (u : Int)).toNat = 48 + u by omega]
theorem last_digit (u : Nat) : strOfNums [48 + (u : Int) % 10] = ⟨#[UInt8.ofNat (48 + u % 10)]⟩ := by
  unfold strOfNums
  rw [List.map_cons, List.map_nil, show (48 + (u : Int) % 10).toNat = 48 + u % 10 by omega]
theorem dec_small {u : Nat} (h : u < 10) : (⟨(Lib.decDigits u).toArray⟩ : ByteArray) = strOfNums [48 + (u : Int)] := by
  rw [one_digit u h, Lib.decDigits, dif_pos h]
theorem dec_big {u : Nat} (h : ¬ u < 10) : (⟨(Lib.decDigits u).toArray⟩ : ByteArray) = ⟨(Lib.decDigits (u / 10)).toArray⟩ ++ strOfNums [48 + (u : Int) % 10] := by
  rw [last_digit u, ← back ((⟨(Lib.decDigits (u / 10)).toArray⟩ : ByteArray) ++ _), app_data, Lib.decDigits, dif_neg h]
theorem ret_str {x y : ByteArray} (h : y = x) : Ending.returned (.string x) = .returned (.string y) := by rw [h]
set_option maxRecDepth 100000 in
set_option maxHeartbeats 4000000 in
theorem num_small (u : Nat) (h : u < 10) (w : World) : Calls Tryd.prog 25 #[.int .i64 (u : Int)] w fun e w' => e = .returned (.string ⟨(Lib.decDigits u).toArray⟩) ∧ Below w.heap.size w w' := by
  have hcv := conv_new
  have h0 : ¬ (u : Int) < 0 := by omega
  have h1 : (u : Int) < 10 := by omega
  go_enter Tryd.func25, Tryd.ntmps25
  go_wp2
  go_ret
  exact ⟨ret_str (dec_small h), (Below.refl _ _).alloc (Nat.le_refl _) _⟩
set_option maxRecDepth 100000 in
set_option maxHeartbeats 4000000 in
theorem num_step (u : Nat) (h : ¬ u < 10) (hu : u < 9223372036854775808) (w : World)
    (ih : ∀ w : World, Calls Tryd.prog 25 #[.int .i64 ((u : Int) / 10)] w fun e w' => e = .returned (.string ⟨(Lib.decDigits (u / 10)).toArray⟩) ∧ Below w.heap.size w w') :
    Calls Tryd.prog 25 #[.int .i64 (u : Int)] w fun e w' => e = .returned (.string ⟨(Lib.decDigits u).toArray⟩) ∧ Below w.heap.size w w' := by
  have h0 : ¬ (u : Int) < 0 := by omega
  have h1 : ¬ (u : Int) < 10 := by omega
  have hs2 : (Lib.decDigits (u / 10)).length ≤ 21 := by
    rw [Lib.decDigits_length]
    have := Lib.nDigits_le20 (u / 10) (by omega)
    omega
  have hX : IntKind.u8.wrap (IntKind.i64.wrap (48 + (u : Int).tmod 10)) = 48 + (u : Int) % 10 := by
    rw [Int.tmod_eq_emod_of_nonneg (by omega), IntWalk.i64_in _ (by omega), IntWalk.u8_in _ (by omega)]
  have hq : IntKind.i64.wrap ((u : Int) / 10) = (u : Int) / 10 := IntWalk.i64_in _ (by omega)
  have ih' : ∀ w : World, Calls Tryd.prog 25 #[.int .i64 (IntKind.i64.wrap ((u : Int) / 10))] w fun e w' => e = .returned (.string ⟨(Lib.decDigits (u / 10)).toArray⟩) ∧ Below w.heap.size w w' := by
    rw [hq]
    exact ih
  have IH := Lib.hid ih'
  have HX := Lib.hid hX
  have hs1 : (strOfNums [IntKind.u8.wrap (IntKind.i64.wrap (48 + (u : Int).tmod 10))]).size = 1 := by rw [strOfNums_size]; rfl
  clear ih' hX hq
  clear ih
  go_enter Tryd.func25, Tryd.ntmps25
  go_wp2
  refine wp_region_any (by kernel_rfl) ?_
  change wpAny _ _ _ _ _ _ _ (World.drew _)
  refine wpAny_take (i := 0) (v := ?v0a) rfl (by kernel_rfl) (by kernel_rfl) (by kernel_rfl) (fun _ _ _ h => h) (Or.inl ⟨by kernel_rfl, ?h0a⟩) ?_
  case h0a => (intro w; go_simp; try (first | with_reducible rfl | (rw [if_neg (by omega)]; done) | (rw [if_neg (by omega)]; with_reducible rfl)))
  refine wpAny_take (i := 1) (v := ?v1a) rfl (by kernel_rfl) (by kernel_rfl) (by kernel_rfl) (fun _ _ _ h => h) (Or.inl ⟨by kernel_rfl, ?h1a⟩) ?_
  case h1a => (intro w; go_simp; try (first | with_reducible rfl | (rw [if_neg (by omega)]; done) | (rw [if_neg (by omega)]; with_reducible rfl)))
  refine wpAny_take (i := 3) (v := ?v3a) rfl (by kernel_rfl) (by kernel_rfl) (by kernel_rfl) (fun _ _ _ h => h) (Or.inl ⟨by kernel_rfl, ?h3a⟩) ?_
  case h3a => (intro w; go_simp; try (first | with_reducible rfl | (rw [if_neg (by omega)]; done) | (rw [if_neg (by omega)]; with_reducible rfl)))
  refine wpAny_take (i := 4) (v := ?v4a) rfl (by kernel_rfl) (by kernel_rfl) (by kernel_rfl) (fun _ _ _ h => h) (Or.inl ⟨by kernel_rfl, ?h4a⟩) ?_
  case h4a => (intro w; go_simp; try (first | with_reducible rfl | (rw [if_neg (by omega)]; done) | (rw [if_neg (by omega)]; with_reducible rfl)))
  refine wpAny_take (i := 5) (v := ?v5a) rfl (by kernel_rfl) (by kernel_rfl) (by kernel_rfl) (fun _ _ _ h => h) (Or.inl ⟨by kernel_rfl, ?h5a⟩) ?_
  case h5a => (intro w; go_simp; try (first | with_reducible rfl | (rw [if_neg (by omega)]; done) | (rw [if_neg (by omega)]; with_reducible rfl)))
  refine wpAny_take (i := 6) (v := ?v6a) rfl (by kernel_rfl) (by kernel_rfl) (by kernel_rfl) (fun _ _ _ h => h) (Or.inl ⟨by kernel_rfl, ?h6a⟩) ?_
  case h6a => (intro w; go_simp; try (first | with_reducible rfl | (rw [if_neg (by omega)]; done) | (rw [if_neg (by omega)]; with_reducible rfl)))
  refine wpAny_ready (rs := [2, 7]) (by kernel_rfl) (by simp) ?_
  refine AllReady.cons rfl (fun K hK => ?_) (AllReady.cons rfl (fun K hK => ?_) AllReady.nil)
  · go_simp
    refine (IH.out w.drew).mono ?_
    rintro e w3 ⟨rfl, hb3⟩
    have HB3 : Hid (Below w.heap.size w w3) := Lib.hid (((Below.refl w.heap.size w).drew).trans hb3)
    clear hb3
    refine hK _ _ ?_
    clear hK K
    refine wpAny_ready (rs := [7]) (by kernel_rfl) (by simp) ?_
    refine AllReady.cons rfl (fun K hK => ?_) AllReady.nil
    go_simp
    refine hK _ _ ?_
    clear hK K
    have hcv := conv_new w3 (IntKind.u8.wrap (IntKind.i64.wrap (48 + (u : Int).tmod 10)))
    refine wpAny_ready (rs := [8]) (by kernel_rfl) (by simp) ?_
    refine AllReady.cons rfl (fun K hK => ?_) AllReady.nil
    go_simp
    refine hK _ _ ?_
    clear hK K hcv
    refine wpAny_take (i := 9) (v := ?v9b) rfl (by kernel_rfl) (by kernel_rfl) (by kernel_rfl) (fun _ _ _ h => h) (Or.inl ⟨by kernel_rfl, ?h9b⟩) ?_
    case h9b => (intro w; go_simp; try (first | with_reducible rfl | (rw [if_neg (by omega)]; done) | (rw [if_neg (by omega)]; with_reducible rfl)))
    refine wpAny_take (i := 10) (v := ?v10b) rfl (by kernel_rfl) (by kernel_rfl) (by kernel_rfl) (fun _ _ _ h => h) (Or.inl ⟨by kernel_rfl, ?h10b⟩) ?_
    case h10b => (intro w; go_simp; try (first | with_reducible rfl | (rw [if_neg (by omega)]; done) | (rw [if_neg (by omega)]; with_reducible rfl)))
    refine wpAny_done (by kernel_rfl) ?_ _
    go_wp2
    go_ret
    exact ⟨ret_str (by rw [HX.out]; exact dec_big h), HB3.out.alloc HB3.out.size _⟩
  · go_simp
    refine hK _ _ ?_
    clear hK K
    have hc0 : (w.alloc (.cells #[.int .u8 (IntKind.u8.wrap (IntKind.i64.wrap (48 + (u : Int).tmod 10)))] 5)).drew.cell? ⟨w.heap.size, 0, none⟩ = some (.int .u8 (IntKind.u8.wrap (IntKind.i64.wrap (48 + (u : Int).tmod 10)))) := by
      show (w.alloc _).cell? _ = _
      rw [Lib.cell_of_heap (heap_alloc_new w _)]; rfl
    have HC0 := Lib.hid hc0
    clear hc0
    refine wpAny_ready (rs := [2, 8]) (by kernel_rfl) (by simp) ?_
    refine AllReady.cons rfl (fun K hK => ?_) (AllReady.cons rfl (fun K hK => ?_) AllReady.nil)
    · go_simp
      refine (IH.out _).mono ?_
      rintro e w3 ⟨rfl, hb3⟩
      have hc3 := (hb3.cell (p := ⟨w.heap.size, 0, none⟩) (by show w.heap.size < (w.alloc _).heap.size; simp)).trans HC0.out
      have HB3 : Hid (Below w.heap.size w w3) := Lib.hid ((((Below.refl w.heap.size w).alloc (Nat.le_refl _) _).drew).trans (hb3.mono (by show w.heap.size ≤ (w.alloc _).heap.size; simp)))
      clear hb3
      refine hK _ _ ?_
      clear hK K
      have hcv := conv_one w3 w.heap.size (IntKind.u8.wrap (IntKind.i64.wrap (48 + (u : Int).tmod 10))) hc3
      refine wpAny_ready (rs := [8]) (by kernel_rfl) (by simp) ?_
      refine AllReady.cons rfl (fun K hK => ?_) AllReady.nil
      go_simp
      refine hK _ _ ?_
      clear hK K hcv
      refine wpAny_take (i := 9) (v := ?v9c) rfl (by kernel_rfl) (by kernel_rfl) (by kernel_rfl) (fun _ _ _ h => h) (Or.inl ⟨by kernel_rfl, ?h9c⟩) ?_
      case h9c => (intro w; go_simp; try (first | with_reducible rfl | (rw [if_neg (by omega)]; done) | (rw [if_neg (by omega)]; with_reducible rfl)))
      refine wpAny_take (i := 10) (v := ?v10c) rfl (by kernel_rfl) (by kernel_rfl) (by kernel_rfl) (fun _ _ _ h => h) (Or.inl ⟨by kernel_rfl, ?h10c⟩) ?_
      case h10c => (intro w; go_simp; try (first | with_reducible rfl | (rw [if_neg (by omega)]; done) | (rw [if_neg (by omega)]; with_reducible rfl)))
      refine wpAny_done (by kernel_rfl) ?_ _
      go_wp2
      go_ret
      exact ⟨ret_str (by rw [HX.out]; exact dec_big h), HB3.out⟩
    · have hcv := conv_one (w.alloc (.cells #[.int .u8 (IntKind.u8.wrap (IntKind.i64.wrap (48 + (u : Int).tmod 10)))] 5)).drew w.heap.size (IntKind.u8.wrap (IntKind.i64.wrap (48 + (u : Int).tmod 10))) HC0.out
      go_simp
      refine hK _ _ ?_
      clear hK K hcv
      refine wpAny_ready (rs := [2]) (by kernel_rfl) (by simp) ?_
      refine AllReady.cons rfl (fun K hK => ?_) AllReady.nil
      go_simp
      refine (IH.out _).mono ?_
      rintro e w3 ⟨rfl, hb3⟩
      have HB3 : Hid (Below w.heap.size w w3) := Lib.hid ((((Below.refl w.heap.size w).alloc (Nat.le_refl _) _).drew).trans (hb3.mono (by show w.heap.size ≤ (w.alloc _).heap.size; simp)))
      clear hb3
      refine hK _ _ ?_
      clear hK K
      refine wpAny_take (i := 9) (v := ?v9d) rfl (by kernel_rfl) (by kernel_rfl) (by kernel_rfl) (fun _ _ _ h => h) (Or.inl ⟨by kernel_rfl, ?h9d⟩) ?_
      case h9d => (intro w; go_simp; try (first | with_reducible rfl | (rw [if_neg (by omega)]; done) | (rw [if_neg (by omega)]; with_reducible rfl)))
      refine wpAny_take (i := 10) (v := ?v10d) rfl (by kernel_rfl) (by kernel_rfl) (by kernel_rfl) (fun _ _ _ h => h) (Or.inl ⟨by kernel_rfl, ?h10d⟩) ?_
      case h10d => (intro w; go_simp; try (first | with_reducible rfl | (rw [if_neg (by omega)]; done) | (rw [if_neg (by omega)]; with_reducible rfl)))
      refine wpAny_done (by kernel_rfl) ?_ _
      go_wp2
      go_ret
      exact ⟨ret_str (by rw [HX.out]; exact dec_big h), HB3.out⟩
theorem num_nat (u : Nat) : u < 9223372036854775808 → ∀ w : World, Calls Tryd.prog 25 #[.int .i64 (u : Int)] w fun e w' => e = .returned (.string ⟨(Lib.decDigits u).toArray⟩) ∧ Below w.heap.size w w' := by
  induction u using Nat.strongRecOn with
  | _ u ih =>
    intro hu w
    by_cases h : u < 10
    · exact num_small u h w
    · refine num_step u h hu w ?_
      have e : ((u / 10 : Nat) : Int) = (u : Int) / 10 := by omega
      rw [← e]
      exact ih (u / 10) (by omega) (by omega)
set_option maxRecDepth 100000 in
set_option maxHeartbeats 4000000 in
theorem num_neg (u : Nat) (h : 0 < u) (hu : u < 9223372036854775808) (w : World) : Calls Tryd.prog 25 #[.int .i64 (-(u : Int))] w fun e w' => e = .returned (.string ((⟨#[45]⟩ : ByteArray) ++ ⟨(Lib.decDigits u).toArray⟩)) ∧ Below w.heap.size w w' := by
  have h0 : (-(u : Int)) < 0 := by omega
  have hs2 : (Lib.decDigits u).length ≤ 21 := by
    rw [Lib.decDigits_length]
    have := Lib.nDigits_le20 u (by omega)
    omega
  have l1 : (⟨#[45]⟩ : ByteArray).size + (Lib.decDigits u).length ≤ 100 := by
    have e : (⟨#[45]⟩ : ByteArray).size = 1 := rfl
    rw [e]; omega
  go_enter Tryd.func25, Tryd.ntmps25
  go_wp2_with (go_at_call 25; refine (num_nat u hu _).mono ?_; rintro e w1 ⟨rfl, hb1⟩)
  go_ret
  exact ⟨rfl, hb1⟩
theorem num_any (n : Int) (h0 : -9223372036854775808 < n) (h1 : n < 9223372036854775808) (w : World) : Calls Tryd.prog 25 #[.int .i64 n] w fun e w' => e = .returned (.string ⟨(Lib.itoa n).toArray⟩) ∧ Below w.heap.size w w' := by
  by_cases h : n < 0
  · obtain ⟨u, rfl⟩ : ∃ u : Nat, n = -(u : Int) := ⟨n.natAbs, by omega⟩
    refine (num_neg u (by omega) (by omega) w).mono ?_
    rintro e w' ⟨rfl, hb⟩
    refine ⟨?_, hb⟩
    rw [Lib.itoa_neg u (by omega), ← back ((⟨#[45]⟩ : ByteArray) ++ _), app_data]
    rfl
  · obtain ⟨u, rfl⟩ : ∃ u : Nat, n = (u : Int) := ⟨n.toNat, by omega⟩
    rw [Lib.itoa_nonneg]
    exact num_nat u (by omega) w
/-- What stands of an operand. -/
def operandT (s n : Int) : Bs := if s = 0 then [] else if s = 1 then 32 :: 114 :: Lib.itoa n else if s = 3 then 32 :: 64 :: 76 :: Lib.itoa n else 32 :: Lib.itoa n
theorem ret_app {x : ByteArray} {l : Bs} (h : x.data.toList = l) : Ending.returned (.string x) = .returned (.string ⟨l.toArray⟩) := by rw [← h, back]
set_option maxRecDepth 100000 in
set_option maxHeartbeats 4000000 in
theorem operand_any (s n : Int) (h0 : -9223372036854775808 < n) (h1 : n < 9223372036854775808) (w : World) : Calls Tryd.prog 31 #[.int .i64 s, .int .i64 n] w fun e w' => e = .returned (.string ⟨(operandT s n).toArray⟩) ∧ Below w.heap.size w w' := by
  have hl := Lib.itoa_length_le n (by omega) (by omega)
  have l1 : (⟨#[32, 114]⟩ : ByteArray).size + (Lib.itoa n).length ≤ 100 := by
    have e : (⟨#[32, 114]⟩ : ByteArray).size = 2 := rfl
    rw [e]; omega
  have l2 : (⟨#[32, 64, 76]⟩ : ByteArray).size + (Lib.itoa n).length ≤ 100 := by
    have e : (⟨#[32, 64, 76]⟩ : ByteArray).size = 3 := rfl
    rw [e]; omega
  have l3 : (⟨#[32]⟩ : ByteArray).size + (Lib.itoa n).length ≤ 100 := by
    have e : (⟨#[32]⟩ : ByteArray).size = 1 := rfl
    rw [e]; omega
  unfold operandT
  by_cases e1 : s = 1
  · subst e1
    go_enter Tryd.func31, Tryd.ntmps31
    go_wp2_with (go_at_call 25; refine (num_any n h0 h1 _).mono ?_; rintro e w1 ⟨rfl, hb1⟩)
    go_ret
    exact ⟨ret_app (by rw [app_data]; rfl), hb1⟩
  by_cases e3 : s = 3
  · subst e3
    go_enter Tryd.func31, Tryd.ntmps31
    go_wp2_with (go_at_call 25; refine (num_any n h0 h1 _).mono ?_; rintro e w1 ⟨rfl, hb1⟩)
    go_ret
    exact ⟨ret_app (by rw [app_data]; rfl), hb1⟩
  by_cases e0 : s = 0
  · subst e0
    go_enter Tryd.func31, Tryd.ntmps31
    go_wp2
    go_ret
    exact ⟨rfl, Below.refl _ _⟩
  rw [if_neg e0, if_neg e1, if_neg e3]
  go_enter Tryd.func31, Tryd.ntmps31
  go_wp2_with (go_at_call 25; refine (num_any n h0 h1 _).mono ?_; rintro e w1 ⟨rfl, hb1⟩)
  go_ret
  exact ⟨ret_app (by rw [app_data]; rfl), hb1⟩
end Go.Proofs.YtcamimfepcoggaaDoor
