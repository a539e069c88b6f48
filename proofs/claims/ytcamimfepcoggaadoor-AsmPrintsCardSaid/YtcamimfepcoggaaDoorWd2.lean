/- The walks of asm's reader's word, at a number. -/
import Derived.Test.YtcamimfepcoggaaDoorWd1
import Derived.Deep.RegionHeld3
import Derived.WideLaws
import Derived.Lib.AtoiErrMem
import Derived.RegionTactic
namespace Go.Proofs.YtcamimfepcoggaaDoor
open Go.RowKit
theorem atoi_ok (s : ByteArray) (v : Int) (w : World) (h : Lib.atoiAll s.data.toList = .ok v) (hs : s.size < 4294967281) :
    Calls Tryd.prog 69 #[.string s] w fun e w' => e = .returned (.tuple #[.int .i64 v, .nilIface]) ∧ Below w.heap.size w w' := by
  refine (Tryd.strconv_Atoi_ok s (by omega) v h w).mono ?_
  rintro e w' ⟨rfl, hw⟩
  refine ⟨rfl, ?_⟩
  rcases hw with rfl | ⟨t, rfl⟩
  · exact Below.refl _ _
  · exact Lib.bytesWorld_below _ _ _
theorem atoi_bad (s : ByteArray) (w : World) (h : ∀ v, Lib.atoiAll s.data.toList ≠ .ok v) (hs : s.size < 4294967281) (hE : Env w) :
    Calls Tryd.prog 69 #[.string s] w fun e w' => ∃ m x, e = .returned (.tuple #[.int .i64 m, .iface 149 x]) ∧ Below w.heap.size w w' := by
  cases hr : Lib.atoiAll s.data.toList with
  | ok v => exact absurd hr (h v)
  | range =>
    obtain ⟨ev, hv, hev⟩ := hE.rng
    refine (Tryd.strconv_Atoi_range s (by omega) hr ev w hv hev).mono ?_
    rintro e w' ⟨N, rfl, _, _, hb⟩
    exact ⟨_, _, rfl, hb⟩
  | _ =>
    obtain ⟨ev, hv, hev⟩ := hE.syn
    refine (Tryd.strconv_Atoi_syntax s (by omega) hr ev w hv hev).mono ?_
    rintro e w' ⟨N, rfl, _, _, hb⟩
    exact ⟨_, _, rfl, hb⟩
theorem Env.dr {w w' : World} (h : Env w) (hw : w'.heap = w.heap) : Env w' := h.at_ (by rw [hw]; exact Nat.le_refl _) (fun k _ => by rw [hw])
theorem below_dr {B : Nat} {a w w' : World} (h : Below B a w) (hw : w'.heap = w.heap) (h1 : w'.os = w.os) (h2 : w'.tape = w.tape) (h3 : w'.output = w.output) : Below B a w' :=
  ⟨h1.trans h.os, h2.trans h.tape, h3.trans h.output, by rw [hw]; exact h.size, fun k hk => by rw [hw]; exact h.block k hk⟩
theorem trimMinus (s : ByteArray) (l : Bs) (w : World) (h : Lib.trimPrefix s.data.toList [45] = l) :
    Calls Tryd.prog 70 #[.string s, .string ⟨#[45]⟩] w fun e w' => e = .returned (.string ⟨l.toArray⟩) ∧ w = w' := by
  refine (Tryd.strings_TrimPrefix s ⟨#[45]⟩ w).mono ?_
  rintro e w' ⟨rfl, rfl⟩
  have h' : Lib.trimPrefix s.data.toList (⟨#[45]⟩ : ByteArray).data.toList = l := h
  exact ⟨by rw [h'], rfl⟩
set_option maxRecDepth 100000 in
set_option maxHeartbeats 2000000 in
theorem word0_bad (g : Nat) (n : Int) (s : ByteArray) (w : World) (hc : w.cell? ⟨g, 1, none⟩ = some (.int .i64 n)) (hg : g < w.heap.size) (hA : ∀ v, Lib.atoiAll s.data.toList ≠ .ok v) (hs : s.size < 4294967281) (hE : Env w) :
    Calls Tryd.prog 60 #[.pointer (some ⟨g, 0, none⟩), .int .i64 0, .string s] w fun e w' => e = wrongE n ∧ Below w.heap.size w w' := by
  have HC := Lib.hid hc
  have HA := Lib.hid hA
  have HE := Lib.hid hE
  have HG := Lib.hid hg
  clear hc hA hE hg
  go_enter Tryd.func60, Tryd.ntmps60
  go_wp2_with (go_at_call 69; refine (atoi_bad s _ HA.out hs HE.out).mono ?_; rintro e w1 ⟨m, x, rfl, hb⟩; have HB := Lib.hid hb; clear hb)
  have hnil : ∀ w : World, (binOp .eql 54 (.iface 149 x) .nilIface).run Tryd.prog w = .ok (.bool false) w := fun w => run_eql_held_nil _ 54 149 x (by kernel_rfl)
  go_still_tail 17, (by kernel_rfl)
  change wpList _ _ _ _ _ w1.drew
  go_wp2_with (go_at_call 48; refine (must_no g n w1.drew ((HB.out.cell (p := ⟨g, 1, none⟩) HG.out).trans HC.out)).mono ?_; rintro e w' ⟨rfl, rfl⟩)
  exact ⟨rfl, rfl, HB.out.drew⟩
set_option maxRecDepth 100000 in
set_option maxHeartbeats 4000000 in
theorem word0_yes (g : Nat) (s : ByteArray) (v : Int) (l : Bs) (w : World) (hA : Lib.atoiAll s.data.toList = .ok v) (hs : s.size < 4294967281) (hE : Env w) (hv0 : -9223372036854775808 ≤ v) (hv1 : v ≤ 9223372036854775807)
    (hq : (Lib.itoa v == s.toList) = true) (hl : Lib.trimPrefix s.data.toList [45] = l) (hll : decide ((l.length : Int) ≤ 13) = true) :
    Calls Tryd.prog 60 #[.pointer (some ⟨g, 0, none⟩), .int .i64 0, .string s] w fun e w' => e = .returned (.tuple #[.int .i64 v, .string ⟨#[]⟩]) ∧ Below w.heap.size w w' := by
  have HA := Lib.hid hA
  have HE := Lib.hid hE
  have HL := Lib.hid hl
  clear hA hE hl
  go_enter Tryd.func60, Tryd.ntmps60
  go_wp2_with (go_at_call 69; refine (atoi_ok s v _ HA.out hs).mono ?_; rintro e w1 ⟨rfl, hb⟩; have HB := Lib.hid hb; clear hb)
  go_region_held3 (fun w' => True) (trivial) (first
    | (go_at_call 20; refine (itoa_any v hv0 hv1 _ (by exact Env.dr (HE.out.on HB.out) rfl)).mono ?_; rintro e w2 ⟨rfl, hb⟩; have HB2 := Lib.hid hb; clear hb)
    | (go_at_call 70; refine (trimMinus s l _ HL.out).mono ?_; rintro e w' ⟨rfl, rfl⟩)
    | (go_at_call 48; refine (must_yes _ _).mono ?_; rintro e w' ⟨rfl, rfl⟩))
  go_wp2
  go_ret2
  exact ⟨rfl, xt HB.out.drew HB2.out⟩
set_option maxRecDepth 100000 in
set_option maxHeartbeats 4000000 in
theorem word0_no_b (g : Nat) (n : Int) (s : ByteArray) (v : Int) (l : Bs) (w : World) (hc : w.cell? ⟨g, 1, none⟩ = some (.int .i64 n)) (hg : g < w.heap.size) (hA : Lib.atoiAll s.data.toList = .ok v) (hs : s.size < 4294967281) (hE : Env w) (hv0 : -9223372036854775808 ≤ v) (hv1 : v ≤ 9223372036854775807)
    (hl : Lib.trimPrefix s.data.toList [45] = l) (hq : (Lib.itoa v == s.toList) = false) :
    Calls Tryd.prog 60 #[.pointer (some ⟨g, 0, none⟩), .int .i64 0, .string s] w fun e w' => e = wrongE n ∧ Below w.heap.size w w' := by
  have HA := Lib.hid hA
  have HE := Lib.hid hE
  have HL := Lib.hid hl
  have HC := Lib.hid hc
  have HG := Lib.hid hg
  clear hA hE hl hc hg
  go_enter Tryd.func60, Tryd.ntmps60
  go_wp2_with (go_at_call 69; refine (atoi_ok s v _ HA.out hs).mono ?_; rintro e w1 ⟨rfl, hb⟩; have HB := Lib.hid hb; clear hb)
  refine wp_region_any (by kernel_rfl) ?_
  change wpAny _ _ _ _ _ _ _ (World.drew _)
  refine wpAny_take (i := 0) (v := ?v0) rfl (by kernel_rfl) (by kernel_rfl) (by kernel_rfl) (fun _ _ _ h => h) (Or.inl ⟨by rfl, ?h0⟩) ?_
  case h0 => (intro w; go_simp; try with_reducible rfl)
  refine wpAny_take (i := 1) (v := ?v1) rfl (by kernel_rfl) (by kernel_rfl) (by kernel_rfl) (fun _ _ _ h => h) (Or.inl ⟨by rfl, ?h1⟩) ?_
  case h1 => (intro w; go_simp; try with_reducible rfl)
  refine wpAny_take (i := 2) (v := ?v2) rfl (by kernel_rfl) (by kernel_rfl) (by kernel_rfl) (fun _ _ _ h => h) (Or.inl ⟨by rfl, ?h2⟩) ?_
  case h2 => (intro w; go_simp; try with_reducible rfl)
  refine wpAny_take (i := 3) (v := ?v3) rfl (by kernel_rfl) (by kernel_rfl) (by kernel_rfl) (fun _ _ _ h => h) (Or.inl ⟨by rfl, ?h3⟩) ?_
  case h3 => (intro w; go_simp; try with_reducible rfl)
  refine wpAny_take (i := 4) (v := ?v4) rfl (by kernel_rfl) (by kernel_rfl) (by kernel_rfl) (fun _ _ _ h => h) (Or.inl ⟨by rfl, ?h4⟩) ?_
  case h4 => (intro w; go_simp; try with_reducible rfl)
  refine wpAny_take (i := 5) (v := ?v5) rfl (by kernel_rfl) (by kernel_rfl) (by kernel_rfl) (fun _ _ _ h => h) (Or.inl ⟨by rfl, ?h5⟩) ?_
  case h5 => (intro w; go_simp; try with_reducible rfl)
  refine wpAny_take (i := 6) (v := ?v6) rfl (by kernel_rfl) (by kernel_rfl) (by kernel_rfl) (fun _ _ _ h => h) (Or.inl ⟨by rfl, ?h6⟩) ?_
  case h6 => (intro w; go_simp; try with_reducible rfl)
  refine wpAny_take (i := 8) (v := ?v8) rfl (by kernel_rfl) (by kernel_rfl) (by kernel_rfl) (fun _ _ _ h => h) (Or.inl ⟨by rfl, ?h8⟩) ?_
  case h8 => (intro w; go_simp; try with_reducible rfl)
  refine wpAny_ready (rs := [7]) (by kernel_rfl) (by simp) ?_
  refine AllReady.cons rfl (fun K hK => ?_) AllReady.nil
  go_simp
  refine (itoa_any v hv0 hv1 w1.drew (Env.dr (HE.out.on HB.out) rfl)).mono ?_
  rintro e w2 ⟨rfl, hb⟩
  have HB2 := Lib.hid hb
  clear hb
  refine hK _ _ ?_
  clear hK K
  refine wpAny_take (i := 9) (v := ?v9) rfl (by kernel_rfl) (by kernel_rfl) (by kernel_rfl) (fun _ _ _ h => h) (Or.inl ⟨by rfl, ?h9⟩) ?_
  case h9 => (intro w; go_simp; try with_reducible rfl)
  refine wpAny_take (i := 10) (v := ?v10) rfl (by kernel_rfl) (by kernel_rfl) (by kernel_rfl) (fun _ _ _ h => h) (Or.inl ⟨by rfl, ?h10⟩) ?_
  case h10 => (intro w; go_simp; try with_reducible rfl)
  refine wpAny_take (i := 11) (v := ?v11) rfl (by kernel_rfl) (by kernel_rfl) (by kernel_rfl) (fun _ _ _ h => h) (Or.inl ⟨by rfl, ?h11⟩) ?_
  case h11 => (intro w; go_simp; try with_reducible rfl)
  refine wpAny_take (i := 12) (v := undef) rfl (by kernel_rfl) (by kernel_rfl) (by kernel_rfl) (fun _ _ _ h => h) (Or.inr ⟨by rfl, rfl⟩) ?_
  refine wpAny_take (i := 13) (v := undef) rfl (by kernel_rfl) (by kernel_rfl) (by kernel_rfl) (fun _ _ _ h => h) (Or.inr ⟨by rfl, rfl⟩) ?_
  refine wpAny_take (i := 14) (v := undef) rfl (by kernel_rfl) (by kernel_rfl) (by kernel_rfl) (fun _ _ _ h => h) (Or.inr ⟨by rfl, rfl⟩) ?_
  refine wpAny_take (i := 15) (v := undef) rfl (by kernel_rfl) (by kernel_rfl) (by kernel_rfl) (fun _ _ _ h => h) (Or.inr ⟨by rfl, rfl⟩) ?_
  refine wpAny_take (i := 16) (v := ?v16) rfl (by kernel_rfl) (by kernel_rfl) (by kernel_rfl) (fun _ _ _ h => h) (Or.inl ⟨by rfl, ?h16⟩) ?_
  case h16 => (intro w; go_simp; try with_reducible rfl)
  refine wpAny_ready (rs := [17]) (by kernel_rfl) (by simp) ?_
  refine AllReady.cons rfl (fun K hK => ?_) AllReady.nil
  go_simp
  refine (must_no g n _ (((xt HB.out.drew HB2.out).cell (p := ⟨g, 1, none⟩) HG.out).trans HC.out)).mono ?_
  rintro e w' ⟨rfl, rfl⟩
  exact ⟨rfl, rfl, xt HB.out.drew HB2.out⟩
set_option maxRecDepth 100000 in
set_option maxHeartbeats 4000000 in
theorem word0_no_c (g : Nat) (n : Int) (s : ByteArray) (v : Int) (l : Bs) (w : World) (hc : w.cell? ⟨g, 1, none⟩ = some (.int .i64 n)) (hg : g < w.heap.size) (hA : Lib.atoiAll s.data.toList = .ok v) (hs : s.size < 4294967281) (hE : Env w) (hv0 : -9223372036854775808 ≤ v) (hv1 : v ≤ 9223372036854775807)
    (hl : Lib.trimPrefix s.data.toList [45] = l) (hq : (Lib.itoa v == s.toList) = true) (hll : decide ((l.length : Int) ≤ 13) = false) :
    Calls Tryd.prog 60 #[.pointer (some ⟨g, 0, none⟩), .int .i64 0, .string s] w fun e w' => e = wrongE n ∧ Below w.heap.size w w' := by
  have HA := Lib.hid hA
  have HE := Lib.hid hE
  have HL := Lib.hid hl
  have HC := Lib.hid hc
  have HG := Lib.hid hg
  clear hA hE hl hc hg
  go_enter Tryd.func60, Tryd.ntmps60
  go_wp2_with (go_at_call 69; refine (atoi_ok s v _ HA.out hs).mono ?_; rintro e w1 ⟨rfl, hb⟩; have HB := Lib.hid hb; clear hb)
  refine wp_region_any (by kernel_rfl) ?_
  change wpAny _ _ _ _ _ _ _ (World.drew _)
  refine wpAny_take (i := 0) (v := ?v0) rfl (by kernel_rfl) (by kernel_rfl) (by kernel_rfl) (fun _ _ _ h => h) (Or.inl ⟨by rfl, ?h0⟩) ?_
  case h0 => (intro w; go_simp; try with_reducible rfl)
  refine wpAny_take (i := 1) (v := ?v1) rfl (by kernel_rfl) (by kernel_rfl) (by kernel_rfl) (fun _ _ _ h => h) (Or.inl ⟨by rfl, ?h1⟩) ?_
  case h1 => (intro w; go_simp; try with_reducible rfl)
  refine wpAny_take (i := 2) (v := ?v2) rfl (by kernel_rfl) (by kernel_rfl) (by kernel_rfl) (fun _ _ _ h => h) (Or.inl ⟨by rfl, ?h2⟩) ?_
  case h2 => (intro w; go_simp; try with_reducible rfl)
  refine wpAny_take (i := 3) (v := ?v3) rfl (by kernel_rfl) (by kernel_rfl) (by kernel_rfl) (fun _ _ _ h => h) (Or.inl ⟨by rfl, ?h3⟩) ?_
  case h3 => (intro w; go_simp; try with_reducible rfl)
  refine wpAny_take (i := 4) (v := ?v4) rfl (by kernel_rfl) (by kernel_rfl) (by kernel_rfl) (fun _ _ _ h => h) (Or.inl ⟨by rfl, ?h4⟩) ?_
  case h4 => (intro w; go_simp; try with_reducible rfl)
  refine wpAny_take (i := 5) (v := ?v5) rfl (by kernel_rfl) (by kernel_rfl) (by kernel_rfl) (fun _ _ _ h => h) (Or.inl ⟨by rfl, ?h5⟩) ?_
  case h5 => (intro w; go_simp; try with_reducible rfl)
  refine wpAny_take (i := 6) (v := ?v6) rfl (by kernel_rfl) (by kernel_rfl) (by kernel_rfl) (fun _ _ _ h => h) (Or.inl ⟨by rfl, ?h6⟩) ?_
  case h6 => (intro w; go_simp; try with_reducible rfl)
  refine wpAny_take (i := 8) (v := ?v8) rfl (by kernel_rfl) (by kernel_rfl) (by kernel_rfl) (fun _ _ _ h => h) (Or.inl ⟨by rfl, ?h8⟩) ?_
  case h8 => (intro w; go_simp; try with_reducible rfl)
  refine wpAny_ready (rs := [7]) (by kernel_rfl) (by simp) ?_
  refine AllReady.cons rfl (fun K hK => ?_) AllReady.nil
  go_simp
  refine (itoa_any v hv0 hv1 w1.drew (Env.dr (HE.out.on HB.out) rfl)).mono ?_
  rintro e w2 ⟨rfl, hb⟩
  have HB2 := Lib.hid hb
  clear hb
  refine hK _ _ ?_
  clear hK K
  refine wpAny_take (i := 9) (v := ?v9) rfl (by kernel_rfl) (by kernel_rfl) (by kernel_rfl) (fun _ _ _ h => h) (Or.inl ⟨by rfl, ?h9⟩) ?_
  case h9 => (intro w; go_simp; try with_reducible rfl)
  refine wpAny_take (i := 10) (v := ?v10) rfl (by kernel_rfl) (by kernel_rfl) (by kernel_rfl) (fun _ _ _ h => h) (Or.inl ⟨by rfl, ?h10⟩) ?_
  case h10 => (intro w; go_simp; try with_reducible rfl)
  refine wpAny_take (i := 11) (v := ?v11) rfl (by kernel_rfl) (by kernel_rfl) (by kernel_rfl) (fun _ _ _ h => h) (Or.inl ⟨by rfl, ?h11⟩) ?_
  case h11 => (intro w; go_simp; try with_reducible rfl)
  refine wpAny_take (i := 12) (v := ?v12) rfl (by kernel_rfl) (by kernel_rfl) (by kernel_rfl) (fun _ _ _ h => h) (Or.inl ⟨by rfl, ?h12⟩) ?_
  case h12 => (intro w; go_simp; try with_reducible rfl)
  refine wpAny_ready (rs := [13]) (by kernel_rfl) (by simp) ?_
  refine AllReady.cons rfl (fun K hK => ?_) AllReady.nil
  go_simp
  refine (trimMinus s l w2 HL.out).mono ?_
  rintro e w' ⟨rfl, rfl⟩
  refine hK _ _ ?_
  clear hK K
  refine wpAny_take (i := 14) (v := ?v14) rfl (by kernel_rfl) (by kernel_rfl) (by kernel_rfl) (fun _ _ _ h => h) (Or.inl ⟨by rfl, ?h14⟩) ?_
  case h14 => (intro w; go_simp; try with_reducible rfl)
  refine wpAny_take (i := 15) (v := ?v15) rfl (by kernel_rfl) (by kernel_rfl) (by kernel_rfl) (fun _ _ _ h => h) (Or.inl ⟨by rfl, ?h15⟩) ?_
  case h15 => (intro w; go_simp; try with_reducible rfl)
  refine wpAny_take (i := 16) (v := ?v16) rfl (by kernel_rfl) (by kernel_rfl) (by kernel_rfl) (fun _ _ _ h => h) (Or.inl ⟨by rfl, ?h16⟩) ?_
  case h16 => (intro w; go_simp; try with_reducible rfl)
  refine wpAny_ready (rs := [17]) (by kernel_rfl) (by simp) ?_
  refine AllReady.cons rfl (fun K hK => ?_) AllReady.nil
  go_simp
  refine (must_no g n w2 (((xt HB.out.drew HB2.out).cell (p := ⟨g, 1, none⟩) HG.out).trans HC.out)).mono ?_
  rintro e w' ⟨rfl, rfl⟩
  exact ⟨rfl, rfl, xt HB.out.drew HB2.out⟩
end Go.Proofs.YtcamimfepcoggaaDoor
