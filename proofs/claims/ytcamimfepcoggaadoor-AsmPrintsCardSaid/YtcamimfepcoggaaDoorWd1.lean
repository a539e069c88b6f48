/- The walks of asm's reader's word, at a register and at a place. -/
import Derived.Test.YtcamimfepcoggaaDoorRd3
import Derived.Test.YtcamimfepcoggaaDoorRd2
import Derived.StillTailTactics
import Derived.BigQuiet
namespace Go.Proofs.YtcamimfepcoggaaDoor
open Go.RowKit
theorem below_drew (w : World) : Below w.heap.size w w.drew := (Below.refl _ _).drew
set_option maxRecDepth 100000 in
set_option maxHeartbeats 2000000 in
theorem word1_yes (g : Nat) (s : ByteArray) (w : World) (b0 : 0 < s.size) (b1 : 1 < s.size) (b1i : (1 : Int) < (s.size : Int)) (e0 : ((s.size : Int) == 2) = true) (e1 : ((s[0].toNat : Int) == 114) = true)
    (h1 : decide ((48 : Int) ≤ (s[1].toNat : Int)) = true) (h2 : decide ((s[1].toNat : Int) ≤ (55 : Int)) = true) :
    Calls Tryd.prog 60 #[.pointer (some ⟨g, 0, none⟩), .int .i64 1, .string s] w fun e w' => e = .returned (.tuple #[.int .i64 (s[1].toNat - 48), .string ⟨#[]⟩]) ∧ Below w.heap.size w w' := by
  go_enter Tryd.func60, Tryd.ntmps60
  go_wp2
  go_still_tail 21, (by kernel_rfl)
  change wpList _ _ _ _ _ w.drew
  have h1' : (48 : Int) ≤ (s[1].toNat : Int) := of_decide_eq_true h1
  have h2' : (s[1].toNat : Int) ≤ (55 : Int) := of_decide_eq_true h2
  go_wp2_with (go_at_call 48; refine (must_yes _ _).mono ?_; rintro e w' ⟨rfl, rfl⟩)
  go_ret2
  exact ⟨rfl, below_drew w⟩
set_option maxRecDepth 100000 in
set_option maxHeartbeats 2000000 in
theorem word1_no_a (g : Nat) (n : Int) (s : ByteArray) (w : World) (hc : w.cell? ⟨g, 1, none⟩ = some (.int .i64 n)) (e0 : ((s.size : Int) == 2) = false) :
    Calls Tryd.prog 60 #[.pointer (some ⟨g, 0, none⟩), .int .i64 1, .string s] w fun e w' => e = wrongE n ∧ Below w.heap.size w w' := by
  have HC := Lib.hid hc
  clear hc
  go_enter Tryd.func60, Tryd.ntmps60
  go_wp2
  go_still_tail 21, (by kernel_rfl)
  change wpList _ _ _ _ _ w.drew
  go_wp2_with (go_at_call 48; refine (must_no g n w.drew HC.out).mono ?_; rintro e w' ⟨rfl, rfl⟩)
  exact ⟨rfl, rfl, below_drew w⟩
set_option maxRecDepth 100000 in
set_option maxHeartbeats 2000000 in
theorem word1_no_b (g : Nat) (n : Int) (s : ByteArray) (w : World) (hc : w.cell? ⟨g, 1, none⟩ = some (.int .i64 n)) (b0 : 0 < s.size) (e0 : ((s.size : Int) == 2) = true) (e1 : ((s[0].toNat : Int) == 114) = false) :
    Calls Tryd.prog 60 #[.pointer (some ⟨g, 0, none⟩), .int .i64 1, .string s] w fun e w' => e = wrongE n ∧ Below w.heap.size w w' := by
  have HC := Lib.hid hc
  clear hc
  go_enter Tryd.func60, Tryd.ntmps60
  go_wp2
  go_still_tail 21, (by kernel_rfl)
  change wpList _ _ _ _ _ w.drew
  go_wp2_with (go_at_call 48; refine (must_no g n w.drew HC.out).mono ?_; rintro e w' ⟨rfl, rfl⟩)
  exact ⟨rfl, rfl, below_drew w⟩
set_option maxRecDepth 100000 in
set_option maxHeartbeats 2000000 in
theorem word1_no_c (g : Nat) (n : Int) (s : ByteArray) (w : World) (hc : w.cell? ⟨g, 1, none⟩ = some (.int .i64 n)) (b0 : 0 < s.size) (b1 : 1 < s.size) (b1i : (1 : Int) < (s.size : Int)) (e0 : ((s.size : Int) == 2) = true) (e1 : ((s[0].toNat : Int) == 114) = true) (h1 : decide ((48 : Int) ≤ (s[1].toNat : Int)) = false) :
    Calls Tryd.prog 60 #[.pointer (some ⟨g, 0, none⟩), .int .i64 1, .string s] w fun e w' => e = wrongE n ∧ Below w.heap.size w w' := by
  have HC := Lib.hid hc
  clear hc
  go_enter Tryd.func60, Tryd.ntmps60
  go_wp2
  go_still_tail 21, (by kernel_rfl)
  change wpList _ _ _ _ _ w.drew
  go_wp2_with (go_at_call 48; refine (must_no g n w.drew HC.out).mono ?_; rintro e w' ⟨rfl, rfl⟩)
  exact ⟨rfl, rfl, below_drew w⟩
set_option maxRecDepth 100000 in
set_option maxHeartbeats 2000000 in
theorem word1_no_d (g : Nat) (n : Int) (s : ByteArray) (w : World) (hc : w.cell? ⟨g, 1, none⟩ = some (.int .i64 n)) (b0 : 0 < s.size) (b1 : 1 < s.size) (b1i : (1 : Int) < (s.size : Int)) (e0 : ((s.size : Int) == 2) = true) (e1 : ((s[0].toNat : Int) == 114) = true) (h1 : decide ((48 : Int) ≤ (s[1].toNat : Int)) = true) (h2 : decide ((s[1].toNat : Int) ≤ (55 : Int)) = false) :
    Calls Tryd.prog 60 #[.pointer (some ⟨g, 0, none⟩), .int .i64 1, .string s] w fun e w' => e = wrongE n ∧ Below w.heap.size w w' := by
  have HC := Lib.hid hc
  clear hc
  go_enter Tryd.func60, Tryd.ntmps60
  go_wp2
  go_still_tail 21, (by kernel_rfl)
  change wpList _ _ _ _ _ w.drew
  go_wp2_with (go_at_call 48; refine (must_no g n w.drew HC.out).mono ?_; rintro e w' ⟨rfl, rfl⟩)
  exact ⟨rfl, rfl, below_drew w⟩
theorem cutPrefix_any (s p : ByteArray) (w : World) :
    Calls Tryd.prog 46 #[.string s, .string p] w fun e w' => e = .returned (.tuple #[.string ⟨(Lib.trimPrefix s.data.toList p.data.toList).toArray⟩, .bool (Lib.hasPrefix s.data.toList p.data.toList)]) ∧ w = w' :=
  (Tryd.strings_CutPrefix s p w).mono fun _ _ h => ⟨h.1, h.2.symm⟩
theorem cutAt_no (s : ByteArray) (w : World) (h : Lib.hasPrefix s.data.toList [64] = false) :
    Calls Tryd.prog 46 #[.string s, .string ⟨#[64]⟩] w fun e w' => e = .returned (.tuple #[.string s, .bool false]) ∧ w = w' := by
  refine (cutPrefix_any s ⟨#[64]⟩ w).mono ?_
  rintro e w' ⟨rfl, rfl⟩
  have h' : Lib.hasPrefix s.data.toList (⟨#[64]⟩ : ByteArray).data.toList = false := h
  refine ⟨?_, rfl⟩
  rw [h']
  unfold Lib.trimPrefix
  rw [h', if_neg (by simp), back]
theorem cutAt_yes (s : ByteArray) (l : Bs) (w : World) (h : s.data.toList = 64 :: l) :
    Calls Tryd.prog 46 #[.string s, .string ⟨#[64]⟩] w fun e w' => e = .returned (.tuple #[.string ⟨l.toArray⟩, .bool true]) ∧ w = w' := by
  refine (cutPrefix_any s ⟨#[64]⟩ w).mono ?_
  rintro e w' ⟨rfl, rfl⟩
  rw [h]
  exact ⟨rfl, rfl⟩
theorem isLabel_q (l : Bs) (w : World) (b : Bool) (hb : isLabelB l = b) (hs : l.length < 4294967281) :
    Calls Tryd.prog 49 #[.string ⟨l.toArray⟩] w fun e w' => e = .returned (.bool b) ∧ w' = w := by
  refine (isLabel_any ⟨l.toArray⟩ w hs).mono ?_
  rintro e w' ⟨rfl, rfl⟩
  exact ⟨by rw [← hb], rfl⟩
set_option maxRecDepth 100000 in
set_option maxHeartbeats 2000000 in
theorem word2_no_a (g : Nat) (n : Int) (s : ByteArray) (w : World) (hc : w.cell? ⟨g, 1, none⟩ = some (.int .i64 n)) (hp : Lib.hasPrefix s.data.toList [64] = false) :
    Calls Tryd.prog 60 #[.pointer (some ⟨g, 0, none⟩), .int .i64 2, .string s] w fun e w' => e = wrongE n ∧ Below w.heap.size w w' := by
  have HC := Lib.hid hc
  have HP := Lib.hid hp
  clear hc hp
  go_enter Tryd.func60, Tryd.ntmps60
  go_wp2_with (go_at_call 46; refine (cutAt_no _ _ HP.out).mono ?_; rintro e w' ⟨rfl, rfl⟩)
  go_still_tail 8, (by kernel_rfl)
  change wpList _ _ _ _ _ w.drew
  go_wp2_with (go_at_call 48; refine (must_no g n w.drew HC.out).mono ?_; rintro e w' ⟨rfl, rfl⟩)
  exact ⟨rfl, rfl, below_drew w⟩
set_option maxRecDepth 100000 in
set_option maxHeartbeats 2000000 in
theorem word2_yes (g : Nat) (n : Int) (s : ByteArray) (l : Bs) (w : World) (hc : w.cell? ⟨g, 1, none⟩ = some (.int .i64 n)) (hp : s.data.toList = 64 :: l) (hl : isLabelB l = true) (hs : l.length < 4294967281) :
    Calls Tryd.prog 60 #[.pointer (some ⟨g, 0, none⟩), .int .i64 2, .string s] w fun e w' => e = .returned (.tuple #[.int .i64 0, .string ⟨l.toArray⟩]) ∧ Below w.heap.size w w' := by
  have HC := Lib.hid hc
  have HP := Lib.hid hp
  have HL := Lib.hid hl
  clear hc hp hl
  go_enter Tryd.func60, Tryd.ntmps60
  go_wp2_with (go_at_call 46; refine (cutAt_yes _ l _ HP.out).mono ?_; rintro e w' ⟨rfl, rfl⟩)
  refine wp_region_still_tail 8 (by kernel_rfl) (by kernel_rfl) ?_
  simp only [List.take_succ_cons, List.take_zero, List.drop_succ_cons, List.drop_zero]
  still_step
  still_step
  still_step
  still_step
  still_step
  still_step
  still_call (isLabel_q l _ _ HL.out hs)
  still_step
  refine wpStill_nil ?_
  change wpList _ _ _ _ _ w.drew
  go_wp2_with (go_at_call 48; refine (must_yes _ _).mono ?_; rintro e w' ⟨rfl, rfl⟩)
  go_ret2
  exact ⟨rfl, below_drew w⟩
set_option maxRecDepth 100000 in
set_option maxHeartbeats 2000000 in
theorem word2_no_b (g : Nat) (n : Int) (s : ByteArray) (l : Bs) (w : World) (hc : w.cell? ⟨g, 1, none⟩ = some (.int .i64 n)) (hp : s.data.toList = 64 :: l) (hl : isLabelB l = false) (hs : l.length < 4294967281) :
    Calls Tryd.prog 60 #[.pointer (some ⟨g, 0, none⟩), .int .i64 2, .string s] w fun e w' => e = wrongE n ∧ Below w.heap.size w w' := by
  have HC := Lib.hid hc
  have HP := Lib.hid hp
  have HL := Lib.hid hl
  clear hc hp hl
  go_enter Tryd.func60, Tryd.ntmps60
  go_wp2_with (go_at_call 46; refine (cutAt_yes _ l _ HP.out).mono ?_; rintro e w' ⟨rfl, rfl⟩)
  refine wp_region_still_tail 8 (by kernel_rfl) (by kernel_rfl) ?_
  simp only [List.take_succ_cons, List.take_zero, List.drop_succ_cons, List.drop_zero]
  still_step
  still_step
  still_step
  still_step
  still_step
  still_step
  still_call (isLabel_q l _ _ HL.out hs)
  still_step
  refine wpStill_nil ?_
  change wpList _ _ _ _ _ w.drew
  go_wp2_with (go_at_call 48; refine (must_no g n w.drew HC.out).mono ?_; rintro e w' ⟨rfl, rfl⟩)
  exact ⟨rfl, rfl, below_drew w⟩
end Go.Proofs.YtcamimfepcoggaaDoor
