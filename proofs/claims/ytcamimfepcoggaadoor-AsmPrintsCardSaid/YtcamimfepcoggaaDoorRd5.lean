/- The walk of asm's reader's instruction. -/
import Derived.Test.YtcamimfepcoggaaDoorRd4
import Derived.Deep.AppendLies
import Derived.Deep.DrawnRows
import Derived.Deep.RegionHeld3
namespace Go.Proofs.YtcamimfepcoggaaDoor
open Go.RowKit
attribute [local go_sem ↓] Go.wp_at_zero Go.wp_at_succ
theorem split_any (s : ByteArray) (w0 : Bs) (ws : List Bs) (hsp : splitC 32 s.data.toList = w0 :: ws) (w : World) (hE : Env w) (hs : s.size < 4294967281) :
    Calls Tryd.prog 58 #[.string s, .string ⟨#[32]⟩] w fun e w' => e = .returned (.slice (some ⟨w.heap.size, 0, none⟩) (ws.length + 1) (ws.length + 1)) ∧ Below w.heap.size w w' ∧ w.heap.size < w'.heap.size ∧
      w'.cell? ⟨w.heap.size, 0, none⟩ = some (.string ⟨w0.toArray⟩) ∧ ∀ (j : Nat) (h : j < ws.length), w'.cell? ⟨w.heap.size, j + 1, none⟩ = some (.string ⟨ws[j].toArray⟩) := by
  obtain ⟨m, hm⟩ := hE.maxLen
  refine (Tryd.strings_Split s ⟨#[32]⟩ m w hs hm (Nat.le_refl 1)).mono ?_
  rintro e w' ⟨rfl, rfl⟩
  have hl := splitC_length 32 s
  rw [hsp] at hl
  rw [splitB_eq, hsp]
  have hb := heap_alloc_new w (.cells ((List.map Value.string (List.map (fun l : Bs => (⟨l.toArray⟩ : ByteArray)) (w0 :: ws))).toArray) 9)
  refine ⟨by rw [← hl]; rfl, (Below.refl _ _).alloc (Nat.le_refl _) _, by simp, ?_, ?_⟩
  · rw [Lib.cell_of_heap hb]; rfl
  · intro j h
    rw [Lib.cell_of_heap hb]
    simp [h]
theorem byname_eq {w0 : Bs} {op : Int} {ok : Bool} (h : byName w0 = (op, ok)) (w : World) :
    Calls Tryd.prog 59 #[.string ⟨w0.toArray⟩] w fun e w' => e = .returned (.tuple #[.int .i64 op, .bool ok]) ∧ Below w.heap.size w w' := by
  refine (byname_any ⟨w0.toArray⟩ w).mono ?_
  rintro e w' ⟨rfl, hb⟩
  refine ⟨?_, hb⟩
  rw [Lib.toList_data, h]
theorem operands_eq {op : Int} {m : Nat} (h : operands op = m) (w : World) (h1 : 1 ≤ op) (h2 : op ≤ 20) :
    Calls Tryd.prog 28 #[.int .i64 op] w fun e w' => e = .returned (.int .i64 m) ∧ Below w.heap.size w w' := by
  refine (operands_yes op w h1 h2).mono ?_
  rintro e w' ⟨rfl, hb⟩
  refine ⟨?_, hb⟩
  rw [(cnt3_operands op).1, h]
set_option maxRecDepth 100000 in
set_option maxHeartbeats 4000000 in
theorem ins_bad_op (g : Nat) (s : ByteArray) (n : Int) (w0 : Bs) (ws : List Bs) (w : World) (hE : Env w) (hc : w.cell? ⟨g, 1, none⟩ = some (.int .i64 n)) (hg : g < w.heap.size) (hs : s.size < 4294967281)
    (hsp : splitC 32 s.data.toList = w0 :: ws) (op : Int) (hbn : byName w0 = (op, false)) :
    Calls Tryd.prog 50 #[.pointer (some ⟨g, 0, none⟩), .string s] w fun e w' => e = wrongE n ∧ Below w.heap.size w w' := by
  have HG := Lib.hid hg
  have HC := Lib.hid hc
  clear hg hc
  have hl : (0 : Int) < (ws.length : Int) + 1 := by omega
  go_enter Tryd.func50, Tryd.ntmps50
  go_wp2_with (first
    | (go_at_call 58; refine (split_any s w0 ws hsp _ hE hs).mono ?_; rintro e w1 ⟨rfl, hb1, hz1, hc0, hcw⟩; have HB1 := Lib.hid hb1; have HCW := Lib.hid hcw; clear hb1 hcw)
    | (go_at_call 59; refine (byname_eq hbn _).mono ?_; rintro e w2 ⟨rfl, hb⟩; have HB2 := Lib.hid hb; clear hb))
  refine wp_region_any (by kernel_rfl) ?_
  change wpAny _ _ _ _ _ _ _ (World.drew _)
  refine wpAny_take (i := 0) (v := ?v0) rfl (by kernel_rfl) (by kernel_rfl) (by kernel_rfl) (fun _ _ _ h => h) (Or.inl ⟨by kernel_rfl, ?h0⟩) ?_
  case h0 => (intro w; go_simp; try with_reducible rfl)
  refine wpAny_take (i := 1) (v := ?v1) rfl (by kernel_rfl) (by kernel_rfl) (by kernel_rfl) (fun _ _ _ h => h) (Or.inl ⟨by kernel_rfl, ?h1⟩) ?_
  case h1 => (intro w; go_simp; try with_reducible rfl)
  refine wpAny_take (i := 2) (v := ?v2) rfl (by kernel_rfl) (by kernel_rfl) (by kernel_rfl) (fun _ _ _ h => h) (Or.inl ⟨by kernel_rfl, ?h2⟩) ?_
  case h2 => (intro w; go_simp; try with_reducible rfl)
  refine wpAny_take (i := 3) (v := ?v3) rfl (by kernel_rfl) (by kernel_rfl) (by kernel_rfl) (fun _ _ _ h => h) (Or.inl ⟨by kernel_rfl, ?h3⟩) ?_
  case h3 => (intro w; go_simp; try with_reducible rfl)
  refine wpAny_take (i := 4) (v := ?v4) rfl (by kernel_rfl) (by kernel_rfl) (by kernel_rfl) (fun _ _ _ h => h) (Or.inl ⟨by kernel_rfl, ?h4⟩) ?_
  case h4 => (intro w; go_simp; try with_reducible rfl)
  refine wpAny_take (i := 5) (v := undef) rfl (by kernel_rfl) (by kernel_rfl) (by kernel_rfl) (fun _ _ _ h => h) (Or.inr ⟨by kernel_rfl, rfl⟩) ?_
  refine wpAny_take (i := 6) (v := undef) rfl (by kernel_rfl) (by kernel_rfl) (by kernel_rfl) (fun _ _ _ h => h) (Or.inr ⟨by kernel_rfl, rfl⟩) ?_
  refine wpAny_take (i := 7) (v := undef) rfl (by kernel_rfl) (by kernel_rfl) (by kernel_rfl) (fun _ _ _ h => h) (Or.inr ⟨by kernel_rfl, rfl⟩) ?_
  refine wpAny_take (i := 8) (v := undef) rfl (by kernel_rfl) (by kernel_rfl) (by kernel_rfl) (fun _ _ _ h => h) (Or.inr ⟨by kernel_rfl, rfl⟩) ?_
  refine wpAny_take (i := 9) (v := undef) rfl (by kernel_rfl) (by kernel_rfl) (by kernel_rfl) (fun _ _ _ h => h) (Or.inr ⟨by kernel_rfl, rfl⟩) ?_
  refine wpAny_take (i := 10) (v := undef) rfl (by kernel_rfl) (by kernel_rfl) (by kernel_rfl) (fun _ _ _ h => h) (Or.inr ⟨by kernel_rfl, rfl⟩) ?_
  refine wpAny_take (i := 11) (v := ?v11) rfl (by kernel_rfl) (by kernel_rfl) (by kernel_rfl) (fun _ _ _ h => h) (Or.inl ⟨by kernel_rfl, ?h11⟩) ?_
  case h11 => (intro w; go_simp; try with_reducible rfl)
  refine wpAny_take (i := 12) (v := ?v12) rfl (by kernel_rfl) (by kernel_rfl) (by kernel_rfl) (fun _ _ _ h => h) (Or.inl ⟨by kernel_rfl, ?h12⟩) ?_
  case h12 => (intro w; go_simp; try with_reducible rfl)
  refine wpAny_take (i := 13) (v := undef) rfl (by kernel_rfl) (by kernel_rfl) (by kernel_rfl) (fun _ _ _ h => h) (Or.inr ⟨by kernel_rfl, rfl⟩) ?_
  refine wpAny_take (i := 14) (v := undef) rfl (by kernel_rfl) (by kernel_rfl) (by kernel_rfl) (fun _ _ _ h => h) (Or.inr ⟨by kernel_rfl, rfl⟩) ?_
  refine wpAny_take (i := 15) (v := undef) rfl (by kernel_rfl) (by kernel_rfl) (by kernel_rfl) (fun _ _ _ h => h) (Or.inr ⟨by kernel_rfl, rfl⟩) ?_
  refine wpAny_take (i := 16) (v := undef) rfl (by kernel_rfl) (by kernel_rfl) (by kernel_rfl) (fun _ _ _ h => h) (Or.inr ⟨by kernel_rfl, rfl⟩) ?_
  refine wpAny_take (i := 17) (v := undef) rfl (by kernel_rfl) (by kernel_rfl) (by kernel_rfl) (fun _ _ _ h => h) (Or.inr ⟨by kernel_rfl, rfl⟩) ?_
  refine wpAny_take (i := 18) (v := undef) rfl (by kernel_rfl) (by kernel_rfl) (by kernel_rfl) (fun _ _ _ h => h) (Or.inr ⟨by kernel_rfl, rfl⟩) ?_
  refine wpAny_take (i := 19) (v := ?v19) rfl (by kernel_rfl) (by kernel_rfl) (by kernel_rfl) (fun _ _ _ h => h) (Or.inl ⟨by kernel_rfl, ?h19⟩) ?_
  case h19 => (intro w; go_simp; try with_reducible rfl)
  refine wpAny_ready (rs := [20]) (by kernel_rfl) (by simp) ?_
  refine AllReady.cons rfl (fun K hK => ?_) AllReady.nil
  go_simp
  refine (must_no g n w2.drew (((xt HB1.out HB2.out).drew.cell (p := ⟨g, 1, none⟩) HG.out).trans HC.out)).mono ?_
  rintro e w' ⟨rfl, rfl⟩
  dsimp only
  refine bodyPost_panic ?_ ?_
  · rfl
  · exact ⟨rfl, (xt HB1.out HB2.out).drew⟩
set_option maxRecDepth 100000 in
set_option maxHeartbeats 4000000 in
theorem ins_bad_len (g : Nat) (s : ByteArray) (n : Int) (w0 : Bs) (ws : List Bs) (w : World) (hE : Env w) (hc : w.cell? ⟨g, 1, none⟩ = some (.int .i64 n)) (hg : g < w.heap.size) (hs : s.size < 4294967281)
    (hsp : splitC 32 s.data.toList = w0 :: ws) (op : Int) (hbn : byName w0 = (op, true)) (m : Nat) (hm : operands op = m) (hk : ws.length ≠ m) :
    Calls Tryd.prog 50 #[.pointer (some ⟨g, 0, none⟩), .string s] w fun e w' => e = wrongE n ∧ Below w.heap.size w w' := by
  obtain ⟨hm3, HY⟩ : m ≤ 3 ∧ Hid (1 ≤ op ∧ op ≤ 20) := ⟨hm ▸ (cnt3_operands op).2, by have := byName_bounds w0 (by rw [hbn]); rw [hbn] at this; exact this⟩
  have hwr : IntKind.i64.wrap (1 + (m : Int)) = 1 + (m : Int) := by rw [IntKind.wrap_i64]; omega
  have hk' : ((ws.length : Int) + 1 == 1 + (m : Int)) = false := by
    rw [beq_eq_false_iff_ne]
    intro h
    have h' : (ws.length : Int) + 1 = 1 + (m : Int) := h
    omega
  have HG := Lib.hid hg
  have HC := Lib.hid hc
  clear hg hc
  have hl : (0 : Int) < (ws.length : Int) + 1 := by omega
  go_enter Tryd.func50, Tryd.ntmps50
  go_wp2_with (first
    | (go_at_call 58; refine (split_any s w0 ws hsp _ hE hs).mono ?_; rintro e w1 ⟨rfl, hb1, hz1, hc0, hcw⟩; have HB1 := Lib.hid hb1; have HCW := Lib.hid hcw; clear hb1 hcw)
    | (go_at_call 59; refine (byname_eq hbn _).mono ?_; rintro e w2 ⟨rfl, hb⟩; have HB2 := Lib.hid hb; clear hb))
  refine wp_region_any (by kernel_rfl) ?_
  change wpAny _ _ _ _ _ _ _ (World.drew _)
  refine wpAny_take (i := 0) (v := ?v0) rfl (by kernel_rfl) (by kernel_rfl) (by kernel_rfl) (fun _ _ _ h => h) (Or.inl ⟨by kernel_rfl, ?h0⟩) ?_
  case h0 => (intro w; go_simp; try with_reducible rfl)
  refine wpAny_take (i := 1) (v := ?v1) rfl (by kernel_rfl) (by kernel_rfl) (by kernel_rfl) (fun _ _ _ h => h) (Or.inl ⟨by kernel_rfl, ?h1⟩) ?_
  case h1 => (intro w; go_simp; try with_reducible rfl)
  refine wpAny_take (i := 2) (v := ?v2) rfl (by kernel_rfl) (by kernel_rfl) (by kernel_rfl) (fun _ _ _ h => h) (Or.inl ⟨by kernel_rfl, ?h2⟩) ?_
  case h2 => (intro w; go_simp; try with_reducible rfl)
  refine wpAny_take (i := 3) (v := ?v3) rfl (by kernel_rfl) (by kernel_rfl) (by kernel_rfl) (fun _ _ _ h => h) (Or.inl ⟨by kernel_rfl, ?h3⟩) ?_
  case h3 => (intro w; go_simp; try with_reducible rfl)
  refine wpAny_take (i := 4) (v := ?v4) rfl (by kernel_rfl) (by kernel_rfl) (by kernel_rfl) (fun _ _ _ h => h) (Or.inl ⟨by kernel_rfl, ?h4⟩) ?_
  case h4 => (intro w; go_simp; try with_reducible rfl)
  refine wpAny_take (i := 5) (v := ?v5) rfl (by kernel_rfl) (by kernel_rfl) (by kernel_rfl) (fun _ _ _ h => h) (Or.inl ⟨by kernel_rfl, ?h5⟩) ?_
  case h5 => (intro w; go_simp; try with_reducible rfl)
  refine wpAny_take (i := 6) (v := ?v6) rfl (by kernel_rfl) (by kernel_rfl) (by kernel_rfl) (fun _ _ _ h => h) (Or.inl ⟨by kernel_rfl, ?h6⟩) ?_
  case h6 => (intro w; go_simp; try with_reducible rfl)
  refine wpAny_take (i := 7) (v := ?v7) rfl (by kernel_rfl) (by kernel_rfl) (by kernel_rfl) (fun _ _ _ h => h) (Or.inl ⟨by kernel_rfl, ?h7⟩) ?_
  case h7 => (intro w; go_simp; try with_reducible rfl)
  refine wpAny_ready (rs := [8]) (by kernel_rfl) (by simp) ?_
  refine AllReady.cons rfl (fun K hK => ?_) AllReady.nil
  go_simp
  refine (operands_eq hm w2.drew HY.out.1 HY.out.2).mono ?_
  rintro e w3 ⟨rfl, hb⟩
  have HB3 := Lib.hid hb
  clear hb
  refine hK _ _ ?_
  clear hK K
  refine wpAny_take (i := 9) (v := ?v9) rfl (by kernel_rfl) (by kernel_rfl) (by kernel_rfl) (fun _ _ _ h => h) (Or.inl ⟨by kernel_rfl, ?h9⟩) ?_
  case h9 => (intro w; go_simp; try with_reducible rfl)
  refine wpAny_take (i := 10) (v := ?v10) rfl (by kernel_rfl) (by kernel_rfl) (by kernel_rfl) (fun _ _ _ h => h) (Or.inl ⟨by kernel_rfl, ?h10⟩) ?_
  case h10 => (intro w; go_simp; try with_reducible rfl)
  refine wpAny_take (i := 11) (v := ?v11) rfl (by kernel_rfl) (by kernel_rfl) (by kernel_rfl) (fun _ _ _ h => h) (Or.inl ⟨by kernel_rfl, ?h11⟩) ?_
  case h11 => (intro w; go_simp; try with_reducible rfl)
  refine wpAny_take (i := 12) (v := ?v12) rfl (by kernel_rfl) (by kernel_rfl) (by kernel_rfl) (fun _ _ _ h => h) (Or.inl ⟨by kernel_rfl, ?h12⟩) ?_
  case h12 => (intro w; go_simp; try with_reducible rfl)
  refine wpAny_take (i := 13) (v := undef) rfl (by kernel_rfl) (by kernel_rfl) (by kernel_rfl) (fun _ _ _ h => h) (Or.inr ⟨by kernel_rfl, rfl⟩) ?_
  refine wpAny_take (i := 14) (v := undef) rfl (by kernel_rfl) (by kernel_rfl) (by kernel_rfl) (fun _ _ _ h => h) (Or.inr ⟨by kernel_rfl, rfl⟩) ?_
  refine wpAny_take (i := 15) (v := undef) rfl (by kernel_rfl) (by kernel_rfl) (by kernel_rfl) (fun _ _ _ h => h) (Or.inr ⟨by kernel_rfl, rfl⟩) ?_
  refine wpAny_take (i := 16) (v := undef) rfl (by kernel_rfl) (by kernel_rfl) (by kernel_rfl) (fun _ _ _ h => h) (Or.inr ⟨by kernel_rfl, rfl⟩) ?_
  refine wpAny_take (i := 17) (v := undef) rfl (by kernel_rfl) (by kernel_rfl) (by kernel_rfl) (fun _ _ _ h => h) (Or.inr ⟨by kernel_rfl, rfl⟩) ?_
  refine wpAny_take (i := 18) (v := undef) rfl (by kernel_rfl) (by kernel_rfl) (by kernel_rfl) (fun _ _ _ h => h) (Or.inr ⟨by kernel_rfl, rfl⟩) ?_
  refine wpAny_take (i := 19) (v := ?v19) rfl (by kernel_rfl) (by kernel_rfl) (by kernel_rfl) (fun _ _ _ h => h) (Or.inl ⟨by kernel_rfl, ?h19⟩) ?_
  case h19 => (intro w; go_simp; try with_reducible rfl)
  refine wpAny_ready (rs := [20]) (by kernel_rfl) (by simp) ?_
  refine AllReady.cons rfl (fun K hK => ?_) AllReady.nil
  go_simp
  refine (must_no g n w3 (((xt (xt HB1.out HB2.out).drew HB3.out).cell (p := ⟨g, 1, none⟩) HG.out).trans HC.out)).mono ?_
  rintro e w' ⟨rfl, rfl⟩
  dsimp only
  refine bodyPost_panic ?_ ?_
  · rfl
  · exact ⟨rfl, (xt (xt HB1.out HB2.out).drew HB3.out)⟩
set_option maxRecDepth 100000 in
set_option maxHeartbeats 4000000 in
theorem ins_many (g : Nat) (s : ByteArray) (n : Int) (w0 : Bs) (ws : List Bs) (w : World) (hE : Env w) (hc : w.cell? ⟨g, 1, none⟩ = some (.int .i64 n)) (hg : g < w.heap.size) (hs : s.size < 4294967281)
    (hsp : splitC 32 s.data.toList = w0 :: ws) (op : Int) (hbn : byName w0 = (op, true)) (m : Nat) (hk : ws.length = m) (hm : operands op = m) (d : Option Addr) (k cap : Nat) (hl3 : w.cell? ⟨g, 3, none⟩ = some (.slice d k cap)) (hmany : decide ((k : Int) < 512) = false) :
    Calls Tryd.prog 50 #[.pointer (some ⟨g, 0, none⟩), .string s] w fun e w' => e = wrongE n ∧ Below w.heap.size w w' := by
  obtain ⟨hm3, HY⟩ : m ≤ 3 ∧ Hid (1 ≤ op ∧ op ≤ 20) := ⟨hm ▸ (cnt3_operands op).2, by have := byName_bounds w0 (by rw [hbn]); rw [hbn] at this; exact this⟩
  have hwr : IntKind.i64.wrap (1 + (m : Int)) = 1 + (m : Int) := by rw [IntKind.wrap_i64]; omega
  have hk' : ((m : Int) + 1 == 1 + (m : Int)) = true := by
    rw [beq_iff_eq]
    have h' : (m : Int) + 1 = 1 + (m : Int) := by omega
    exact h'
  have HL := Lib.hid hl3
  clear hl3
  have HG := Lib.hid hg
  have HC := Lib.hid hc
  clear hg hc
  have hl : (0 : Int) < (ws.length : Int) + 1 := by omega
  go_enter Tryd.func50, Tryd.ntmps50
  go_wp2_with (first
    | (go_at_call 58; refine (split_any s w0 ws hsp _ hE hs).mono ?_; rintro e w1 ⟨rfl, hb1, hz1, hc0, hcw⟩; have HB1 := Lib.hid hb1; have HCW := Lib.hid hcw; clear hb1 hcw)
    | (go_at_call 59; refine (byname_eq hbn _).mono ?_; rintro e w2 ⟨rfl, hb⟩; have HB2 := Lib.hid hb; clear hb))
  refine wp_region_any (by kernel_rfl) ?_
  change wpAny _ _ _ _ _ _ _ (World.drew _)
  refine wpAny_take (i := 0) (v := ?v0) rfl (by kernel_rfl) (by kernel_rfl) (by kernel_rfl) (fun _ _ _ h => h) (Or.inl ⟨by kernel_rfl, ?h0⟩) ?_
  case h0 => (intro w; go_simp; try with_reducible rfl)
  refine wpAny_take (i := 1) (v := ?v1) rfl (by kernel_rfl) (by kernel_rfl) (by kernel_rfl) (fun _ _ _ h => h) (Or.inl ⟨by kernel_rfl, ?h1⟩) ?_
  case h1 => (intro w; go_simp; try with_reducible rfl)
  refine wpAny_take (i := 2) (v := ?v2) rfl (by kernel_rfl) (by kernel_rfl) (by kernel_rfl) (fun _ _ _ h => h) (Or.inl ⟨by kernel_rfl, ?h2⟩) ?_
  case h2 => (intro w; go_simp; try with_reducible rfl)
  refine wpAny_take (i := 3) (v := ?v3) rfl (by kernel_rfl) (by kernel_rfl) (by kernel_rfl) (fun _ _ _ h => h) (Or.inl ⟨by kernel_rfl, ?h3⟩) ?_
  case h3 => (intro w; go_simp; try with_reducible rfl)
  refine wpAny_take (i := 4) (v := ?v4) rfl (by kernel_rfl) (by kernel_rfl) (by kernel_rfl) (fun _ _ _ h => h) (Or.inl ⟨by kernel_rfl, ?h4⟩) ?_
  case h4 => (intro w; go_simp; try with_reducible rfl)
  refine wpAny_take (i := 5) (v := ?v5) rfl (by kernel_rfl) (by kernel_rfl) (by kernel_rfl) (fun _ _ _ h => h) (Or.inl ⟨by kernel_rfl, ?h5⟩) ?_
  case h5 => (intro w; go_simp; try with_reducible rfl)
  refine wpAny_take (i := 6) (v := ?v6) rfl (by kernel_rfl) (by kernel_rfl) (by kernel_rfl) (fun _ _ _ h => h) (Or.inl ⟨by kernel_rfl, ?h6⟩) ?_
  case h6 => (intro w; go_simp; try with_reducible rfl)
  refine wpAny_take (i := 7) (v := ?v7) rfl (by kernel_rfl) (by kernel_rfl) (by kernel_rfl) (fun _ _ _ h => h) (Or.inl ⟨by kernel_rfl, ?h7⟩) ?_
  case h7 => (intro w; go_simp; try with_reducible rfl)
  refine wpAny_ready (rs := [8]) (by kernel_rfl) (by simp) ?_
  refine AllReady.cons rfl (fun K hK => ?_) AllReady.nil
  go_simp
  refine (operands_eq hm w2.drew HY.out.1 HY.out.2).mono ?_
  rintro e w3 ⟨rfl, hb⟩
  have HB3 := Lib.hid hb
  clear hb
  refine hK _ _ ?_
  clear hK K
  have c3 : w3.cell? ⟨g, 3, none⟩ = some (.slice d k cap) := ((xt (xt HB1.out HB2.out).drew HB3.out).cell (p := ⟨g, 3, none⟩) HG.out).trans HL.out
  refine wpAny_take (i := 9) (v := ?v9) rfl (by kernel_rfl) (by kernel_rfl) (by kernel_rfl) (fun _ _ _ h => h) (Or.inl ⟨by kernel_rfl, ?h9⟩) ?_
  case h9 => (intro w; go_simp; try with_reducible rfl)
  refine wpAny_take (i := 10) (v := ?v10) rfl (by kernel_rfl) (by kernel_rfl) (by kernel_rfl) (fun _ _ _ h => h) (Or.inl ⟨by kernel_rfl, ?h10⟩) ?_
  case h10 => (intro w; go_simp; try with_reducible rfl)
  refine wpAny_take (i := 11) (v := ?v11) rfl (by kernel_rfl) (by kernel_rfl) (by kernel_rfl) (fun _ _ _ h => h) (Or.inl ⟨by kernel_rfl, ?h11⟩) ?_
  case h11 => (intro w; go_simp; try with_reducible rfl)
  refine wpAny_take (i := 12) (v := ?v12) rfl (by kernel_rfl) (by kernel_rfl) (by kernel_rfl) (fun _ _ _ h => h) (Or.inl ⟨by kernel_rfl, ?h12⟩) ?_
  case h12 => (intro w; go_simp; try with_reducible rfl)
  refine wpAny_take (i := 13) (v := ?v13) rfl (by kernel_rfl) (by kernel_rfl) (by kernel_rfl) (fun _ _ _ h => h) (Or.inl ⟨by kernel_rfl, ?h13⟩) ?_
  case h13 => (intro w; go_simp; try with_reducible rfl)
  refine wpAny_take (i := 14) (v := ?v14) rfl (by kernel_rfl) (by kernel_rfl) (by kernel_rfl) (fun _ _ _ h => h) (Or.inl ⟨by kernel_rfl, ?h14⟩) ?_
  case h14 => (intro w; go_simp; try with_reducible rfl)
  refine wpAny_take (i := 15) (v := ?v15) rfl (by kernel_rfl) (by kernel_rfl) (by kernel_rfl) (fun _ _ _ h => h) (Or.inl ⟨by kernel_rfl, ?h15⟩) ?_
  case h15 => (intro w; go_simp; try with_reducible rfl)
  refine wpAny_ready (rs := [16]) (by kernel_rfl) (by simp) ?_
  refine AllReady.cons rfl (fun K hK => ?_) AllReady.nil
  go_simp
  refine hK _ _ ?_
  clear hK K
  refine wpAny_take (i := 17) (v := ?v17) rfl (by kernel_rfl) (by kernel_rfl) (by kernel_rfl) (fun _ _ _ h => h) (Or.inl ⟨by kernel_rfl, ?h17⟩) ?_
  case h17 => (intro w; go_simp; try with_reducible rfl)
  refine wpAny_take (i := 18) (v := ?v18) rfl (by kernel_rfl) (by kernel_rfl) (by kernel_rfl) (fun _ _ _ h => h) (Or.inl ⟨by kernel_rfl, ?h18⟩) ?_
  case h18 => (intro w; go_simp; try with_reducible rfl)
  refine wpAny_take (i := 19) (v := ?v19) rfl (by kernel_rfl) (by kernel_rfl) (by kernel_rfl) (fun _ _ _ h => h) (Or.inl ⟨by kernel_rfl, ?h19⟩) ?_
  case h19 => (intro w; go_simp; try with_reducible rfl)
  refine wpAny_ready (rs := [20]) (by kernel_rfl) (by simp) ?_
  refine AllReady.cons rfl (fun K hK => ?_) AllReady.nil
  go_simp
  refine (must_no g n w3 (((xt (xt HB1.out HB2.out).drew HB3.out).cell (p := ⟨g, 1, none⟩) HG.out).trans HC.out)).mono ?_
  rintro e w' ⟨rfl, rfl⟩
  dsimp only
  refine bodyPost_panic ?_ ?_
  · rfl
  · exact ⟨rfl, (xt (xt HB1.out HB2.out).drew HB3.out)⟩
end Go.Proofs.YtcamimfepcoggaaDoor
