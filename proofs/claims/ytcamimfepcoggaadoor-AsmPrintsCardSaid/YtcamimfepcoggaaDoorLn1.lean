/- The walks of asm.sorts and asm.Line. -/
import Derived.Test.YtcamimfepcoggaaDoorIn4
import Derived.Lib.AppendIntMem
import Derived.Lib.ItoaLen
namespace Go.Proofs.YtcamimfepcoggaaDoor
open Go.RowKit
/-- What of the library's variables stands in memory. -/
structure Env (w : World) : Prop where
  size : 8 ≤ w.heap.size
  maxLen : ∃ m, w.cell? ⟨3, 0, none⟩ = some (.int .i64 m)
  tab : Lib.TabIs Tryd.prog w "internal/strconv.uint64pow10" .u64 Lib.pow10Tab
  syn : ∃ ev, w.cell? ⟨4, 0, none⟩ = some ev ∧ (ev = .nilIface ∨ ∃ te pe, ev = .iface te pe)
  rng : ∃ ev, w.cell? ⟨5, 0, none⟩ = some ev ∧ (ev = .nilIface ∨ ∃ te pe, ev = .iface te pe)
theorem Env.on {w w' : World} (h : Env w) (hb : Below w.heap.size w w') : Env w' where
  size := Nat.le_trans h.size hb.size
  maxLen := by rw [hb.cell (p := ⟨3, 0, none⟩) (by have := h.size; show 3 < _; omega)]; exact h.maxLen
  tab := (Lib.tabBelow_of_tabIs h.tab) w' hb
  syn := by rw [hb.cell (p := ⟨4, 0, none⟩) (by have := h.size; show 4 < _; omega)]; exact h.syn
  rng := by rw [hb.cell (p := ⟨5, 0, none⟩) (by have := h.size; show 5 < _; omega)]; exact h.rng
def sortsOf (op : Int) : Int × Int × Int :=
  if op = 8 then (2, 0, 0) else if op = 9 then (1, 2, 0) else if op = 1 ∨ op = 11 then (1, 0, 0) else if op = 13 then (1, 1, 0) else if op = 14 then (1, 0, 1) else (1, 1, 1)
theorem sorts_any (op : Int) (w : World) :
    Calls Tryd.prog 27 #[.int .i64 op] w fun e w' => e = .returned (.agg #[.int .i64 (sortsOf op).1, .int .i64 (sortsOf op).2.1, .int .i64 (sortsOf op).2.2]) ∧ Below w.heap.size w w' := by
  unfold sortsOf
  by_cases h8 : op = 8
  · subst h8
    go_enter Tryd.func27, Tryd.ntmps27
    go_wp2
    exact bodyPost_ret (v := .agg #[.int .i64 2, .int .i64 0, .int .i64 0]) (by simp [results, Tryd.results27, go_sem]) rfl ⟨rfl, (Below.refl _ _).alloc (Nat.le_refl _) _⟩
  by_cases h9 : op = 9
  · subst h9
    go_enter Tryd.func27, Tryd.ntmps27
    go_wp2
    exact bodyPost_ret (v := .agg #[.int .i64 1, .int .i64 2, .int .i64 0]) (by simp [results, Tryd.results27, go_sem]) rfl ⟨rfl, (Below.refl _ _).alloc (Nat.le_refl _) _⟩
  by_cases h1 : op = 1
  · subst h1
    go_enter Tryd.func27, Tryd.ntmps27
    go_wp2
    exact bodyPost_ret (v := .agg #[.int .i64 1, .int .i64 0, .int .i64 0]) (by simp [results, Tryd.results27, go_sem]) rfl ⟨rfl, (Below.refl _ _).alloc (Nat.le_refl _) _⟩
  by_cases h11 : op = 11
  · subst h11
    go_enter Tryd.func27, Tryd.ntmps27
    go_wp2
    exact bodyPost_ret (v := .agg #[.int .i64 1, .int .i64 0, .int .i64 0]) (by simp [results, Tryd.results27, go_sem]) rfl ⟨rfl, (Below.refl _ _).alloc (Nat.le_refl _) _⟩
  by_cases h13 : op = 13
  · subst h13
    go_enter Tryd.func27, Tryd.ntmps27
    go_wp2
    exact bodyPost_ret (v := .agg #[.int .i64 1, .int .i64 1, .int .i64 0]) (by simp [results, Tryd.results27, go_sem]) rfl ⟨rfl, (Below.refl _ _).alloc (Nat.le_refl _) _⟩
  by_cases h14 : op = 14
  · subst h14
    go_enter Tryd.func27, Tryd.ntmps27
    go_wp2
    exact bodyPost_ret (v := .agg #[.int .i64 1, .int .i64 0, .int .i64 1]) (by simp [results, Tryd.results27, go_sem]) rfl ⟨rfl, (Below.refl _ _).alloc (Nat.le_refl _) _⟩
  rw [if_neg h8, if_neg h9, if_neg (by omega), if_neg h13, if_neg h14]
  go_enter Tryd.func27, Tryd.ntmps27
  go_wp2
  exact bodyPost_ret (v := .agg #[.int .i64 1, .int .i64 1, .int .i64 1]) (by simp [results, Tryd.results27, go_sem]) rfl ⟨rfl, (Below.refl _ _).alloc (Nat.le_refl _) _⟩
theorem line_no (op a b c : Int) (w : World) (h : insOk (op, a, b, c) = false) :
    Calls Tryd.prog 11 #[insV op a b c] w fun e w' => e = .returned (.tuple #[.string ⟨#[]⟩, .int .i64 100]) ∧ Below w.heap.size w w' := by
  have he : errOf (insOk (op, a, b, c)) = 100 := by rw [h]; rfl
  clear h
  go_enter Tryd.func11, Tryd.ntmps11
  go_wp2_with (go_at_call 18; refine (check_any _ _ _ _ _).mono ?_; rintro e w1 ⟨rfl, hb⟩; have HB := Lib.hid hb; clear hb)
  go_ret2
  exact ⟨rfl, xt ((Below.refl _ _).alloc (Nat.le_refl _) _) HB.out⟩
theorem itoa_any (n : Int) (h0 : -9223372036854775808 ≤ n) (h1 : n ≤ 9223372036854775807) (w : World) (hE : Env w) :
    Calls Tryd.prog 20 #[.int .i64 n] w fun e w' => e = .returned (.string ⟨(Lib.itoa n).toArray⟩) ∧ Below w.heap.size w w' := by
  refine (Tryd.strconv_Itoa n h0 h1 w hE.tab).mono ?_
  rintro e w' ⟨rfl, k, os, rfl⟩
  exact ⟨rfl, Lib.below_grow _ _ (Nat.le_refl _) _ _⟩
def markOf (s : Int) : Bs := if s = 0 then [32] else if s = 1 then [32, 114] else [32, 64, 76]
def partOf (s n : Int) : Bs := markOf s ++ Lib.itoa n
/-- An instruction's line: what stands of it behind k rounds. -/
def lineK (i : Ins) : Nat → Bs
  | 0 => (formOf i.1).1
  | 1 => (formOf i.1).1 ++ partOf (sortsOf i.1).1 i.2.1
  | 2 => (formOf i.1).1 ++ partOf (sortsOf i.1).1 i.2.1 ++ partOf (sortsOf i.1).2.1 i.2.2.1
  | _ => (formOf i.1).1 ++ partOf (sortsOf i.1).1 i.2.1 ++ partOf (sortsOf i.1).2.1 i.2.2.1 ++ partOf (sortsOf i.1).2.2 i.2.2.2
theorem idx63_0 (x y z : Value) (w : World) : (Instr.index 63 (.agg #[x, y, z]) (.int .i64 0)).run Tryd.prog w = .ok x w := by kernel_rfl
theorem idx63_1 (x y z : Value) (w : World) : (Instr.index 63 (.agg #[x, y, z]) (.int .i64 1)).run Tryd.prog w = .ok y w := by kernel_rfl
theorem idx63_2 (x y z : Value) (w : World) : (Instr.index 63 (.agg #[x, y, z]) (.int .i64 2)).run Tryd.prog w = .ok z w := by kernel_rfl
def markB (s : Int) : ByteArray := ⟨(markOf s).toArray⟩
theorem idx66_0 (w : World) : (Instr.index 66 (.agg #[.string ⟨#[32]⟩, .string ⟨#[32, 114]⟩, .string ⟨#[32, 64, 76]⟩]) (.int .i64 0)).run Tryd.prog w = .ok (.string (markB 0)) w := by kernel_rfl
theorem idx66_1 (w : World) : (Instr.index 66 (.agg #[.string ⟨#[32]⟩, .string ⟨#[32, 114]⟩, .string ⟨#[32, 64, 76]⟩]) (.int .i64 1)).run Tryd.prog w = .ok (.string (markB 1)) w := by kernel_rfl
theorem idx66_2 (w : World) : (Instr.index 66 (.agg #[.string ⟨#[32]⟩, .string ⟨#[32, 114]⟩, .string ⟨#[32, 64, 76]⟩]) (.int .i64 2)).run Tryd.prog w = .ok (.string (markB 2)) w := by kernel_rfl
theorem idx66 (s : Int) (h : s = 0 ∨ s = 1 ∨ s = 2) (w : World) : (Instr.index 66 (.agg #[.string ⟨#[32]⟩, .string ⟨#[32, 114]⟩, .string ⟨#[32, 64, 76]⟩]) (.int .i64 s)).run Tryd.prog w = .ok (.string (markB s)) w := by
  rcases h with rfl | rfl | rfl
  · exact idx66_0 w
  · exact idx66_1 w
  · exact idx66_2 w
theorem sorts_012 (op : Int) : ((sortsOf op).1 = 0 ∨ (sortsOf op).1 = 1 ∨ (sortsOf op).1 = 2) ∧ ((sortsOf op).2.1 = 0 ∨ (sortsOf op).2.1 = 1 ∨ (sortsOf op).2.1 = 2) ∧ ((sortsOf op).2.2 = 0 ∨ (sortsOf op).2.2 = 1 ∨ (sortsOf op).2.2 = 2) := by
  unfold sortsOf
  repeat' split
  all_goals simp
theorem app_data (x y : ByteArray) : (x ++ y).data.toList = x.data.toList ++ y.data.toList := by simp
theorem app_size (x y : ByteArray) : (x ++ y).size = x.size + y.size := by simp
theorem mk_size (l : List UInt8) : (⟨l.toArray⟩ : ByteArray).size = l.length := by rfl
theorem back (x : ByteArray) : (⟨x.data.toList.toArray⟩ : ByteArray) = x := by simp
theorem ret_line {x : ByteArray} {l : Bs} {n : Int} (h : x.data.toList = l) : Ending.returned (.tuple #[.string x, .int .i64 n]) = .returned (.tuple #[.string ⟨l.toArray⟩, .int .i64 n]) := by rw [← h, back]
theorem mark_size (s : Int) : (markB s).size ≤ 3 := by
  unfold markB markOf
  repeat' split
  all_goals decide
theorem fName_size (op : Int) (h1 : 1 ≤ op) (h2 : op ≤ 20) : (fName op).size ≤ 100 := by
  obtain ⟨n, rfl⟩ := Int.eq_ofNat_of_zero_le (show 0 ≤ op by omega)
  have : n = 1 ∨ n = 2 ∨ n = 3 ∨ n = 4 ∨ n = 5 ∨ n = 6 ∨ n = 7 ∨ n = 8 ∨ n = 9 ∨ n = 10 ∨ n = 11 ∨ n = 12 ∨ n = 13 ∨ n = 14 ∨ n = 15 ∨ n = 16 ∨ n = 17 ∨ n = 18 ∨ n = 19 ∨ n = 20 := by omega
  rcases this with rfl | rfl | rfl | rfl | rfl | rfl | rfl | rfl | rfl | rfl | rfl | rfl | rfl | rfl | rfl | rfl | rfl | rfl | rfl | rfl <;> decide
theorem line_yes (op a b c : Int) (w : World) (h : insOk (op, a, b, c) = true) (hE : Env w) (h1 : 1 ≤ op) (h2 : op ≤ 20)
    (ha0 : -9223372036854775808 ≤ a) (ha1 : a ≤ 9223372036854775807) (hb0 : -9223372036854775808 ≤ b) (hb1 : b ≤ 9223372036854775807) (hc0 : -9223372036854775808 ≤ c) (hc1 : c ≤ 9223372036854775807) (N : Nat) (hN : N ≤ 3) (hcn : cnt3 (fS0 op) (fS1 op) (fS2 op) 3 = N) :
    Calls Tryd.prog 11 #[insV op a b c] w fun e w' => e = .returned (.tuple #[.string ⟨(lineK (op, a, b, c) N).toArray⟩, .int .i64 0]) ∧ Below w.heap.size w w' := by
  have he : errOf (insOk (op, a, b, c)) = 0 := by rw [h]; rfl
  clear h
  have hE' := Lib.hid hE
  clear hE
  obtain ⟨q0, q1, q2⟩ := sorts_012 op
  have m0 := idx66 _ q0
  have m1 := idx66 _ q1
  have m2 := idx66 _ q2
  clear q0 q1 q2
  go_enter Tryd.func11, Tryd.ntmps11
  go_wp2_with (first
    | (go_at_call 18; refine (check_any _ _ _ _ _).mono ?_; rintro e w1 ⟨rfl, hb⟩; have HB1 := Lib.hid hb; have hz1 : w.heap.size < w1.heap.size := (by have := hb.size; simp at this; omega); obtain ⟨hc1, hf1⟩ := bcell hb; clear hb)
    | (go_at_call 26; refine (name_any _ _).mono ?_; rintro e w2 ⟨rfl, hb⟩; have HB2 := Lib.hid hb; have hz2 : w.heap.size < w2.heap.size := (by have := hb.size; omega); obtain ⟨hc2, hf2⟩ := bcell hb; clear hb)
    | (go_at_call 27; refine (sorts_any _ _).mono ?_; rintro e w3 ⟨rfl, hb⟩; have HB3 := Lib.hid hb; have hz3 : w2.heap.size < w3.heap.size := (by have := hb.size; simp at this; omega); obtain ⟨hc3, hf3⟩ := bcell hb; clear hb))
  have d0 : w3.cell? ⟨w.heap.size, 0, none⟩ = some (.int .i64 op) := by
    rw [HB3.out.cell (p := ⟨w.heap.size, 0, none⟩) (by simp; omega), World.cell?_alloc_past _ _ _ hz2, hc2 _ _ hz1, hc1 _ _ (by simp)]
    simp [go_sem]
  have e0 : w3.cell? ⟨w2.heap.size, 0, none⟩ = some (.int .i64 a) ∧ w3.cell? ⟨w2.heap.size, 1, none⟩ = some (.int .i64 b) ∧ w3.cell? ⟨w2.heap.size, 2, none⟩ = some (.int .i64 c) := by
    refine ⟨?_, ?_, ?_⟩ <;> (rw [hc3 _ _ (by simp)]; simp [go_sem])
  have HBB : Hid (Below w.heap.size w w3) := xt ((xt ((xt ((Below.refl _ _).alloc (Nat.le_refl _) _) HB1.out)) HB2.out).alloc (by omega) _) HB3.out
  have hz : w.heap.size < w3.heap.size := by omega
  clear hc1 hf1 hc2 hf2 hc3 hf3 HB1 HB2 HB3
  go_loopw [5, 28] (fun so i wr => ∃ (k : Nat) (out : ByteArray), k ≤ 3 ∧ i = .int .i64 k ∧ so = .string out ∧ Hid (out.data.toList = lineK (op, a, b, c) k) ∧ out.size ≤ 100 + 30 * k ∧ k ≤ N ∧ Below w3.heap.size w3 wr) (fun _ i _ => 3 - (intOf i).toNat)
  case atStart => exact ⟨0, fName op, by omega, rfl, rfl, rfl, by have := fName_size op h1 h2; omega, by omega, Below.refl _ _⟩
  case round =>
    obtain ⟨k, out, hk, rfl, rfl, HO, hos, hkN, hb⟩ := hrel
    have HB := Lib.hid hb
    have c0 : wr.cell? ⟨w.heap.size, 0, none⟩ = some (.int .i64 op) := by rw [hb.cell (p := ⟨w.heap.size, 0, none⟩) (by show _ < _; omega)]; exact d0
    have c1 : wr.cell? ⟨w2.heap.size, 0, none⟩ = some (.int .i64 a) := by rw [hb.cell (p := ⟨w2.heap.size, 0, none⟩) (by show _ < _; omega)]; exact e0.1
    have c2 : wr.cell? ⟨w2.heap.size, 1, none⟩ = some (.int .i64 b) := by rw [hb.cell (p := ⟨w2.heap.size, 1, none⟩) (by show _ < _; omega)]; exact e0.2.1
    have c3 : wr.cell? ⟨w2.heap.size, 2, none⟩ = some (.int .i64 c) := by rw [hb.cell (p := ⟨w2.heap.size, 2, none⟩) (by show _ < _; omega)]; exact e0.2.2
    have hzr : w2.heap.size < wr.heap.size := by have := hb.size; omega
    have hzw : w.heap.size < wr.heap.size := by omega
    clear hb
    have i0 := idx63_0
    have i1 := idx63_1
    have i2 := idx63_2
    have : k = 0 ∨ k = 1 ∨ k = 2 ∨ k = 3 := by omega
    rcases this with rfl | rfl | rfl | rfl
    · by_cases hq : N = 0
      · subst hq
        have ht : decide (cnt3 (fS0 op) (fS1 op) (fS2 op) 3 ≤ 0) = true := by rw [hcn]; simp
        have HCN := Lib.hid hcn
        clear hcn
        go_wp2_with (go_at_call 28; refine (operands_yes _ _ h1 h2).mono ?_; rintro e w4 ⟨rfl, hb4⟩; have HB4 := Lib.hid hb4; obtain ⟨hc4, hf4⟩ := bcell hb4; clear hb4)
        go_ret2
        exact ⟨ret_line HO.out, xt (xt HBB.out HB.out) HB4.out⟩
      · have ht : decide (cnt3 (fS0 op) (fS1 op) (fS2 op) 3 ≤ 0) = false := by rw [hcn]; simp; omega
        have HCN := Lib.hid hcn
        clear hcn
        have hl : (markB (sortsOf op).1).size + (Lib.itoa a).length ≤ 30 := by
          have := Lib.itoa_length_le a ha0 ha1
          have := mark_size (sortsOf op).1
          omega
        go_wp2_with (first
          | (go_at_call 28; refine (operands_yes _ _ h1 h2).mono ?_; rintro e w4 ⟨rfl, hb4⟩; have HB4 := Lib.hid hb4; obtain ⟨hc4, hf4⟩ := bcell hb4; clear hb4)
          | (go_at_call 20; refine (itoa_any _ ha0 ha1 _ ((hE'.out.on HBB.out).on (xt HB.out HB4.out))).mono ?_; rintro e w5 ⟨rfl, hb5⟩; have HB5 := Lib.hid hb5; clear hb5))
        go_roundw
        case rel => exact ⟨1, _, by omega, rfl, rfl, by show _ = _; rw [app_data, HO.out, app_data]; rfl, by rw [app_size, app_size, mk_size (Lib.itoa a)]; omega, by omega, xt (xt HB.out HB4.out) HB5.out⟩
        case measure => simp [intOf]
    · by_cases hq : N = 1
      · subst hq
        have ht : decide (cnt3 (fS0 op) (fS1 op) (fS2 op) 3 ≤ 1) = true := by rw [hcn]; simp
        have HCN := Lib.hid hcn
        clear hcn
        go_wp2_with (go_at_call 28; refine (operands_yes _ _ h1 h2).mono ?_; rintro e w4 ⟨rfl, hb4⟩; have HB4 := Lib.hid hb4; obtain ⟨hc4, hf4⟩ := bcell hb4; clear hb4)
        go_ret2
        exact ⟨ret_line HO.out, xt (xt HBB.out HB.out) HB4.out⟩
      · have ht : decide (cnt3 (fS0 op) (fS1 op) (fS2 op) 3 ≤ 1) = false := by rw [hcn]; simp; omega
        have HCN := Lib.hid hcn
        clear hcn
        have hl : (markB (sortsOf op).2.1).size + (Lib.itoa b).length ≤ 30 := by
          have := Lib.itoa_length_le b hb0 hb1
          have := mark_size (sortsOf op).2.1
          omega
        go_wp2_with (first
          | (go_at_call 28; refine (operands_yes _ _ h1 h2).mono ?_; rintro e w4 ⟨rfl, hb4⟩; have HB4 := Lib.hid hb4; obtain ⟨hc4, hf4⟩ := bcell hb4; clear hb4)
          | (go_at_call 20; refine (itoa_any _ hb0 hb1 _ ((hE'.out.on HBB.out).on (xt HB.out HB4.out))).mono ?_; rintro e w5 ⟨rfl, hb5⟩; have HB5 := Lib.hid hb5; clear hb5))
        go_roundw
        case rel => exact ⟨2, _, by omega, rfl, rfl, by show _ = _; rw [app_data, HO.out, app_data]; rfl, by rw [app_size, app_size, mk_size (Lib.itoa b)]; omega, by omega, xt (xt HB.out HB4.out) HB5.out⟩
        case measure => simp [intOf]
    · by_cases hq : N = 2
      · subst hq
        have ht : decide (cnt3 (fS0 op) (fS1 op) (fS2 op) 3 ≤ 2) = true := by rw [hcn]; simp
        have HCN := Lib.hid hcn
        clear hcn
        go_wp2_with (go_at_call 28; refine (operands_yes _ _ h1 h2).mono ?_; rintro e w4 ⟨rfl, hb4⟩; have HB4 := Lib.hid hb4; obtain ⟨hc4, hf4⟩ := bcell hb4; clear hb4)
        go_ret2
        exact ⟨ret_line HO.out, xt (xt HBB.out HB.out) HB4.out⟩
      · have ht : decide (cnt3 (fS0 op) (fS1 op) (fS2 op) 3 ≤ 2) = false := by rw [hcn]; simp; omega
        have HCN := Lib.hid hcn
        clear hcn
        have hl : (markB (sortsOf op).2.2).size + (Lib.itoa c).length ≤ 30 := by
          have := Lib.itoa_length_le c hc0 hc1
          have := mark_size (sortsOf op).2.2
          omega
        go_wp2_with (first
          | (go_at_call 28; refine (operands_yes _ _ h1 h2).mono ?_; rintro e w4 ⟨rfl, hb4⟩; have HB4 := Lib.hid hb4; obtain ⟨hc4, hf4⟩ := bcell hb4; clear hb4)
          | (go_at_call 20; refine (itoa_any _ hc0 hc1 _ ((hE'.out.on HBB.out).on (xt HB.out HB4.out))).mono ?_; rintro e w5 ⟨rfl, hb5⟩; have HB5 := Lib.hid hb5; clear hb5))
        go_roundw
        case rel => exact ⟨3, _, by omega, rfl, rfl, by show _ = _; rw [app_data, HO.out, app_data]; rfl, by rw [app_size, app_size, mk_size (Lib.itoa c)]; omega, by omega, xt (xt HB.out HB4.out) HB5.out⟩
        case measure => simp [intOf]
    · obtain rfl : N = 3 := by omega
      go_wp2
      go_ret2
      exact ⟨ret_line HO.out, xt HBB.out HB.out⟩
def lineOf (i : Ins) : Bs := lineK i (operands i.1)
theorem cnt3_operands (op : Int) : cnt3 (fS0 op) (fS1 op) (fS2 op) 3 = (operands op : Int) ∧ operands op ≤ 3 := by
  unfold cnt3 one_ fS0 fS1 fS2 operands
  by_cases h0 : (formOf op).2.1 = 0 <;> by_cases h1 : (formOf op).2.2.1 = 0 <;> by_cases h2 : (formOf op).2.2.2 = 0 <;> simp [h0, h1, h2]
theorem line_any (op a b c : Int) (w : World) (hE : Env w)
    (ha0 : -9223372036854775808 ≤ a) (ha1 : a ≤ 9223372036854775807) (hb0 : -9223372036854775808 ≤ b) (hb1 : b ≤ 9223372036854775807) (hc0 : -9223372036854775808 ≤ c) (hc1 : c ≤ 9223372036854775807) :
    Calls Tryd.prog 11 #[insV op a b c] w fun e w' => e = .returned (.tuple #[.string ⟨(if insOk (op, a, b, c) then lineOf (op, a, b, c) else []).toArray⟩, .int .i64 (errOf (insOk (op, a, b, c)))]) ∧ Below w.heap.size w w' := by
  cases h : insOk (op, a, b, c) with
  | false => exact line_no op a b c w h
  | true =>
    have ho : isOp op = true := by
      simp only [insOk, Bool.and_eq_true] at h
      exact h.1.1.1
    simp only [isOp, Bool.and_eq_true, decide_eq_true_eq] at ho
    obtain ⟨h1, h2⟩ := cnt3_operands op
    exact line_yes op a b c w h hE ho.1 ho.2 ha0 ha1 hb0 hb1 hc0 hc1 (operands op) h2 h1
end Go.Proofs.YtcamimfepcoggaaDoor
