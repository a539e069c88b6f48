/- The walk of instr.ByName. -/
import Derived.Test.YtcamimfepcoggaaDoorIn3
namespace Go.Proofs.YtcamimfepcoggaaDoor
open Go.RowKit
theorem forms_at0 (w : World) :
    (Instr.index 94 (.agg formsV) (.int .i64 0)).run Tryd.prog w = .ok (.agg #[.string (fName 0), .int .i64 (fS0 0), .int .i64 (fS1 0), .int .i64 (fS2 0)]) w := by kernel_rfl
theorem forms_at (k : Nat) (h : k ≤ 20) (w : World) :
    (Instr.index 94 (.agg formsV) (.int .i64 k)).run Tryd.prog w = .ok (.agg #[.string (fName k), .int .i64 (fS0 k), .int .i64 (fS1 k), .int .i64 (fS2 k)]) w := by
  match k, h with
  | 0, _ => exact forms_at0 w
  | k + 1, h => exact forms_index _ (by omega) (by omega) w
theorem fName_nm (k : Nat) (h0 : 0 < k) (h : k ≤ 20) : (fName k).toList = nmAt k := by
  rw [Lib.toList_data]
  unfold fName formOf nmAt
  rw [if_pos (by omega)]
  rfl
theorem ret_byname {i : Int} {b : Bool} {p : Int × Bool} (h : p = (i, b)) : Ending.returned (.tuple #[.int .i64 i, .bool b]) = .returned (.tuple #[.int .i64 p.1, .bool p.2]) := by rw [h]
set_option maxRecDepth 100000 in
theorem byname_any (s : ByteArray) (w : World) :
    Calls Tryd.prog 59 #[.string s] w fun e w' => e = .returned (.tuple #[.int .i64 (byName s.toList).1, .bool (byName s.toList).2]) ∧ Below w.heap.size w w' := by
  go_enter Tryd.func59, Tryd.ntmps59
  go_wp2_with (first
    | (go_at_call 41; refine (forms_any _).mono ?_; rintro e w1 ⟨rfl, hb⟩; obtain ⟨hc, hfz⟩ := bcell hb; have HB := Lib.hid hb; clear hb))
  clear hc hfz
  go_loopw [7] (fun i wr => ∃ k : Nat, k ≤ 21 ∧ i = .int .i64 k ∧ Below w.heap.size w wr ∧ Hid (∀ j, 1 ≤ j → j < k → nmAt j ≠ s.toList)) (fun i _ => 21 - (intOf i).toNat)
  case atStart => exact ⟨0, by omega, rfl, HB.out, fun j h1 h2 => absurd h2 (by omega)⟩
  case round =>
    obtain ⟨k, hk, rfl, hb, HN⟩ := hrel
    have HB1 := Lib.hid hb
    clear hb
    by_cases hlt : k < 21
    · have hix := forms_at k (by omega)
      by_cases h0 : 0 < k
      · by_cases hq : nmAt k = s.toList
        · have ht : ((fName k).toList == s.toList) = true := by rw [fName_nm k h0 (by omega)]; simpa using hq
          have HQ := Lib.hid hq
          clear hq
          go_wp2
          go_ret2
          exact ⟨ret_byname (byName_hit _ _ h0 (by omega) HN.out HQ.out), HB1.out.alloc HB1.out.size _⟩
        · have ht : ((fName k).toList == s.toList) = false := by rw [fName_nm k h0 (by omega)]; simpa using hq
          have HQ := Lib.hid hq
          clear hq
          go_wp2
          go_roundw
          case rel => exact ⟨k + 1, by omega, by go_num, HB1.out.alloc HB1.out.size _, fun j h1 h2 => by
            by_cases e : j = k
            · subst e; exact HQ.out
            · exact HN.out j h1 (by omega)⟩
          case measure => simp [intOf]; omega
      · obtain rfl : k = 0 := by omega
        clear hix
        have hix := forms_at0
        go_wp2
        go_roundw
        case rel => exact ⟨1, by omega, rfl, HB1.out.alloc HB1.out.size _, fun j h1 h2 => absurd h2 (by omega)⟩
        case measure => simp [intOf]
    · go_wp2
      go_ret2
      exact ⟨ret_byname (byName_miss _ fun j h1 h2 => HN.out j h1 (by omega)), HB1.out⟩
end Go.Proofs.YtcamimfepcoggaaDoor
