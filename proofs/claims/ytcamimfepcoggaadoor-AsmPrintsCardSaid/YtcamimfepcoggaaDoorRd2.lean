/- The walks of asm's reader, second part: isLabel, find. -/
import Derived.Test.YtcamimfepcoggaaDoorRd1

namespace Go.Proofs.YtcamimfepcoggaaDoor
open Go.RowKit
/-- Is a byte a label's? -/
def okc (c : UInt8) : Bool := c == 95 || (decide (48 ≤ c) && decide (c ≤ 57)) || (decide (97 ≤ c) && decide (c ≤ 122)) || (decide (65 ≤ c) && decide (c ≤ 90))
/-- Is a text a label? -/
def isLabelB (l : Bs) : Bool := l.all okc && decide (1 ≤ l.length) && decide (l.length ≤ 32)
theorem okc_yes {c : UInt8} (h : okc c = true) : (c.toNat : Int) = 95 ∨ (48 ≤ (c.toNat : Int) ∧ (c.toNat : Int) ≤ 57) ∨ (97 ≤ (c.toNat : Int) ∧ (c.toNat : Int) ≤ 122) ∨ (65 ≤ (c.toNat : Int) ∧ (c.toNat : Int) ≤ 90) := by
  simp only [okc, Bool.or_eq_true, Bool.and_eq_true, beq_iff_eq, decide_eq_true_eq] at h
  rcases h with ((h | ⟨h1, h2⟩) | ⟨h1, h2⟩) | ⟨h1, h2⟩
  · left; rw [h]; rfl
  · have a : 48 ≤ c.toNat := UInt8.le_iff_toNat_le.1 h1
    have b : c.toNat ≤ 57 := UInt8.le_iff_toNat_le.1 h2
    omega
  · have a : 97 ≤ c.toNat := UInt8.le_iff_toNat_le.1 h1
    have b : c.toNat ≤ 122 := UInt8.le_iff_toNat_le.1 h2
    omega
  · have a : 65 ≤ c.toNat := UInt8.le_iff_toNat_le.1 h1
    have b : c.toNat ≤ 90 := UInt8.le_iff_toNat_le.1 h2
    omega
theorem okc_mk {c : UInt8} (h : c.toNat = 95 ∨ (48 ≤ c.toNat ∧ c.toNat ≤ 57) ∨ (97 ≤ c.toNat ∧ c.toNat ≤ 122) ∨ (65 ≤ c.toNat ∧ c.toNat ≤ 90)) : okc c = true := by
  simp only [okc, Bool.or_eq_true, Bool.and_eq_true, beq_iff_eq, decide_eq_true_eq]
  rcases h with h | ⟨h1, h2⟩ | ⟨h1, h2⟩ | ⟨h1, h2⟩
  · exact .inl (.inl (.inl (UInt8.toNat_inj.1 h)))
  · exact .inl (.inl (.inr ⟨UInt8.le_iff_toNat_le.2 h1, UInt8.le_iff_toNat_le.2 h2⟩))
  · exact .inl (.inr ⟨UInt8.le_iff_toNat_le.2 h1, UInt8.le_iff_toNat_le.2 h2⟩)
  · exact .inr ⟨UInt8.le_iff_toNat_le.2 h1, UInt8.le_iff_toNat_le.2 h2⟩
theorem okc_no {c : UInt8} (h : okc c = false) : (c.toNat : Int) < 48 ∨ (57 < (c.toNat : Int) ∧ (c.toNat : Int) < 65) ∨ (90 < (c.toNat : Int) ∧ (c.toNat : Int) < 95) ∨ (c.toNat : Int) = 96 ∨ 122 < (c.toNat : Int) := by
  have : ¬ (c.toNat = 95 ∨ (48 ≤ c.toNat ∧ c.toNat ≤ 57) ∨ (97 ≤ c.toNat ∧ c.toNat ≤ 122) ∨ (65 ≤ c.toNat ∧ c.toNat ≤ 90)) := fun q => by rw [okc_mk q] at h; cases h
  omega
theorem take_all_succ (l : Bs) (k : Nat) (h : k < l.length) : (l.take (k + 1)).all okc = ((l.take k).all okc && okc l[k]) := by
  rw [List.take_succ_eq_append_getElem h, List.all_append]
  simp only [List.all_cons, List.all_nil, Bool.and_true]
set_option maxHeartbeats 2000000 in
set_option maxRecDepth 100000 in
theorem isLabel_any (s : ByteArray) (w : World) (hs : s.size < 4294967281) :
    Calls Tryd.prog 49 #[.string s] w fun e w' => e = .returned (.bool (isLabelB s.data.toList)) ∧ w = w' := by
  have hL : s.data.toList.length = s.size := (Lib.size_eq s).symm
  have HL := Lib.hid hL
  clear hL
  go_enter Tryd.func49, Tryd.ntmps49
  go_wp2
  go_loop [7] (fun i => ∃ k : Nat, k ≤ s.size ∧ i = .int .i64 k ∧ Hid ((s.data.toList.take k).all okc = true)) (fun i => s.size - (intOf i).toNat)
  case atStart => exact ⟨0, Nat.zero_le _, rfl, rfl⟩
  case round =>
    obtain ⟨k, hk, rfl, HA⟩ := hrel
    by_cases hlt : k < s.size
    · have HT := Lib.hid (take_all_succ s.data.toList k (by rw [HL.out]; exact hlt))
      have hx : s.data.toList[k]'(by rw [HL.out]; exact hlt) = s[k] := rfl
      rw [hx] at HT
      clear hx
      cases hq : okc s[k] with
      | true =>
        have HQ := Lib.hid hq
        rcases okc_yes hq with h | ⟨h, h'⟩ | ⟨h, h'⟩ | ⟨h, h'⟩
        all_goals clear hq
        · have hb : ((s[k].toNat : Int) != 95) = false := by simp [h]
          have H := Lib.hid h
          clear h
          go_wp2
          go_round
          case rel => exact ⟨k + 1, by omega, by go_num, by show _ = _; rw [HT.out, HA.out, HQ.out]; rfl⟩
          case measure => simp [intOf]; omega
        · have hb : ((s[k].toNat : Int) != 95) = true := by rw [bne_iff_ne]; omega
          go_wp2
          go_round
          case rel => exact ⟨k + 1, by omega, by go_num, by show _ = _; rw [HT.out, HA.out, HQ.out]; rfl⟩
          case measure => simp [intOf]; omega
        · have hb : ((s[k].toNat : Int) != 95) = true := by rw [bne_iff_ne]; omega
          go_wp2
          go_round
          case rel => exact ⟨k + 1, by omega, by go_num, by show _ = _; rw [HT.out, HA.out, HQ.out]; rfl⟩
          case measure => simp [intOf]; omega
        · have hb : ((s[k].toNat : Int) != 95) = true := by rw [bne_iff_ne]; omega
          go_wp2
          go_round
          case rel => exact ⟨k + 1, by omega, by go_num, by show _ = _; rw [HT.out, HA.out, HQ.out]; rfl⟩
          case measure => simp [intOf]; omega
      | false =>
        have HQ := Lib.hid hq
        have HF : Hid (isLabelB s.data.toList = false) := by
          show _ = _
          have h1 := HT.out
          rw [HQ.out, Bool.and_false] at h1
          unfold isLabelB
          have : s.data.toList.all okc = false := by
            rw [← List.take_append_drop (k + 1) s.data.toList, List.all_append, h1]; rfl
          rw [this]; rfl
        have hb : ((s[k].toNat : Int) != 95) = true := by rw [bne_iff_ne]; intro h; have := okc_no hq; omega
        rcases okc_no hq with h | ⟨h, h'⟩ | ⟨h, h'⟩ | h | h
        all_goals clear hq
        · go_wp2
          go_ret
          exact ⟨ret_bool HF.out.symm, rfl⟩
        · go_wp2
          go_ret
          exact ⟨ret_bool HF.out.symm, rfl⟩
        · go_wp2
          go_ret
          exact ⟨ret_bool HF.out.symm, rfl⟩
        · have h1 : 90 < (s[k].toNat : Int) := by omega
          have h2 : (s[k].toNat : Int) < 97 := by omega
          clear h
          go_wp2
          go_ret
          exact ⟨ret_bool HF.out.symm, rfl⟩
        · go_wp2
          go_ret
          exact ⟨ret_bool HF.out.symm, rfl⟩
    · obtain rfl : k = s.size := by omega
      have HZ : Hid (isLabelB s.data.toList = (decide (1 ≤ s.size) && decide (s.size ≤ 32))) := by
        show _ = _
        have := HA.out
        rw [List.take_of_length_le (by rw [HL.out]; exact Nat.le_refl _)] at this
        unfold isLabelB
        rw [this, HL.out]; rfl
      by_cases h1 : 1 ≤ s.size
      · have hb : decide (1 ≤ (s.size : Int)) = true := decide_eq_true (by omega)
        have hb' : decide (1 ≤ s.size) = true := decide_eq_true h1
        go_wp2
        go_ret
        exact ⟨ret_bool (by rw [HZ.out, hb']; simp; omega), rfl⟩
      · have hb : decide (1 ≤ (s.size : Int)) = false := decide_eq_false (by omega)
        have hb' : decide (1 ≤ s.size) = false := decide_eq_false h1
        go_wp2
        go_ret
        exact ⟨ret_bool (by rw [HZ.out, hb']; simp), rfl⟩
end Go.Proofs.YtcamimfepcoggaaDoor
