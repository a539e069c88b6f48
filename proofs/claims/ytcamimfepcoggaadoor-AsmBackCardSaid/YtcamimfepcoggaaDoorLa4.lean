/- The walk of the law AsmBack: true of every program and every text. -/
import Derived.Test.YtcamimfepcoggaaDoorLw4
import Derived.Test.YtcamimfepcoggaaDoorLa7
namespace Go.Proofs.YtcamimfepcoggaaDoor
open Go.RowKit
theorem printL_err {l : List Ins} {t : Bs} {er : Int} (h : printL l = (t, er)) : er = 0 ∨ er = 3 ∨ er = 130 := by
  unfold printL at h
  split at h
  · injection h with _ h; exact .inr (.inl h.symm)
  · split at h
    · injection h with _ h; exact .inl h.symm
    · injection h with _ h; exact .inr (.inr h.symm)
theorem print_len {l : List Ins} {t : Bs} (h : printL l = (t, 0)) : l.length ≤ 512 := by
  unfold printL at h
  split at h
  · injection h with _ h; cases h
  · omega
theorem parseL_err {s : Bs} {q : List Ins} {n er : Int} (h : parseL s = (q, n, er)) : er = 0 ∨ er = 2 ∨ er = 130 := by
  unfold parseL at h
  split at h
  · injection h with _ h
    injection h with _ h
    exact .inr (.inl h.symm)
  · split at h
    · injection h with _ h
      injection h with _ h
      exact .inr (.inr h.symm)
    · injection h with _ h
      injection h with _ h
      exact .inl h.symm
set_option maxRecDepth 100000 in
set_option maxHeartbeats 8000000 in
theorem back_walk (ao : Option Addr) (cap : Nat) (l : List Ins) (T : Bs) (w : World) (hE : Env w) (hv : InsAt w (.slice ao l.length cap) l) (hc : l.length ≤ cap) :
    Calls Tryd.prog 4 #[.slice ao l.length cap, .string ⟨T.toArray⟩] w fun e w' => e = .returned (.bool true) ∧ Below w.heap.size w w' := by
  have HE := Lib.hid hE
  have HV := Lib.hid hv.few
  have HC := Lib.hid hc
  clear hE hv hc
  go_enter Tryd.func4, Tryd.ntmps4
  go_wp2_with (go_at_call 8; refine (few_any ao l.length cap _ HC.out).mono ?_; rintro e w1 ⟨rfl, rfl⟩)
  go_wp2_with (go_at_call 14; refine (cut_any T _).mono ?_; rintro e w2 ⟨rfl, rfl⟩)
  cases hp : printL (l.take 520) with
  | mk t er =>
  have her := printL_err hp
  by_cases h0 : er = 0
  · subst h0
    clear her
    have hp5 := print_len hp
    have hpp := parse_print hp
    go_wp2_with (go_at_call 9; refine (print_eq hp _ HE.out HV.out).mono ?_; rintro e w3 ⟨rfl, hb3⟩; have HB3 := Lib.hid hb3; have HV3 := Lib.hid (HV.out.on hb3 (Nat.le_refl _)); clear hb3)
    go_wp2_with (go_at_call 15; refine (parse_eq hpp _ (HE.out.on HB3.out)).mono ?_; rintro e w4 ⟨⟨v4, rfl, hv4⟩, hb4⟩; have HB4 := Lib.hid (HB3.out.trans (hb4.mono HB3.out.size)); have HV4 := Lib.hid (HV3.out.on hb4 (Nat.le_refl _)); have HU4 := Lib.hid hv4; clear hb4 hv4)
    go_wp2_with (go_at_call 16; refine (same_true _ HV4.out HU4.out (by omega)).mono ?_; rintro e w5 ⟨rfl, hb5⟩; have HB5 := Lib.hid (HB4.out.trans (hb5.mono HB4.out.size)); clear hb5)
    cases hq : parseL (T.take 4000) with
    | mk q r =>
    obtain ⟨n, er⟩ := r
    have her := parseL_err hq
    by_cases h0 : er = 0
    · subst h0
      clear her
      obtain ⟨t2, hp2, hr2⟩ := print_parse hq
      have hq5 := print_len hp2
      go_wp2_with (go_at_call 15; refine (parse_eq hq _ (HE.out.on HB5.out)).mono ?_; rintro e wa ⟨⟨va, rfl, hva⟩, hba⟩; have HBa := Lib.hid (HB5.out.trans (hba.mono HB5.out.size)); have HVa := Lib.hid hva; clear hba hva)
      go_wp2_with (go_at_call 9; refine (print_eq hp2 _ (HE.out.on HBa.out) HVa.out).mono ?_; rintro e wb ⟨rfl, hbb⟩; have HBb := Lib.hid (HBa.out.trans (hbb.mono HBa.out.size)); have HVb := Lib.hid (HVa.out.on hbb (Nat.le_refl _)); clear hbb)
      go_wp2_with (go_at_call 15; refine (parse_eq hr2 _ (HE.out.on HBb.out)).mono ?_; rintro e wc ⟨⟨vc, rfl, hvc⟩, hbc⟩; have HBc := Lib.hid (HBb.out.trans (hbc.mono HBb.out.size)); have HVc := Lib.hid (HVb.out.on hbc (Nat.le_refl _)); have HUc := Lib.hid hvc; clear hbc hvc)
      go_wp2_with (go_at_call 16; refine (same_true _ HVc.out HUc.out (by omega)).mono ?_; rintro e wd ⟨rfl, hbd⟩; have HBd := Lib.hid (HBc.out.trans (hbd.mono HBc.out.size)); clear hbd)
      go_wp2_with (go_at_call 13; refine (awake_on HE.out HBd.out).mono ?_; rintro e we ⟨rfl, hbe⟩; have HBe := Lib.hid hbe; clear hbe)
      go_ret
      exact ⟨rfl, HBe.out⟩
    · have hq0 := parse_err hq h0
      subst hq0
      have her' : er = 2 ∨ er = 130 := by omega
      clear her h0
      rcases her' with rfl | rfl
      · go_wp2_with (go_at_call 15; refine (parse_eq hq _ (HE.out.on HB5.out)).mono ?_; rintro e wa ⟨⟨va, rfl, aa, ca, rfl, _⟩, hba⟩; have HBa := Lib.hid (HB5.out.trans (hba.mono HB5.out.size)); clear hba)
        go_wp2_with (go_at_call 13; refine (awake_on HE.out HBa.out).mono ?_; rintro e we ⟨rfl, hbe⟩; have HBe := Lib.hid hbe; clear hbe)
        go_ret
        exact ⟨rfl, HBe.out⟩
      · go_wp2_with (go_at_call 15; refine (parse_eq hq _ (HE.out.on HB5.out)).mono ?_; rintro e wa ⟨⟨va, rfl, aa, ca, rfl, _⟩, hba⟩; have HBa := Lib.hid (HB5.out.trans (hba.mono HB5.out.size)); clear hba)
        go_wp2_with (go_at_call 13; refine (awake_on HE.out HBa.out).mono ?_; rintro e we ⟨rfl, hbe⟩; have HBe := Lib.hid hbe; clear hbe)
        go_ret
        exact ⟨rfl, HBe.out⟩
  · have her' : er = 3 ∨ er = 130 := by omega
    clear her h0
    rcases her' with rfl | rfl
    · go_wp2_with (go_at_call 9; refine (print_eq hp _ HE.out HV.out).mono ?_; rintro e w3 ⟨rfl, hb3⟩; have HB3 := Lib.hid hb3; clear hb3)
      cases hq : parseL (T.take 4000) with
      | mk q r =>
      obtain ⟨n, er⟩ := r
      have her := parseL_err hq
      by_cases h0 : er = 0
      · subst h0
        clear her
        obtain ⟨t2, hp2, hr2⟩ := print_parse hq
        have hq5 := print_len hp2
        go_wp2_with (go_at_call 15; refine (parse_eq hq _ (HE.out.on HB3.out)).mono ?_; rintro e wa ⟨⟨va, rfl, hva⟩, hba⟩; have HBa := Lib.hid (HB3.out.trans (hba.mono HB3.out.size)); have HVa := Lib.hid hva; clear hba hva)
        go_wp2_with (go_at_call 9; refine (print_eq hp2 _ (HE.out.on HBa.out) HVa.out).mono ?_; rintro e wb ⟨rfl, hbb⟩; have HBb := Lib.hid (HBa.out.trans (hbb.mono HBa.out.size)); have HVb := Lib.hid (HVa.out.on hbb (Nat.le_refl _)); clear hbb)
        go_wp2_with (go_at_call 15; refine (parse_eq hr2 _ (HE.out.on HBb.out)).mono ?_; rintro e wc ⟨⟨vc, rfl, hvc⟩, hbc⟩; have HBc := Lib.hid (HBb.out.trans (hbc.mono HBb.out.size)); have HVc := Lib.hid (HVb.out.on hbc (Nat.le_refl _)); have HUc := Lib.hid hvc; clear hbc hvc)
        go_wp2_with (go_at_call 16; refine (same_true _ HVc.out HUc.out (by omega)).mono ?_; rintro e wd ⟨rfl, hbd⟩; have HBd := Lib.hid (HBc.out.trans (hbd.mono HBc.out.size)); clear hbd)
        go_wp2_with (go_at_call 13; refine (awake_on HE.out HBd.out).mono ?_; rintro e we ⟨rfl, hbe⟩; have HBe := Lib.hid hbe; clear hbe)
        go_ret
        exact ⟨rfl, HBe.out⟩
      · have hq0 := parse_err hq h0
        subst hq0
        have her' : er = 2 ∨ er = 130 := by omega
        clear her h0
        rcases her' with rfl | rfl
        · go_wp2_with (go_at_call 15; refine (parse_eq hq _ (HE.out.on HB3.out)).mono ?_; rintro e wa ⟨⟨va, rfl, aa, ca, rfl, _⟩, hba⟩; have HBa := Lib.hid (HB3.out.trans (hba.mono HB3.out.size)); clear hba)
          go_wp2_with (go_at_call 13; refine (awake_on HE.out HBa.out).mono ?_; rintro e we ⟨rfl, hbe⟩; have HBe := Lib.hid hbe; clear hbe)
          go_ret
          exact ⟨rfl, HBe.out⟩
        · go_wp2_with (go_at_call 15; refine (parse_eq hq _ (HE.out.on HB3.out)).mono ?_; rintro e wa ⟨⟨va, rfl, aa, ca, rfl, _⟩, hba⟩; have HBa := Lib.hid (HB3.out.trans (hba.mono HB3.out.size)); clear hba)
          go_wp2_with (go_at_call 13; refine (awake_on HE.out HBa.out).mono ?_; rintro e we ⟨rfl, hbe⟩; have HBe := Lib.hid hbe; clear hbe)
          go_ret
          exact ⟨rfl, HBe.out⟩
    · go_wp2_with (go_at_call 9; refine (print_eq hp _ HE.out HV.out).mono ?_; rintro e w3 ⟨rfl, hb3⟩; have HB3 := Lib.hid hb3; clear hb3)
      cases hq : parseL (T.take 4000) with
      | mk q r =>
      obtain ⟨n, er⟩ := r
      have her := parseL_err hq
      by_cases h0 : er = 0
      · subst h0
        clear her
        obtain ⟨t2, hp2, hr2⟩ := print_parse hq
        have hq5 := print_len hp2
        go_wp2_with (go_at_call 15; refine (parse_eq hq _ (HE.out.on HB3.out)).mono ?_; rintro e wa ⟨⟨va, rfl, hva⟩, hba⟩; have HBa := Lib.hid (HB3.out.trans (hba.mono HB3.out.size)); have HVa := Lib.hid hva; clear hba hva)
        go_wp2_with (go_at_call 9; refine (print_eq hp2 _ (HE.out.on HBa.out) HVa.out).mono ?_; rintro e wb ⟨rfl, hbb⟩; have HBb := Lib.hid (HBa.out.trans (hbb.mono HBa.out.size)); have HVb := Lib.hid (HVa.out.on hbb (Nat.le_refl _)); clear hbb)
        go_wp2_with (go_at_call 15; refine (parse_eq hr2 _ (HE.out.on HBb.out)).mono ?_; rintro e wc ⟨⟨vc, rfl, hvc⟩, hbc⟩; have HBc := Lib.hid (HBb.out.trans (hbc.mono HBb.out.size)); have HVc := Lib.hid (HVb.out.on hbc (Nat.le_refl _)); have HUc := Lib.hid hvc; clear hbc hvc)
        go_wp2_with (go_at_call 16; refine (same_true _ HVc.out HUc.out (by omega)).mono ?_; rintro e wd ⟨rfl, hbd⟩; have HBd := Lib.hid (HBc.out.trans (hbd.mono HBc.out.size)); clear hbd)
        go_wp2_with (go_at_call 13; refine (awake_on HE.out HBd.out).mono ?_; rintro e we ⟨rfl, hbe⟩; have HBe := Lib.hid hbe; clear hbe)
        go_ret
        exact ⟨rfl, HBe.out⟩
      · have hq0 := parse_err hq h0
        subst hq0
        have her' : er = 2 ∨ er = 130 := by omega
        clear her h0
        rcases her' with rfl | rfl
        · go_wp2_with (go_at_call 15; refine (parse_eq hq _ (HE.out.on HB3.out)).mono ?_; rintro e wa ⟨⟨va, rfl, aa, ca, rfl, _⟩, hba⟩; have HBa := Lib.hid (HB3.out.trans (hba.mono HB3.out.size)); clear hba)
          go_wp2_with (go_at_call 13; refine (awake_on HE.out HBa.out).mono ?_; rintro e we ⟨rfl, hbe⟩; have HBe := Lib.hid hbe; clear hbe)
          go_ret
          exact ⟨rfl, HBe.out⟩
        · go_wp2_with (go_at_call 15; refine (parse_eq hq _ (HE.out.on HB3.out)).mono ?_; rintro e wa ⟨⟨va, rfl, aa, ca, rfl, _⟩, hba⟩; have HBa := Lib.hid (HB3.out.trans (hba.mono HB3.out.size)); clear hba)
          go_wp2_with (go_at_call 13; refine (awake_on HE.out HBa.out).mono ?_; rintro e we ⟨rfl, hbe⟩; have HBe := Lib.hid hbe; clear hbe)
          go_ret
          exact ⟨rfl, HBe.out⟩
end Go.Proofs.YtcamimfepcoggaaDoor
