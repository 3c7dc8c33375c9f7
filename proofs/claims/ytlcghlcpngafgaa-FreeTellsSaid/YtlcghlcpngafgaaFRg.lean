/- quoinref9.FlexOk and quoinref9.Resolve, whatever comes; the walk of FreeTells. -/
import Derived.Test.YtlcghlcpngafgaaFRf
import Derived.Test.YtlcghlcpngafgaaFAwk
namespace Go.Proofs.Ytlcghlcpngafgaa.PFree
open Go.RowKit Go.Proofs.YtlcghlcpngafgaaW.PrintWords Go.Proofs.YtlcghlcpngafgaaW.PrintLast Go.Proofs.YtlcghlcpngafgaaW.PrintMore
set_option linter.unusedVariables false
set_option linter.unusedSimpArgs false
theorem rok_body (x : S39) (c : Option Bool) :
    (if x.f0 < 0 then (some false) else (if x.f0 > 8796093022208 then (some false) else (if x.f1 < 0 then (some false) else (if x.f1 > 8796093022208 then (some false) else (if x.f2 < (-1) then (some false) else (if x.f2 > 8796093022208 then (some false) else (if x.f3 < 0 then (some false) else (if x.f3 > 100 then (some false) else (if x.f4 < 0 then (some false) else (if x.f4 > 100 then (some false) else (if x.f5 < (-8796093022208) then (some false) else (if x.f5 > 8796093022208 then (some false) else c)))))))))))) = if OkX x then c else some false := by
  by_cases h : OkX x
  · rw [if_pos h]
    obtain ⟨a0, a1, a2, a3, a4, a5, a6, a7, a8, a9, a10, a11⟩ := h
    rw [if_neg (by omega), if_neg (by omega), if_neg (by omega), if_neg (by omega), if_neg (by omega), if_neg (by omega), if_neg (by omega), if_neg (by omega), if_neg (by omega), if_neg (by omega), if_neg (by omega), if_neg (by omega)]
  · rw [if_neg h]
    by_cases h0 : x.f0 < 0
    · rw [if_pos h0]
    rw [if_neg h0]
    by_cases h1 : x.f0 > 8796093022208
    · rw [if_pos h1]
    rw [if_neg h1]
    by_cases h2 : x.f1 < 0
    · rw [if_pos h2]
    rw [if_neg h2]
    by_cases h3 : x.f1 > 8796093022208
    · rw [if_pos h3]
    rw [if_neg h3]
    by_cases h4 : x.f2 < -1
    · rw [if_pos h4]
    rw [if_neg h4]
    by_cases h5 : x.f2 > 8796093022208
    · rw [if_pos h5]
    rw [if_neg h5]
    by_cases h6 : x.f3 < 0
    · rw [if_pos h6]
    rw [if_neg h6]
    by_cases h7 : x.f3 > 100
    · rw [if_pos h7]
    rw [if_neg h7]
    by_cases h8 : x.f4 < 0
    · rw [if_pos h8]
    rw [if_neg h8]
    by_cases h9 : x.f4 > 100
    · rw [if_pos h9]
    rw [if_neg h9]
    by_cases h10 : x.f5 < -8796093022208
    · rw [if_pos h10]
    rw [if_neg h10]
    by_cases h11 : x.f5 > 8796093022208
    · rw [if_pos h11]
    exact absurd ⟨by omega, by omega, by omega, by omega, by omega, by omega, by omega, by omega, by omega, by omega, by omega, by omega⟩ h
theorem rok_l0 (l : List S39) (hl : l.length ≤ 9223372036854775807) : ∀ (d i : Nat) (k : Nat), l.length - i = d → i ≤ l.length → d + 1 ≤ k → quoinref9_FlexOk.l0 k l (i : Int) = some (decide (∀ x ∈ l.drop i, OkX x) && decide (l.length ≤ 500)) := by
  intro d
  induction d with
  | zero =>
    intro i k hd hi hk
    obtain ⟨k, rfl⟩ : ∃ m, k = m + 1 := ⟨k - 1, by omega⟩
    rw [quoinref9_FlexOk.l0, if_neg (by omega), List.drop_eq_nil_of_le (by omega)]
    simp
    omega
  | succ d ih =>
    intro i k hd hi hk
    obtain ⟨k, rfl⟩ : ∃ m, k = m + 1 := ⟨k - 1, by omega⟩
    rw [quoinref9_FlexOk.l0, if_pos (by omega), if_pos (by omega), itm_T, rok_body, w64 (by omega) (by omega), show ((i : Int) + 1) = ((i + 1 : Nat) : Int) from by omega, ih (i + 1) k (by omega) (by omega) (by omega)]
    have hlt : i < l.length := by omega
    rw [List.drop_eq_getElem_cons hlt]
    have e : itm l i = l[i] := by simp [itm, List.getD, hlt]
    rw [e]
    generalize l[i] = y at *
    generalize l.drop (i + 1) = t at *
    by_cases h : OkX y
    · rw [if_pos h]; simp [h]
    · rw [if_neg h]; simp [h]
theorem rok_eq (l : List S39) (hl : l.length ≤ 9223372036854775807) (k : Nat) (hk : l.length + 1 ≤ k) : quoinref9_FlexOk.f k l = some (okL l) := by
  unfold quoinref9_FlexOk.f okL
  have := rok_l0 l hl l.length 0 k (by omega) (by omega) (by omega)
  simpa using this
set_option maxHeartbeats 1000000 in
set_option maxRecDepth 100000 in
theorem rresolve_no (A0 : Option Addr) (c0 : Nat) (l : List S39) (inner : Int) (w : World) (b : Bool) (hk : Calls Try.prog 25 #[.slice A0 l.length c0] w fun e w' => e = .returned (.bool b) ∧ Below w.heap.size w w')
    (h : b = false ∨ inner < -8796093022208 ∨ 36028797018963968 < inner) :
    Calls Try.prog 26 #[.slice A0 l.length c0, .int .i64 inner] w fun e w' => e = .returned (.slice none 0 0) ∧ Below w.heap.size w w' := by
  have HK := Lib.hid hk
  clear hk
  cases b with
  | false =>
    clear h
    go_enter Try.func26, Try.ntmps26
    go_wp2_with (go_at_call 25; (with_reducible refine HK.out.mono ?_); rintro e wn ⟨rfl, hb⟩; have HB := Lib.hid hb; clear hb HK)
    go_ret
    exact ⟨rfl, HB.out⟩
  | true =>
    by_cases h1 : inner < -8796093022208
    · have t1 : decide (inner < -8796093022208) = true := decide_eq_true h1
      clear h h1
      go_enter Try.func26, Try.ntmps26
      go_wp2_with (go_at_call 25; (with_reducible refine HK.out.mono ?_); rintro e wn ⟨rfl, hb⟩; have HB := Lib.hid hb; clear hb HK)
      go_ret
      exact ⟨rfl, HB.out⟩
    · have t1 : decide (inner < -8796093022208) = false := decide_eq_false h1
      have h2 : 36028797018963968 < inner := by
        rcases h with h | h | h
        · cases h
        · omega
        · exact h
      have t2 : decide (36028797018963968 < inner) = true := decide_eq_true h2
      clear h h1 h2
      go_enter Try.func26, Try.ntmps26
      go_wp2_with (go_at_call 25; (with_reducible refine HK.out.mono ?_); rintro e wn ⟨rfl, hb⟩; have HB := Lib.hid hb; clear hb HK)
      go_ret
      exact ⟨rfl, HB.out⟩
theorem rresolve_any (A0 : Option Addr) (c0 : Nat) (l : List S39) (inner : Int) (r : List Int) (w : World) (hC : Kd.C k39 w A0 l.length l) (hc : l.length ≤ c0) (h : free_Resolve.f l inner = some r) :
    Calls Try.prog 26 #[.slice A0 l.length c0, .int .i64 inner] w fun e w' => ∃ v : Value, e = .returned v ∧ Kd.R (Kd.int .i64) 2 w' w.heap.size (fun _ => True) v r ∧ Below w.heap.size w w' := by
  have hlen : l.length ≤ 9223372036854775807 := hC.2.1
  have hk := rok_eq l hlen (l.length + 1) (Nat.le_refl _)
  rw [free_Resolve.eq] at h
  obtain rfl := Option.some.inj h
  clear h
  by_cases hg : okL l = true ∧ -8796093022208 ≤ inner ∧ inner ≤ 36028797018963968
  · obtain ⟨h1, h2, h3⟩ := hg
    have h4 := h1
    simp only [okL, Bool.and_eq_true, decide_eq_true_eq] at h4
    have e : (if okR l inner = true then rslv l inner else []) = rslv l inner := by
      by_cases hn : 0 < l.length
      · rw [if_pos (by simp [okR, h1, h2, h3, hn])]
      · have hz : l.length = 0 := by omega
        rw [if_neg (by simp [okR, hz])]
        unfold rslv
        rw [hz]
        rfl
    rw [e]
    rw [h1] at hk
    exact rresolve_ok A0 c0 l inner w hC hc h4.2 h4.1 h2 h3 _ hk
  · have e : (if okR l inner = true then rslv l inner else []) = [] := if_neg (by
      simp only [okR, Bool.and_eq_true, decide_eq_true_eq]
      intro h
      exact hg ⟨h.1.1.1, h.1.1.2, h.1.2⟩)
    rw [e]
    refine (rresolve_no A0 c0 l inner w (okL l) (quoinref9_FlexOk.calls _ A0 c0 l _ w hC hc hk) ?_).mono ?_
    · cases e : okL l with
      | false => exact .inl rfl
      | true => simp only [e, true_and] at hg; omega
    · rintro e w' ⟨rfl, hb⟩
      exact ⟨_, rfl, Kd.R_nil _ _ _ _ _, hb⟩
theorem res_len (l : List S39) (hl : l.length ≤ 600) (inner : Int) : ∃ r : List Int, free_Resolve.f l inner = some r ∧ r.length ≤ 600 := by
  rw [free_Resolve.eq]
  refine ⟨_, rfl, ?_⟩
  split
  · rw [rslv_length]; exact hl
  · exact Nat.zero_le _
set_option maxHeartbeats 4000000 in
set_option maxRecDepth 100000 in
theorem tells_walk (A0 : Option Addr) (c0 : Nat) (l0 : List S39) (a1 : Int) (a2 : Bool) (w : World) (hC : Kd.C k39 w A0 l0.length l0) (hc0 : l0.length ≤ c0) :
    Calls Try.prog 11 #[.slice A0 l0.length c0, .int .i64 a1, .bool a2] w fun e w' => e = .returned (.bool true) ∧ Below w.heap.size w w' := by
  have HC0 := Lib.hid hC; have HL0 := Lib.hid hc0
  obtain ⟨r, hr, hok, hT⟩ := tame_some l0 a2
  have HT := Lib.hid (hT 0); have HRL := Lib.hid hr
  clear hC hc0 hT hr hok
  have hu39 := Try.underlying39
  by_cases h600 : 600 < l0.length
  · have t0 : decide ((600 : Int) < ((l0.length : Nat) : Int)) = true := decide_eq_true (by omega)
    clear h600
    go_enter Try.func11, Try.ntmps11
    go_wp2_with (go_at_call 21; (with_reducible refine (awk.calls true _ awake_eq).mono ?_); rintro e w9 ⟨rfl, hb⟩; have HB9 := Lib.hid hb; clear hb)
    go_ret
    exact ⟨rfl, HB9.out⟩
  · have t0 : decide ((600 : Int) < ((l0.length : Nat) : Int)) = false := decide_eq_false (by omega)
    have H600 := Lib.hid h600
    clear h600
    go_enter Try.func11, Try.ntmps11
    go_wp2_with (fail)
    go_loopg [1, 7, 8] 2 (fun gk v1 v7 v8 wr => ∃ (q : Nat) (inn : Int) (A : Option Addr) (c : Nat) (l : List S39), v8 = .int .i64 (q : Int) ∧ v1 = .int .i64 inn ∧ v7 = .slice A l.length c ∧ q ≤ 2 ∧ 2 - q ≤ gk ∧ Hid (l.length ≤ 600) ∧ Hid (l.length ≤ c) ∧ Hid (Kd.C k39 wr A l.length l) ∧ Hid (Below w.heap.size w wr))
    case atStart => exact ⟨0, a1, A0, c0, l0, rfl, rfl, rfl, by omega, by omega, Lib.hid (by have := H600.out; omega), HL0, HC0, Lib.hid (Below.refl _ _)⟩
    case round =>
      obtain ⟨q, inn, A, c, l, rfl, rfl, rfl, hq, hk, HLL, HLC, HC, HB⟩ := hrel
      by_cases hq2 : q < 2
      · have HKF := Lib.hid (fun (W : World) (hb : Below wr.heap.size wr W) => free_Ok.calls (l.length + 1) A c l (okL l) W (Kd.C_below HC.out hb) HLC.out (ok_eq l (by have := HLL.out; omega) _ (Nat.le_refl _)))
        have HKR := Lib.hid (fun (W : World) (hb : Below wr.heap.size wr W) => quoinref9_FlexOk.calls (l.length + 1) A c l (okL l) W (Kd.C_below HC.out hb) HLC.out (rok_eq l (by have := HLL.out; omega) _ (Nat.le_refl _)))
        obtain ⟨ok, hok⟩ : ∃ ok, okL l = ok := ⟨_, rfl⟩
        rw [hok] at HKF HKR
        clear hok
        have cq : (q : Int) < 2 := by omega
        have HK0 := Lib.hid (Below.refl wr.heap.size wr)
        by_cases hstop : q = 0 ∧ 20 < l0.length
        · have tq : ((q : Int) == 0) = true := by simp; omega
          have tl : decide ((20 : Int) < ((l0.length : Nat) : Int)) = true := decide_eq_true (by omega)
          clear hstop hq2 hq hk
          go_wp2_with (fail)
          go_at_call 24
          (with_reducible refine (HKF.out _ HK0.out).mono ?_)
          rintro e w2 ⟨rfl, hb⟩
          have HK1 := Lib.hid hb
          clear hb
          go_wp2_with (fail)
          go_at_call 25
          (with_reducible refine (HKR.out _ HK1.out).mono ?_)
          rintro e w3 ⟨rfl, hb⟩
          have HK2 := Lib.hid (below_step HK1.out hb)
          clear hb
          go_wp2_with (fail)
          go_at_call 24
          (with_reducible refine (HKF.out _ HK2.out).mono ?_)
          rintro e w4 ⟨rfl, hb⟩
          have HK3 := Lib.hid (below_step HK2.out hb)
          clear hb
          go_wp2_with (fail)
          go_at_call 25
          (with_reducible refine (HKR.out _ HK3.out).mono ?_)
          rintro e w5 ⟨rfl, hb⟩
          have HK4 := Lib.hid (below_step HK3.out hb)
          clear hb
          go_wp2_with (go_at_call 21; (with_reducible refine (awk.calls true _ awake_eq).mono ?_); rintro e w9 ⟨rfl, hb⟩; have HB9 := Lib.hid (below_step HB.out (below_step HK4.out hb)); clear hb)
          go_ret
          exact ⟨rfl, HB9.out⟩
        · obtain ⟨R, hR, hRl⟩ := res_len l HLL.out inn
          have HRF := Lib.hid hR; have HRN := Lib.hid hRl
          clear hR hRl
          have tq2 : ((q : Int) == 0) = false ∨ ((q : Int) == 0) = true ∧ decide ((20 : Int) < ((l0.length : Nat) : Int)) = false := by
            by_cases h0 : q = 0
            · exact .inr ⟨by simp [h0], decide_eq_false (by have : ¬ 20 < l0.length := fun h => hstop ⟨h0, h⟩; omega)⟩
            · exact .inl (by simp; omega)
          have HQ := Lib.hid hq2
          clear hstop hq2
          have cq9 : (q : Int) ≤ 2 := by omega
          rcases tq2 with tq | ⟨tq, tl⟩
          · go_wp2_with (fail)
            go_at_call 24
            (with_reducible refine (HKF.out _ HK0.out).mono ?_)
            rintro e w2 ⟨rfl, hb⟩
            have HK1 := Lib.hid hb
            clear hb
            go_wp2_with (fail)
            go_at_call 25
            (with_reducible refine (HKR.out _ HK1.out).mono ?_)
            rintro e w3 ⟨rfl, hb⟩
            have HK2 := Lib.hid (below_step HK1.out hb)
            clear hb
            go_wp2_with (fail)
            go_at_call 20
            (with_reducible refine (free_Resolve.calls A c l inn R _ (Kd.C_below HC.out HK2.out) HLC.out HRF.out).mono ?_)
            rintro e w4 ⟨v4, rfl, hR4, hb⟩
            obtain ⟨A4, c4, e4, hc4, hC4⟩ := Kd.R_reads hR4
            subst e4
            have HK3 := Lib.hid (below_step HK2.out hb)
            have HC4 := Lib.hid hC4; have HL4 := Lib.hid hc4
            clear hb hR4 hc4 hC4
            go_wp2_with (fail)
            go_at_call 26
            (with_reducible refine (rresolve_any A c l inn R _ (Kd.C_below HC.out HK3.out) HLC.out HRF.out).mono ?_)
            rintro e w5 ⟨v5, rfl, hR5, hb⟩
            obtain ⟨A5, c5, e5, hc5, hC5⟩ := Kd.R_reads hR5
            subst e5
            have HK4 := Lib.hid (below_step HK3.out hb)
            have HSM := Lib.hid (quoinlaw16_Same.calls (R.length + 1) A4 c4 R A5 c5 R true _ (Kd.C_below HC4.out hb) HL4.out hC5 hc5 (same_refl R (by have := HRN.out; omega) _ (Nat.le_refl _)))
            clear hb hR5 hc5 hC5 HC4
            go_wp2_with (fail)
            go_at_call 22
            (with_reducible refine HSM.out.mono ?_)
            rintro e w6 ⟨rfl, hb⟩
            have HK5 := Lib.hid (below_step HK4.out hb.below)
            clear hb HSM
            have HBz := Lib.hid (below_step HB.out HK5.out)
            have HTM := Lib.hid (quoinlaw18_Tame.calls (38 + 0) A0 c0 l0 a2 r _ (Kd.C_below HC0.out HBz.out) HL0.out HT.out)
            go_wp2_with (fail)
            go_at_call 27
            (with_reducible refine HTM.out.mono ?_)
            rintro e w7 ⟨v7, rfl, hR7, hb⟩
            obtain ⟨A7, c7, e7, hc7, hC7⟩ := Kd.R_reads hR7
            subst e7
            have HB7 := Lib.hid (below_step HBz.out hb)
            have HC7 := Lib.hid hC7; have HL7 := Lib.hid hc7
            clear hb hR7 hc7 hC7 HTM
            cases a2
            case false =>
              go_wp2
              go_roundg (2 - (q + 1))
              case measure => have := HQ.out; omega
              case rel => exact ⟨q + 1, _, A7, c7, r, by simp, rfl, rfl, by have := HQ.out; omega, by omega, Lib.hid (by have := HRL.out; omega), HL7, HC7, HB7⟩
            case true =>
              go_wp2
              go_roundg (2 - (q + 1))
              case measure => have := HQ.out; omega
              case rel => exact ⟨q + 1, _, A7, c7, r, by simp, rfl, rfl, by have := HQ.out; omega, by omega, Lib.hid (by have := HRL.out; omega), HL7, HC7, HB7⟩
          · go_wp2_with (fail)
            go_at_call 24
            (with_reducible refine (HKF.out _ HK0.out).mono ?_)
            rintro e w2 ⟨rfl, hb⟩
            have HK1 := Lib.hid hb
            clear hb
            go_wp2_with (fail)
            go_at_call 25
            (with_reducible refine (HKR.out _ HK1.out).mono ?_)
            rintro e w3 ⟨rfl, hb⟩
            have HK2 := Lib.hid (below_step HK1.out hb)
            clear hb
            go_wp2_with (fail)
            go_at_call 20
            (with_reducible refine (free_Resolve.calls A c l inn R _ (Kd.C_below HC.out HK2.out) HLC.out HRF.out).mono ?_)
            rintro e w4 ⟨v4, rfl, hR4, hb⟩
            obtain ⟨A4, c4, e4, hc4, hC4⟩ := Kd.R_reads hR4
            subst e4
            have HK3 := Lib.hid (below_step HK2.out hb)
            have HC4 := Lib.hid hC4; have HL4 := Lib.hid hc4
            clear hb hR4 hc4 hC4
            go_wp2_with (fail)
            go_at_call 26
            (with_reducible refine (rresolve_any A c l inn R _ (Kd.C_below HC.out HK3.out) HLC.out HRF.out).mono ?_)
            rintro e w5 ⟨v5, rfl, hR5, hb⟩
            obtain ⟨A5, c5, e5, hc5, hC5⟩ := Kd.R_reads hR5
            subst e5
            have HK4 := Lib.hid (below_step HK3.out hb)
            have HSM := Lib.hid (quoinlaw16_Same.calls (R.length + 1) A4 c4 R A5 c5 R true _ (Kd.C_below HC4.out hb) HL4.out hC5 hc5 (same_refl R (by have := HRN.out; omega) _ (Nat.le_refl _)))
            clear hb hR5 hc5 hC5 HC4
            go_wp2_with (fail)
            go_at_call 22
            (with_reducible refine HSM.out.mono ?_)
            rintro e w6 ⟨rfl, hb⟩
            have HK5 := Lib.hid (below_step HK4.out hb.below)
            clear hb HSM
            have HBz := Lib.hid (below_step HB.out HK5.out)
            have HTM := Lib.hid (quoinlaw18_Tame.calls (38 + 0) A0 c0 l0 a2 r _ (Kd.C_below HC0.out HBz.out) HL0.out HT.out)
            go_wp2_with (fail)
            go_at_call 27
            (with_reducible refine HTM.out.mono ?_)
            rintro e w7 ⟨v7, rfl, hR7, hb⟩
            obtain ⟨A7, c7, e7, hc7, hC7⟩ := Kd.R_reads hR7
            subst e7
            have HB7 := Lib.hid (below_step HBz.out hb)
            have HC7 := Lib.hid hC7; have HL7 := Lib.hid hc7
            clear hb hR7 hc7 hC7 HTM
            cases a2
            case false =>
              go_wp2
              go_roundg (2 - (q + 1))
              case measure => have := HQ.out; omega
              case rel => exact ⟨q + 1, _, A7, c7, r, by simp, rfl, rfl, by have := HQ.out; omega, by omega, Lib.hid (by have := HRL.out; omega), HL7, HC7, HB7⟩
            case true =>
              go_wp2
              go_roundg (2 - (q + 1))
              case measure => have := HQ.out; omega
              case rel => exact ⟨q + 1, _, A7, c7, r, by simp, rfl, rfl, by have := HQ.out; omega, by omega, Lib.hid (by have := HRL.out; omega), HL7, HC7, HB7⟩
      · obtain rfl : q = 2 := by omega
        go_wp2_with (go_at_call 21; (with_reducible refine (awk.calls true _ awake_eq).mono ?_); rintro e w9 ⟨rfl, hb⟩; have HB9 := Lib.hid (below_step HB.out hb); clear hb)
        go_ret
        exact ⟨rfl, HB9.out⟩
end Go.Proofs.Ytlcghlcpngafgaa.PFree
