/- slices.symMergeCmpFunc at places: two sorted neighbours become one. -/
import Derived.Test.YtlcghlcpngafgaaStab4
import Derived.Deep.DeepCutAuto
namespace Go.Proofs.Ytlcghlcpngafgaa
open Go.Shelf Go.RowKit Go.Lib Go.Sort Mrg Go.Proofs.YtlcghlcpngafgaaW.PrintWords Go.Proofs.YtlcghlcpngafgaaW.PrintMore
set_option linter.unusedVariables false

/-- Some row d1 of which R holds. -/
def RowIs {m : Nat} (w : World) (blk sz : Nat) (R : (Nat → Fin (m + 1)) → Prop) (W : World) : Prop := ∃ d1 : Array (Fin (m + 1)), d1.size = sz ∧ At w blk d1 W ∧ R (atA d1)
/-- What symMergeCmpFunc is called with, and what it makes of it. -/
def Merges {m : Nat} (l : List Int) (B blk cap sz : Nat) (w : World) (n : Nat) : Prop :=
  ∀ (a mm b : Nat) (d : Array (Fin (m + 1))) (W : World), b - a ≤ n → a < mm → mm < b → b ≤ sz → d.size = sz → At w blk d W → Srt (kO l) pO (atA d) a mm → Srt (kO l) pO (atA d) mm b → Tie pO (atA d) a mm b →
    Calls Try.prog 44 #[.slice (some ⟨blk, 0, none⟩) sz cap, .int .i64 a, .int .i64 mm, .int .i64 b, .func (.func 30) #[] #[.pointer (some ⟨B, 0, none⟩)]] W (Turned w blk sz fun f => Srt (kO l) pO f a b ∧ Same (atA d) f a b)

set_option maxHeartbeats 8000000 in
set_option maxRecDepth 1000000 in
theorem sym_mid {m : Nat} (l : List Int) (hl : l.length = m + 1) (A : Option Addr) (c0 B blk cap sz : Nat) (w0 w W : World) (H : Held l A c0 B blk w0 w) (hB : Base m w blk sz) (n : Nat) (IH : Merges (m := m) l B blk cap sz w n) (a mm b : Nat) (hn : b - a ≤ n + 1) (ham : a + 1 < mm) (hmb : mm + 1 < b) (hb : b ≤ sz) (d : Array (Fin (m + 1))) (hd : d.size = sz) (hW : At w blk d W)
    (hs : Srt (kO l) pO (atA d) a mm) (hr : Srt (kO l) pO (atA d) mm b) (ht : Tie pO (atA d) a mm b) :
    Calls Try.prog 44 #[.slice (some ⟨blk, 0, none⟩) sz cap, .int .i64 a, .int .i64 mm, .int .i64 b, .func (.func 30) #[] #[.pointer (some ⟨B, 0, none⟩)]] W (Turned w blk sz fun f => Srt (kO l) pO f a b ∧ Same (atA d) f a b) := by
  have HB := Lib.hid hB; have HW := Lib.hid hW; have HD := Lib.hid hd; have HH := Lib.hid H; have HL := Lib.hid hl; have HS := Lib.hid hs; have HR := Lib.hid hr; have HT := Lib.hid ht; have HI := Lib.hid IH
  have hsz := hB.1
  have d0 : (((mm : Int) - (a : Int)) == 1) = false := by simp; omega
  have d0' : (((b : Int) - (mm : Int)) == 1) = false := by simp; omega
  obtain ⟨mid, hmid⟩ : ∃ mid, mid = (a + b) / 2 := ⟨_, rfl⟩
  obtain ⟨s0, r0, h0⟩ : ∃ s0 r0, (mid < mm ∧ s0 = mid + mm - b ∧ r0 = mid) ∨ (mm ≤ mid ∧ s0 = a ∧ r0 = mm) := by
    by_cases q : mid < mm
    · exact ⟨_, _, .inl ⟨q, rfl, rfl⟩⟩
    · exact ⟨_, _, .inr ⟨by omega, rfl, rfl⟩⟩
  obtain ⟨N, hN⟩ : ∃ N, N = mid + mm := ⟨_, rfl⟩
  obtain ⟨p, hp⟩ : ∃ p, p = mid + mm - 1 := ⟨_, rfl⟩
  have t1 : ((a : Int) + (b : Int)) / 2 = (mid : Int) := by omega
  have t2 : (mid : Int) + (mm : Int) = (N : Int) := by omega
  have t3 : (N : Int) - 1 = (p : Int) := by omega
  have q1 : (a : Int) + 1 < (mm : Int) := by omega
  have q2 : (mm : Int) + 1 < (b : Int) := by omega
  have q3 : (b : Int) ≤ (sz : Int) := by omega
  have g1 : a < mid := by omega
  have g2 : mid < b := by omega
  have g3 : s0 ≤ r0 := by omega
  have g4 : r0 ≤ mm := by omega
  have g5 : r0 ≤ mid := by omega
  have g6 : a ≤ s0 := by omega
  have g7 : N < 2000 := by omega
  have g8 : mid + mm ≤ s0 + b := by omega
  have HMID := Lib.hid hmid; have HN := Lib.hid hN; have HP := Lib.hid hp; have H0 := Lib.hid h0
  have HT2 := Lib.hid t2
  obtain ⟨bq, hbq⟩ : ∃ bq, decide (mid < mm) = bq := ⟨_, rfl⟩
  have HQ : Hid ((bq = true → s0 = mid + mm - b ∧ r0 = mid ∧ mm + mid ≥ b) ∧ (bq = false → s0 = a ∧ r0 = mm)) := by
    refine ⟨fun h => ?_, fun h => ?_⟩
    · rw [h] at hbq; have := of_decide_eq_true hbq; omega
    · rw [h] at hbq; have := of_decide_eq_false hbq; omega
  clear hB hW hd H hl hs hr ht IH hmid hN hp h0
  go_enter Try.func44, Try.ntmps44
  go_upto_if 140 with (fail)
  go_cut [20, 21] (fun v20 v21 wc => v20 = .int .i64 (s0 : Int) ∧ v21 = .int .i64 (r0 : Int) ∧ wc = W)
  case first => as_aux_lemma =>
    clear hbq
    cases bq
    · have HZ := Lib.hid (HQ.out.2 rfl)
      clear HQ
      go_wp2
      go_meet
      case rel => exact ⟨by rw [HZ.out.1], by rw [HZ.out.2], rfl⟩
    · have HZ := Lib.hid (HQ.out.1 rfl)
      clear HQ
      go_wp2
      go_meet
      case rel => exact ⟨congrArg (Value.int .i64) (by have := HZ.out; have := HN.out; omega), by rw [HZ.out.2.1], rfl⟩
  case rest => as_aux_lemma =>
    obtain ⟨rfl, rfl, rfl⟩ := hcut
    clear hbq
    go_wp2
    go_loopg [20, 21] r0 (fun gk vs vr wr => ∃ (s r : Nat), vs = .int .i64 (s : Int) ∧ vr = .int .i64 (r : Int) ∧ s0 ≤ s ∧ s ≤ r ∧ r ≤ r0 ∧ r - s ≤ gk ∧ Hid (At w blk d wr) ∧ Hid (s0 < s → ¬ kO l (atA d (mid + mm - 1 - (s - 1))) < kO l (atA d (s - 1))) ∧ Hid (r < r0 → kO l (atA d (mid + mm - 1 - r)) < kO l (atA d r)))
    case atStart => exact ⟨s0, r0, rfl, rfl, Nat.le_refl _, g3, Nat.le_refl _, by omega, HW.out, (fun h => by omega), (fun h => by omega)⟩
    case round =>
      obtain ⟨s, r, rfl, rfl, hi, hij, hj, hg, HA, HLo, HHi⟩ := hrel
      by_cases hlt : s < r
      · have d1 : decide ((s : Int) < (r : Int)) = true := decide_eq_true (by omega)
        obtain ⟨c, hh⟩ : ∃ c, c = (s + r) / 2 := ⟨_, rfl⟩
        have t4 : ((s : Int) + (r : Int)) / 2 = (c : Int) := by omega
        have h1 : s ≤ c := by omega
        have h2 : c < r := by omega
        clear hh
        obtain ⟨pc, hpc⟩ : ∃ pc, mid + mm - 1 - c = pc := ⟨_, rfl⟩
        have b1 : pc < b := by omega
        have t5 : IntKind.i64.wrap ((p : Int) - (c : Int)) = (pc : Int) := by have := HP.out; rw [IntKind.wrap_i64]; omega
        obtain ⟨cx, _⟩ := HA.out.cell HB.out HD.out (i := pc) (by omega)
        obtain ⟨cy, _⟩ := HA.out.cell HB.out HD.out (i := c) (by omega)
        have HC := Lib.hid (fun n => cmp_at HL.out HH.out HA.out (atA d pc) (atA d c) n)
        obtain ⟨R, hR⟩ : ∃ R, cfO l (atA d pc) (atA d c) = R := ⟨_, rfl⟩
        rw [hR] at HC
        have hRk := cfO_lt l (atA d pc) (atA d c)
        rw [hR, ← hpc] at hRk
        have HRK := Lib.hid hRk
        have HPC := Lib.hid hpc
        clear hR hRk hpc
        generalize ((atA d pc).val : Int) = x at *
        generalize ((atA d c).val : Int) = y at *
        have p1 : (0 : Int) ≤ (c : Int) := by omega
        have p2 : (c : Int) < (sz : Int) := by omega
        have p3 : (0 : Int) ≤ (pc : Int) := by omega
        have p4 : (pc : Int) < (sz : Int) := by omega
        by_cases hc : R < 0
        · have d2 : decide (R < 0) = true := decide_eq_true hc
          go_upto_region 35 with (fail)
          go_quiet ((go_at_call 30; exact Calls.quiet_of (HC.out _)))
          rename_i nq
          have HA2 := Lib.hid (HA.out.drewN nq)
          clear HA cx cy HC
          generalize wr.drewN nq = wq at *
          go_wp2
          go_roundg (c - s)
          case measure => omega
          case rel => exact ⟨s, c, rfl, rfl, hi, h1, by omega, by omega, HA2.out, (fun h => by have := HLo.out h; omega), fun _ => HRK.out.1 hc⟩
        · have d2 : decide (R < 0) = false := decide_eq_false hc
          go_upto_region 35 with (fail)
          go_quiet ((go_at_call 30; exact Calls.quiet_of (HC.out _)))
          rename_i nq
          have HA2 := Lib.hid (HA.out.drewN nq)
          clear HA cx cy HC
          generalize wr.drewN nq = wq at *
          go_wp2
          go_roundg (r - (c + 1))
          case measure => omega
          case rel => exact ⟨c + 1, r, by go_num, rfl, by omega, by omega, hj, by omega, HA2.out, (fun _ => by
            have k2 : ¬ kO l (atA d (mid + mm - 1 - c)) < kO l (atA d c) := fun g => by have := HRK.out.2 g; omega
            simp only [Nat.add_sub_cancel]
            omega), HHi.out⟩
      · have d1 : decide ((s : Int) < (r : Int)) = false := decide_eq_false (by omega)
        obtain rfl : s = r := by omega
        have hcut := cut_of (key := kO l) (plc := pO) (show a < mm by omega) (show mm < b by omega) HMID.out H0.out hi hj HS.out HR.out (fun h => by have := HLo.out h; omega) HHi.out
        have HCUT := Lib.hid hcut
        obtain ⟨c1, c2, c3, c4, c5, _, _⟩ := hcut
        obtain ⟨en, hen⟩ : ∃ en, en = mid + mm - s := ⟨_, rfl⟩
        have t6 : (N : Int) - (s : Int) = (en : Int) := by have := HN.out; omega
        have HEN := Lib.hid hen
        rw [← hen] at c4 c5
        clear hen hij hlt hi hj hg
        clear HLo HHi H0 HMID
        have HC1 : Hid (a ≤ s) := c1
        have HC2 : Hid (s ≤ mm) := c2
        have HC3 : Hid (s ≤ mid) := c3
        have HC4 : Hid (mm ≤ en) := c4
        have HC5 : Hid (en ≤ b) := c5
        obtain ⟨wo, rfl⟩ : ∃ wo : World, wo = wr := ⟨_, rfl⟩
        obtain ⟨br, hbr⟩ : ∃ br, br = decide (s < mm ∧ mm < en) := ⟨_, rfl⟩
        have Hbr := Lib.hid hbr
        clear hbr
        go_upto_region 39 with (fail)
        go_cut [185] (fun vg wc => vg = .bool br ∧ wo = wc)
        case first => as_aux_lemma =>
          by_cases x1 : s < mm
          · have y1 : decide ((s : Int) < (mm : Int)) = true := decide_eq_true (by omega)
            by_cases x2 : mm < en
            · have y2 : decide ((mm : Int) < (en : Int)) = true := decide_eq_true (by omega)
              have HX : Hid (br = true) := Hbr.out.trans (decide_eq_true ⟨x1, x2⟩)
              go_wp2
              go_meet
              case rel => exact ⟨by rw [HX.out], rfl⟩
            · have y2 : decide ((mm : Int) < (en : Int)) = false := decide_eq_false (by omega)
              have HX : Hid (br = false) := Hbr.out.trans (decide_eq_false (fun h => x2 h.2))
              go_wp2
              go_meet
              case rel => exact ⟨by rw [HX.out], rfl⟩
          · have y1 : decide ((s : Int) < (mm : Int)) = false := decide_eq_false (by omega)
            have HX : Hid (br = false) := Hbr.out.trans (decide_eq_false (fun h => x1 h.1))
            go_wp2
            go_meet
            case rel => exact ⟨by rw [HX.out], rfl⟩
        case rest => as_aux_lemma =>
          obtain ⟨rfl, rfl⟩ := hcut
          go_upto_if 185 with (fail)
          go_cut [] (fun wc => Hid (RowIs w blk sz (fun f => Rot (atA d) f s mm en) wc))
          case first => as_aux_lemma =>
            cases br
            · have hn : ¬ (s < mm ∧ mm < en) := of_decide_eq_false Hbr.out.symm
              have HR0 : Hid (Rot (atA d) (atA d) s mm en) := by
                by_cases q : s = mm
                · rw [q]; exact Rot.none_l _ HC4.out
                · have : en = mm := by have := HC4.out; have := HC2.out; omega
                  rw [this]; exact Rot.none_r _ HC2.out
              clear hn
              go_wp2
              go_meet
              case rel => exact ⟨d, HD.out, HA.out, HR0.out⟩
            · have hy : s < mm ∧ mm < en := of_decide_eq_true Hbr.out.symm
              have HC := Lib.hid (rotate_calls blk cap sz s mm en d w wo (.func (.func 30) #[] #[.pointer (some ⟨B, 0, none⟩)]) HB.out HD.out HA.out hy.1 hy.2 (by have := HC5.out; omega))
              clear hy
              go_wp2_with (go_at_call 47; (with_reducible refine HC.out.mono ?_); rintro e wn ⟨rfl, dn, hdn, hAn, hRn⟩; have HK2 := Lib.hid hdn; have HA2 := Lib.hid hAn; have HR2 := Lib.hid hRn; clear hdn hAn hRn)
              go_meet
              case rel => exact ⟨dn, HK2.out, HA2.out, HR2.out⟩
          case rest => as_aux_lemma =>
            obtain ⟨d1, hd1, hA1, hR1⟩ := hcut.out
            clear hcut Hbr HA
            have hRR := hR1
            rw [HEN.out] at hRR
            have hh := halves (show a < mm by omega) (show mm < b by omega) HS.out HR.out HT.out HCUT.out hRR
            rw [← HEN.out] at hh
            have HHV := Lib.hid hh
            have HSM := Lib.hid (Rot.same (a := a) (b := b) hR1 HC2.out HC4.out HC1.out HC5.out)
            have HD1 := Lib.hid hd1
            have HA1 := Lib.hid hA1
            clear hd1 hA1 hR1 hRR hh HS HR HT HCUT
            obtain ⟨wp, rfl⟩ : ∃ wp : World, wp = wc := ⟨_, rfl⟩
            obtain ⟨bs, hbs⟩ : ∃ bs, bs = decide (a < s ∧ s < mid) := ⟨_, rfl⟩
            have Hbs := Lib.hid hbs
            clear hbs
            go_upto_region 41 with (fail)
            go_cut [199] (fun vg wc => vg = .bool bs ∧ wp = wc)
            case first => as_aux_lemma =>
              by_cases x1 : a < s
              · have y1 : decide ((a : Int) < (s : Int)) = true := decide_eq_true (by omega)
                by_cases x2 : s < mid
                · have y2 : decide ((s : Int) < (mid : Int)) = true := decide_eq_true (by omega)
                  have HX : Hid (bs = true) := Hbs.out.trans (decide_eq_true ⟨x1, x2⟩)
                  go_wp2
                  go_meet
                  case rel => exact ⟨by rw [HX.out], rfl⟩
                · have y2 : decide ((s : Int) < (mid : Int)) = false := decide_eq_false (by omega)
                  have HX : Hid (bs = false) := Hbs.out.trans (decide_eq_false (fun h => x2 h.2))
                  go_wp2
                  go_meet
                  case rel => exact ⟨by rw [HX.out], rfl⟩
              · have y1 : decide ((a : Int) < (s : Int)) = false := decide_eq_false (by omega)
                have HX : Hid (bs = false) := Hbs.out.trans (decide_eq_false (fun h => x1 h.1))
                go_wp2
                go_meet
                case rel => exact ⟨by rw [HX.out], rfl⟩
            case rest => as_aux_lemma =>
              obtain ⟨rfl, rfl⟩ := hcut
              go_upto_if 199 with (fail)
              go_cut [] (fun wc => Hid (RowIs w blk sz (fun f => Srt (kO l) pO f a mid ∧ Same (atA d1) f a mid) wc))
              case first => as_aux_lemma =>
                cases bs
                · have hn : ¬ (a < s ∧ s < mid) := of_decide_eq_false Hbs.out.symm
                  have HR0 : Hid (Srt (kO l) pO (atA d1) a mid) := by
                    by_cases q : s = mid
                    · have := HHV.out.1; rw [q] at this; exact this
                    · have e : s = a := by have := HC1.out; have := HC3.out; omega
                      have := HHV.out.2.1; rw [e] at this; exact this
                  clear hn
                  go_wp2
                  go_meet
                  case rel => exact ⟨d1, HD1.out, HA1.out, HR0.out, Same.refl _ _ _⟩
                · have hy : a < s ∧ s < mid := of_decide_eq_true Hbs.out.symm
                  have HC := Lib.hid (HI.out a s mid d1 wp (by omega) hy.1 hy.2 (by omega) HD1.out HA1.out HHV.out.1 HHV.out.2.1 HHV.out.2.2.1)
                  clear hy
                  go_wp2_with (go_at_call 44; (with_reducible refine HC.out.mono ?_); rintro e wn ⟨rfl, dn, hdn, hAn, hRn⟩; have HK2 := Lib.hid hdn; have HA2 := Lib.hid hAn; have HR2 := Lib.hid hRn; clear hdn hAn hRn)
                  go_meet
                  case rel => exact ⟨dn, HK2.out, HA2.out, HR2.out⟩
              case rest => as_aux_lemma =>
                obtain ⟨d2, hd2, hA2, hR2, hR2'⟩ := hcut.out
                have HD2 := Lib.hid hd2; have HA2 := Lib.hid hA2; have HR2 := Lib.hid hR2; have HS2 := Lib.hid hR2'
                clear hcut Hbs HA1 hd2 hA2 hR2 hR2'
                have HL2 : Hid (Srt (kO l) pO (atA d2) mid en) := HS2.out.srt_far (.inr (Nat.le_refl _)) HHV.out.2.2.2.1
                have HM2 : Hid (Srt (kO l) pO (atA d2) en b) := HS2.out.srt_far (.inr (by have := HC4.out; have := HEN.out; have := HC2.out; omega)) HHV.out.2.2.2.2.1
                have HT2' : Hid (Tie pO (atA d2) mid en b) := fun i j q1 q2 q3 q4 => by
                  have h1 := HS2.out.1 i (.inr q1)
                  have h2 := HS2.out.1 j (.inr (by omega))
                  rw [h1, h2]; exact HHV.out.2.2.2.2.2.1 i j q1 q2 q3 q4
                obtain ⟨wq, rfl⟩ : ∃ wq : World, wq = wc := ⟨_, rfl⟩
                obtain ⟨bt, hbt⟩ : ∃ bt, bt = decide (mid < en ∧ en < b) := ⟨_, rfl⟩
                have Hbt := Lib.hid hbt
                clear hbt
                go_upto_region 43 with (fail)
                go_cut [213] (fun vg wc => vg = .bool bt ∧ wq = wc)
                case first => as_aux_lemma =>
                  by_cases x1 : mid < en
                  · have y1 : decide ((mid : Int) < (en : Int)) = true := decide_eq_true (by omega)
                    by_cases x2 : en < b
                    · have y2 : decide ((en : Int) < (b : Int)) = true := decide_eq_true (by omega)
                      have HX : Hid (bt = true) := Hbt.out.trans (decide_eq_true ⟨x1, x2⟩)
                      go_wp2
                      go_meet
                      case rel => exact ⟨by rw [HX.out], rfl⟩
                    · have y2 : decide ((en : Int) < (b : Int)) = false := decide_eq_false (by omega)
                      have HX : Hid (bt = false) := Hbt.out.trans (decide_eq_false (fun h => x2 h.2))
                      go_wp2
                      go_meet
                      case rel => exact ⟨by rw [HX.out], rfl⟩
                  · have y1 : decide ((mid : Int) < (en : Int)) = false := decide_eq_false (by omega)
                    have HX : Hid (bt = false) := Hbt.out.trans (decide_eq_false (fun h => x1 h.1))
                    go_wp2
                    go_meet
                    case rel => exact ⟨by rw [HX.out], rfl⟩
                case rest => as_aux_lemma =>
                  obtain ⟨rfl, rfl⟩ := hcut
                  cases bt
                  · have hn : ¬ (mid < en ∧ en < b) := of_decide_eq_false Hbt.out.symm
                    have HR0 : Hid (Srt (kO l) pO (atA d2) mid b) := by
                      by_cases q : en = b
                      · have := HL2.out; rw [q] at this; exact this
                      · have e : en = mid := by have := HC5.out; have := HC2.out; have := HEN.out; omega
                        have := HM2.out; rw [e] at this; exact this
                    clear hn
                    go_wp2
                    go_end0
                    have hj := Bef.join (show a ≤ mid by omega) (show mid ≤ b by omega) HHV.out.2.2.2.2.2.2 HS2.out HR2.out (Same.refl _ _ _) HR0.out
                    exact ⟨rfl, d2, HD2.out, HA2.out, hj.1, HSM.out.trans hj.2⟩
                  · have hy : mid < en ∧ en < b := of_decide_eq_true Hbt.out.symm
                    have HC := Lib.hid (HI.out mid en b d2 wq (by omega) hy.1 hy.2 hb HD2.out HA2.out HL2.out HM2.out HT2'.out)
                    clear hy
                    go_wp2_with (go_at_call 44; (with_reducible refine HC.out.mono ?_); rintro e wn ⟨rfl, dn, hdn, hAn, hRn⟩; have HK3 := Lib.hid hdn; have HA3 := Lib.hid hAn; have HR3 := Lib.hid hRn; clear hdn hAn hRn)
                    go_end0
                    have hj := Bef.join (show a ≤ mid by omega) (show mid ≤ b by omega) HHV.out.2.2.2.2.2.2 HS2.out HR2.out HR3.out.2 HR3.out.1
                    exact ⟨rfl, dn, HK3.out, HA3.out, hj.1, HSM.out.trans hj.2⟩
/-- slices.symMergeCmpFunc: two sorted neighbours become one. -/
theorem sym_calls {m : Nat} (l : List Int) (hl : l.length = m + 1) (A : Option Addr) (c0 B blk cap sz : Nat) (w0 w : World) (H : Held l A c0 B blk w0 w) (hB : Base m w blk sz) : ∀ n, Merges (m := m) l B blk cap sz w n := by
  intro n
  induction n with
  | zero => intro a mm b d W hn ham hmb; omega
  | succ n ih =>
    intro a mm b d W hn ham hmb hb hd hW h1 h2 h3
    by_cases c1 : mm = a + 1
    · exact sym_left l hl A c0 B blk cap sz w0 w W H hB a mm b c1 hmb hb d hd hW h2 h3
    · by_cases c2 : b = mm + 1
      · exact sym_right l hl A c0 B blk cap sz w0 w W H hB a mm b (by omega) c2 hb d hd hW h1 (c2 ▸ h3)
      · exact sym_mid l hl A c0 B blk cap sz w0 w W H hB n ih a mm b hn (by omega) (by omega) hb d hd hW h1 h2 h3
end Go.Proofs.Ytlcghlcpngafgaa
