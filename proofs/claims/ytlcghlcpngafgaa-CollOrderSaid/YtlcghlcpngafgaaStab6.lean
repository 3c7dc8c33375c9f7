/- slices.stableCmpFunc and SortStableFunc at places: the row comes to be sorted by orders, then places. -/
import Derived.Test.YtlcghlcpngafgaaStab5
namespace Go.Proofs.Ytlcghlcpngafgaa
open Go.Shelf Go.RowKit Go.Lib Go.Sort Mrg Go.Proofs.YtlcghlcpngafgaaW.PrintWords Go.Proofs.YtlcghlcpngafgaaW.PrintMore
set_option linter.unusedVariables false

theorem At.put {m : Nat} {w W : World} {blk : Nat} {d d' : Array (Fin (m + 1))} (h : At w blk d W) (hs : d'.size = d.size) (n : Nat) : At w blk d' ((putRow encF W blk 0 d').drewN n) := by
  obtain ⟨q, rfl⟩ := h
  refine ⟨q + n, ?_⟩
  have e : putRow encF ((putRow encF w blk 0 d).drewN q) blk 0 d' = (putRow encF w blk 0 d').drewN q := by
    show (putRow encF (putRow encF w blk 0 d) blk 0 d').drewN q = _
    rw [putRow_putRow encF w blk 0 d d' hs]
  rw [e, World.drewN_drewN]
theorem ins_at {m : Nat} (l : List Int) (hl : l.length = m + 1) (A : Option Addr) (c B blk cap sz : Nat) (hsz : sz = m + 1) (w0 w W : World) (H : Held l A c B blk w0 w) (hB : Base m w blk sz) (a b : Nat) (hab : a ≤ b) (hb : b ≤ sz) (d : Array (Fin (m + 1))) (hd : d.size = sz) (hW : At w blk d W) (ha : Asc pO (atA d) a b) :
    Calls Try.prog 43 #[.slice (some ⟨blk, 0, none⟩) sz cap, .int .i64 a, .int .i64 b, .func (.func 30) #[] #[.pointer (some ⟨B, 0, none⟩)]] W (Turned w blk sz fun f => Srt (kO l) pO f a b ∧ Same (atA d) f a b) := by
  have h1 := ins_calls l hl A c B blk cap w0 W (held_at H hW) d (by omega) (by have := hB.1; omega) (hW.holds hB hd) a b hab (by omega)
  rw [hd] at h1
  obtain ⟨s1, s2, s3⟩ := ins_sort (key := kO l) (plc := pO) (ltOf (cfO l)) (ltOf_key l) a b d hab (by omega) ha
  exact h1.mono fun e w' ⟨he, n, hw⟩ => ⟨he, _, s1.trans hd, by rw [hw]; exact hW.put s1 n, s2, s3⟩
/-- Behind the blocks up to a. -/
structure Blocks (l : List Int) {m : Nat} (d dk : Nat → Fin (m + 1)) (sz a : Nat) : Prop where
  mul : ∃ k, a = k * 20
  run : Run (kO l) pO dk sz 20 0 a
  asc : Asc pO dk a sz
  cross : ∀ i j, i < a → a ≤ j → j < sz → pO (dk i) < pO (dk j)
  same : Same d dk 0 sz
/-- Behind the merges of runs of s up to a. -/
structure Merged (l : List Int) {m : Nat} (d dk : Nat → Fin (m + 1)) (sz s a : Nat) : Prop where
  mul : ∃ k, a = k * (2 * s)
  run2 : Run (kO l) pO dk sz (2 * s) 0 a
  run : Run (kO l) pO dk sz s a sz
  same : Same d dk 0 sz
theorem Blocks.next {l : List Int} {m : Nat} {d dk dn : Nat → Fin (m + 1)} {sz a b : Nat} (h : Blocks l d dk sz a) (hb : b = min (a + 20) sz) (ha : a ≤ sz) (k : Srt (kO l) pO dn a b) (s : Same dk dn a b) : Blocks l d dn sz (a + 20) := by
  obtain ⟨r1, r2, r3⟩ := run_block (key := kO l) (plc := pO) (s := 20) (by omega) h.mul hb ha h.run h.asc h.cross k s
  exact ⟨mul_add h.mul, r1, r2, r3, h.same.trans (s.more (Nat.zero_le _) (by omega))⟩
theorem Merged.next {l : List Int} {m : Nat} {d dk dn : Nat → Fin (m + 1)} {sz s a b : Nat} (hs : 0 < s) (h : Merged l d dk sz s a) (hb : b = min (a + 2 * s) sz) (ha : a + s < sz) (k : Srt (kO l) pO dn a b) (sm : Same dk dn a b) : Merged l d dn sz s (a + 2 * s) := by
  obtain ⟨r1, r2⟩ := run_merge (key := kO l) (plc := pO) hs h.mul hb ha h.run2 h.run k sm
  exact ⟨mul_add h.mul, r1, r2, h.same.trans (sm.more (Nat.zero_le _) (by omega))⟩

set_option maxHeartbeats 8000000 in
set_option maxRecDepth 1000000 in
theorem stable_all {m : Nat} (l : List Int) (hl : l.length = m + 1) (A : Option Addr) (c B blk cap sz : Nat) (hsz : sz = m + 1) (w0 w W : World) (H : Held l A c B blk w0 w) (hB : Base m w blk sz) (d : Array (Fin (m + 1))) (hd : d.size = sz) (hW : At w blk d W) (ha : Asc pO (atA d) 0 sz) :
    Calls Try.prog 38 #[.slice (some ⟨blk, 0, none⟩) sz cap, .int .i64 sz, .func (.func 30) #[] #[.pointer (some ⟨B, 0, none⟩)]] W (Turned w blk sz fun f => Srt (kO l) pO f 0 sz ∧ Same (atA d) f 0 sz) := by
  have HB := Lib.hid hB; have HW := Lib.hid hW; have HD := Lib.hid hd; have HH := Lib.hid H; have HL := Lib.hid hl; have HS := Lib.hid hsz; have HA0 := Lib.hid ha
  have HSYM := Lib.hid (sym_calls l hl A c B blk cap sz w0 w H hB sz)
  have hz := hB.1
  clear hB hW hd H hl hsz ha
  go_enter Try.func38, Try.ntmps38
  go_wp2
  go_loopg [7, 8] sz (fun gk va vb wr => ∃ (a b : Nat) (dk : Array (Fin (m + 1))), va = .int .i64 (a : Int) ∧ vb = .int .i64 (b : Int) ∧ Hid (b = a + 20) ∧ a ≤ sz ∧ sz - a ≤ gk ∧ Hid (dk.size = sz) ∧ Hid (At w blk dk wr) ∧ Hid (Blocks l (atA d) (atA dk) sz a))
  case atStart => exact ⟨0, 20, d, rfl, rfl, rfl, Nat.zero_le _, by omega, HD.out, HW.out, ⟨⟨0, rfl⟩, fun t _ _ q => by omega, HA0.out, fun i j q => by omega, Same.refl _ _ _⟩⟩
  case round =>
    obtain ⟨a, b, dk, rfl, rfl, HAB, ha, hg, HK, HA, HP⟩ := hrel
    by_cases hlt : b ≤ sz
    · have d1 : decide ((b : Int) ≤ (sz : Int)) = true := decide_eq_true (by omega)
      have HC := Lib.hid (ins_at l HL.out A c B blk cap sz HS.out w0 w wr HH.out HB.out a b (by have := HAB.out; omega) hlt dk HK.out HA.out (fun i j q1 q2 q3 => HP.out.asc i j q1 q2 (by omega)))
      obtain ⟨b2, hb2⟩ : ∃ b2, b2 = b + 20 := ⟨_, rfl⟩
      have t1 : (b : Int) + 20 = (b2 : Int) := by omega
      have HB2 := Lib.hid hb2
      clear hb2 HA
      go_wp2_with (go_at_call 43; (with_reducible refine HC.out.mono ?_); rintro e wn ⟨rfl, dn, hdn, hAn, hRn⟩; have HK2 := Lib.hid hdn; have HA2 := Lib.hid hAn; have HR2 := Lib.hid hRn; clear hdn hAn hRn)
      go_roundg (sz - b)
      case measure => have := HAB.out; omega
      case rel => exact ⟨b, b2, dn, rfl, rfl, HB2.out, hlt, Nat.le_refl _, HK2.out, HA2.out, by
        have e := HAB.out
        have := HP.out.next (b := b) (by omega) ha HR2.out.1 HR2.out.2
        rw [← e] at this; exact this⟩
    · have d1 : decide ((b : Int) ≤ (sz : Int)) = false := decide_eq_false (by omega)
      have HC := Lib.hid (ins_at l HL.out A c B blk cap sz HS.out w0 w wr HH.out HB.out a sz ha (Nat.le_refl _) dk HK.out HA.out HP.out.asc)
      clear HA
      go_wp2_with (go_at_call 43; (with_reducible refine HC.out.mono ?_); rintro e wn ⟨rfl, dn, hdn, hAn, hRn⟩; have HK2 := Lib.hid hdn; have HA2 := Lib.hid hAn; have HR2 := Lib.hid hRn; clear hdn hAn hRn)
      have HBL : Hid (Blocks l (atA d) (atA dn) sz (a + 20)) := HP.out.next (by have := HAB.out; omega) ha HR2.out.1 HR2.out.2
      have HRUN : Hid (Run (kO l) pO (atA dn) sz 20 0 sz) := fun t q1 q2 q3 => HBL.out.run t q1 q2 (by have := HAB.out; omega)
      clear HP HR2 HC
      go_loopg [6] 2000 (fun gk vs wr => ∃ (s : Nat) (dk : Array (Fin (m + 1))), vs = .int .i64 (s : Int) ∧ 20 ≤ s ∧ s ≤ 2000 ∧ 2000 - s ≤ gk ∧ Hid (dk.size = sz) ∧ Hid (At w blk dk wr) ∧ Hid (Run (kO l) pO (atA dk) sz s 0 sz ∧ Same (atA d) (atA dk) 0 sz))
      case atStart => exact ⟨20, dn, rfl, Nat.le_refl _, by omega, by omega, HK2.out, HA2.out, HRUN.out, HBL.out.same⟩
      case round =>
        obtain ⟨s, ds, rfl, hs0, hs1, hg, HKs, HAs, HPs⟩ := hrel
        obtain ⟨wo, rfl⟩ : ∃ wo : World, wo = wr := ⟨_, rfl⟩
        by_cases hlt : s < sz
        · have d2 : decide ((s : Int) < (sz : Int)) = true := decide_eq_true (by omega)
          obtain ⟨s2, hs2⟩ : ∃ s2, s2 = 2 * s := ⟨_, rfl⟩
          have t1 : 2 * (s : Int) = (s2 : Int) := by omega
          have t2 : (s : Int) * 2 = (s2 : Int) := by omega
          have b1 : s2 < 2000 := by omega
          have HS2 := Lib.hid hs2
          clear hs2
          go_wp2
          go_loopg [7, 8] sz (fun gk va vb wr => ∃ (a b : Nat) (dk : Array (Fin (m + 1))), va = .int .i64 (a : Int) ∧ vb = .int .i64 (b : Int) ∧ Hid (b = a + s2) ∧ a ≤ sz ∧ sz - a ≤ gk ∧ Hid (dk.size = sz) ∧ Hid (At w blk dk wr) ∧ Hid (Merged l (atA d) (atA dk) sz s a))
          case atStart => exact ⟨0, s2, ds, rfl, rfl, (Nat.zero_add s2).symm, Nat.zero_le _, by omega, HKs.out, HAs.out, ⟨⟨0, by simp⟩, fun t _ _ q => by omega, HPs.out.1, HPs.out.2⟩⟩
          case round =>
            obtain ⟨a, b, dk, rfl, rfl, HAB, ha, hg, HK, HA, HP⟩ := hrel
            obtain ⟨mm, hmm⟩ : ∃ mm, mm = a + s := ⟨_, rfl⟩
            have t3 : (a : Int) + (s : Int) = (mm : Int) := by omega
            have HMM := Lib.hid hmm
            clear hmm
            by_cases hlt2 : b ≤ sz
            · have d3 : decide ((b : Int) ≤ (sz : Int)) = true := decide_eq_true (by omega)
              obtain ⟨b2, hb2⟩ : ∃ b2, b2 = b + s2 := ⟨_, rfl⟩
              have t4 : (b : Int) + (s2 : Int) = (b2 : Int) := by omega
              have HB2 := Lib.hid hb2
              have HC : Hid _ := Lib.hid (HSYM.out a mm b dk wr (by omega) (by have := HMM.out; omega) (by have := HMM.out; have := HAB.out; have := HS2.out; omega) hlt2 HK.out HA.out
                (by have := (run_prem (by omega) HP.out.mul (by have := HAB.out; have := HS2.out; omega) HP.out.run).1; rw [← HMM.out] at this; exact this)
                (by have := (run_prem (by omega) HP.out.mul (by have := HAB.out; have := HS2.out; omega) HP.out.run).2.1; rw [← HMM.out] at this; exact this.sub (Nat.le_refl _) (by have := HAB.out; have := HS2.out; omega))
                (by have := (run_prem (by omega) HP.out.mul (by have := HAB.out; have := HS2.out; omega) HP.out.run).2.2; rw [← HMM.out] at this; exact fun i j q1 q2 q3 q4 => this i j q1 q2 q3 (by have := HAB.out; have := HS2.out; omega)))
              clear hb2 HA
              go_wp2_with (go_at_call 44; (with_reducible refine HC.out.mono ?_); rintro e wn ⟨rfl, dn, hdn, hAn, hRn⟩; have HK2 := Lib.hid hdn; have HA2 := Lib.hid hAn; have HR2 := Lib.hid hRn; clear hdn hAn hRn)
              go_roundg (sz - b)
              case measure => have := HAB.out; have := HS2.out; omega
              case rel => exact ⟨b, b2, dn, rfl, rfl, HB2.out, hlt2, Nat.le_refl _, HK2.out, HA2.out, by
                have e := HAB.out
                have e2 := HS2.out
                have := HP.out.next (b := b) (by omega) (by omega) (by omega) HR2.out.1 HR2.out.2
                have e3 : a + 2 * s = b := by omega
                rw [e3] at this; exact this⟩
            · have d3 : decide ((b : Int) ≤ (sz : Int)) = false := decide_eq_false (by omega)
              by_cases hlt3 : mm < sz
              · have d4 : decide ((mm : Int) < (sz : Int)) = true := decide_eq_true (by omega)
                have HC : Hid _ := Lib.hid (HSYM.out a mm sz dk wr (by omega) (by have := HMM.out; omega) hlt3 (Nat.le_refl _) HK.out HA.out
                  (by have := (run_prem (by omega) HP.out.mul (by have := HMM.out; omega) HP.out.run).1; rw [← HMM.out] at this; exact this)
                  (by have := (run_prem (by omega) HP.out.mul (by have := HMM.out; omega) HP.out.run).2.1; rw [← HMM.out] at this; exact this.sub (Nat.le_refl _) (by have := HAB.out; have := HS2.out; omega))
                  (by have := (run_prem (by omega) HP.out.mul (by have := HMM.out; omega) HP.out.run).2.2; rw [← HMM.out] at this; exact fun i j q1 q2 q3 q4 => this i j q1 q2 q3 (by have := HAB.out; have := HS2.out; omega)))
                clear HA
                go_wp2_with (go_at_call 44; (with_reducible refine HC.out.mono ?_); rintro e wn ⟨rfl, dn, hdn, hAn, hRn⟩; have HK2 := Lib.hid hdn; have HA2 := Lib.hid hAn; have HR2 := Lib.hid hRn; clear hdn hAn hRn)
                go_roundg (2000 - s2)
                case measure => have := HS2.out; omega
                case rel => exact ⟨s2, dn, rfl, by have := HS2.out; omega, by omega, Nat.le_refl _, HK2.out, HA2.out, by
                  have e := HAB.out
                  have e2 := HS2.out
                  have h := HP.out.next (b := sz) (by omega) (by omega) (by have := HMM.out; omega) HR2.out.1 HR2.out.2
                  exact ⟨fun t q1 q2 q3 => by rw [e2] at q1 ⊢; exact h.run2 t q1 q2 (by omega), h.same⟩⟩
              · have d4 : decide ((mm : Int) < (sz : Int)) = false := decide_eq_false (by omega)
                go_wp2
                go_roundg (2000 - s2)
                case measure => have := HS2.out; omega
                case rel => exact ⟨s2, dk, rfl, by have := HS2.out; omega, by omega, Nat.le_refl _, HK.out, HA.out, by
                  have e2 := HS2.out
                  have h := run_last (by omega) HP.out.mul (by have := HMM.out; omega) HP.out.run2 HP.out.run
                  rw [e2]
                  exact ⟨h, HP.out.same⟩⟩
        · have d2 : decide ((s : Int) < (sz : Int)) = false := decide_eq_false (by omega)
          go_wp2
          go_end0
          exact ⟨rfl, ds, HKs.out, HAs.out, run_done (by omega) HPs.out.1, HPs.out.2⟩
set_option maxHeartbeats 2000000 in
set_option maxRecDepth 100000 in
theorem sort_all {m : Nat} (l : List Int) (hl : l.length = m + 1) (A : Option Addr) (c B blk cap sz : Nat) (hsz : sz = m + 1) (w0 w W : World) (H : Held l A c B blk w0 w) (hB : Base m w blk sz) (d : Array (Fin (m + 1))) (hd : d.size = sz) (hW : At w blk d W) (ha : Asc pO (atA d) 0 sz) :
    Calls Try.prog 29 #[.slice (some ⟨blk, 0, none⟩) sz cap, .func (.func 30) #[] #[.pointer (some ⟨B, 0, none⟩)]] W (Turned w blk sz fun f => Srt (kO l) pO f 0 sz ∧ Same (atA d) f 0 sz) := by
  have HC := Lib.hid (stable_all l hl A c B blk cap sz hsz w0 w W H hB d hd hW ha)
  clear hB hW hd H hl hsz ha
  go_enter Try.func29, Try.ntmps29
  go_wp2_with (first | (go_at_call 38; (with_reducible refine HC.out.mono ?_); rintro e wn ⟨rfl, dn, hdn, hAn, hRn⟩; have HK3 := Lib.hid hdn; have HA3 := Lib.hid hAn; have HR3 := Lib.hid hRn; clear hdn hAn hRn))
  go_end0
  exact ⟨rfl, dn, HK3.out, HA3.out, HR3.out⟩
end Go.Proofs.Ytlcghlcpngafgaa
