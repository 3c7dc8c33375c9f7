/- slices.symMergeCmpFunc at places, where the right side is one place. -/
import Derived.Test.YtlcghlcpngafgaaStab3
namespace Go.Proofs.Ytlcghlcpngafgaa
open Go.Shelf Go.RowKit Go.Lib Go.Sort Mrg Go.Proofs.YtlcghlcpngafgaaW.PrintWords Go.Proofs.YtlcghlcpngafgaaW.PrintMore
set_option linter.unusedVariables false

set_option maxHeartbeats 4000000 in
set_option maxRecDepth 1000000 in
theorem sym_right {m : Nat} (l : List Int) (hl : l.length = m + 1) (A : Option Addr) (c B blk cap sz : Nat) (w0 w W : World) (H : Held l A c B blk w0 w) (hB : Base m w blk sz) (a mm b : Nat) (ham : a + 1 < mm) (hm : b = mm + 1) (hb : b ≤ sz) (d : Array (Fin (m + 1))) (hd : d.size = sz) (hW : At w blk d W)
    (hs : Srt (kO l) pO (atA d) a mm) (ht : Tie pO (atA d) a mm b) :
    Calls Try.prog 44 #[.slice (some ⟨blk, 0, none⟩) sz cap, .int .i64 a, .int .i64 mm, .int .i64 b, .func (.func 30) #[] #[.pointer (some ⟨B, 0, none⟩)]] W (Turned w blk sz fun f => Srt (kO l) pO f a b ∧ Same (atA d) f a b) := by
  have HB := Lib.hid hB; have HW := Lib.hid hW; have HD := Lib.hid hd; have HH := Lib.hid H; have HL := Lib.hid hl; have HS := Lib.hid hs; have HT := Lib.hid ht; have HM := Lib.hid hm
  have hsz := hB.1
  have d0 : (((mm : Int) - (a : Int)) == 1) = false := by simp; omega
  have d0' : (((b : Int) - (mm : Int)) == 1) = true := by simp; omega
  have q1 : (a : Int) < (mm : Int) := by omega
  have q2 : (mm : Int) < (b : Int) := by omega
  have q3 : (b : Int) ≤ (sz : Int) := by omega
  clear hB hW hd H hl hs ht hm
  go_enter Try.func44, Try.ntmps44
  go_wp2
  go_loopg [14, 15] mm (fun g1 vi vj wr => ∃ (i j : Nat), vi = .int .i64 (i : Int) ∧ vj = .int .i64 (j : Int) ∧ a ≤ i ∧ i ≤ j ∧ j ≤ mm ∧ j - i ≤ g1 ∧ Hid (At w blk d wr) ∧ Hid (∀ x, a ≤ x → x < i → ¬ kO l (atA d mm) < kO l (atA d x)) ∧ Hid (∀ x, j ≤ x → x < mm → kO l (atA d mm) < kO l (atA d x)))
  case atStart => exact ⟨a, mm, rfl, rfl, Nat.le_refl _, by omega, Nat.le_refl _, by omega, HW.out, (fun x h1 h2 => by omega), (fun x h1 h2 => by omega)⟩
  case round =>
    obtain ⟨i, j, rfl, rfl, hi, hij, hj, hg, HA, HLo, HHi⟩ := hrel
    by_cases hlt : i < j
    · have d1 : decide ((i : Int) < (j : Int)) = true := decide_eq_true (by omega)
      obtain ⟨h, hh⟩ : ∃ h, h = (i + j) / 2 := ⟨_, rfl⟩
      have t1 : ((i : Int) + (j : Int)) / 2 = (h : Int) := by omega
      have h1 : i ≤ h := by omega
      have h2 : h < j := by omega
      clear hh
      obtain ⟨cx, _⟩ := HA.out.cell HB.out HD.out (i := h) (by omega)
      obtain ⟨cy, _⟩ := HA.out.cell HB.out HD.out (i := mm) (by omega)
      have HC := Lib.hid (fun n => cmp_at HL.out HH.out HA.out (atA d mm) (atA d h) n)
      obtain ⟨R, hR⟩ : ∃ R, cfO l (atA d mm) (atA d h) = R := ⟨_, rfl⟩
      rw [hR] at HC
      have hRk := cfO_lt l (atA d mm) (atA d h)
      rw [hR] at hRk
      have HRK := Lib.hid hRk
      clear hR hRk
      generalize ((atA d h).val : Int) = x at *
      generalize ((atA d mm).val : Int) = y at *
      have p1 : (0 : Int) ≤ (h : Int) := by omega
      have p2 : (h : Int) < (sz : Int) := by omega
      have p3 : (0 : Int) ≤ (mm : Int) := by omega
      have p4 : (mm : Int) < (sz : Int) := by omega
      by_cases hc : R < 0
      · have d2 : decide (R < 0) = true := decide_eq_true hc
        go_upto_region 17 with (fail)
        go_quiet ((go_at_call 30; exact Calls.quiet_of (HC.out _)))
        rename_i nq
        have HA2 := Lib.hid (HA.out.drewN nq)
        clear HA cx cy HC
        generalize wr.drewN nq = wq at *
        go_wp2
        go_roundg (h - i)
        case measure => omega
        case rel => exact ⟨i, h, rfl, rfl, hi, h1, by omega, by omega, HA2.out, (fun x q1 q2 => by have := HLo.out x q1 q2; omega), fun x q1 q2 => by
          have k1 := HS.out.key_le (i := h) (j := x) (by omega) q1 q2
          have k2 := HRK.out.1 hc
          omega⟩
      · have d2 : decide (R < 0) = false := decide_eq_false hc
        go_upto_region 17 with (fail)
        go_quiet ((go_at_call 30; exact Calls.quiet_of (HC.out _)))
        rename_i nq
        have HA2 := Lib.hid (HA.out.drewN nq)
        clear HA cx cy HC
        generalize wr.drewN nq = wq at *
        go_wp2
        go_roundg (j - (h + 1))
        case measure => omega
        case rel => exact ⟨h + 1, j, by go_num, rfl, by omega, by omega, hj, by omega, HA2.out, fun x q1 q2 => by
          have k1 := HS.out.key_le (i := x) (j := h) q1 (by omega) (by omega)
          have k2 : ¬ kO l (atA d mm) < kO l (atA d h) := fun g => by have := HRK.out.2 g; omega
          omega, HHi.out⟩
    · have d1 : decide ((i : Int) < (j : Int)) = false := decide_eq_false (by omega)
      obtain rfl : i = j := by omega
      clear hij hg hlt
      go_wp2
      go_loopg [17] mm (fun g1 vk wr => ∃ (k : Nat) (dk : Array (Fin (m + 1))), vk = .int .i64 (k : Int) ∧ i ≤ k ∧ k ≤ mm ∧ k - i ≤ g1 ∧ Hid (dk.size = sz) ∧ Hid (At w blk dk wr) ∧ Hid ((∀ x, k < x → x ≤ mm → atA dk x = atA d (x - 1)) ∧ atA dk k = atA d mm ∧ ∀ x, x < k ∨ mm < x → atA dk x = atA d x))
      case atStart => exact ⟨mm, d, rfl, hj, Nat.le_refl _, by omega, HD.out, HA.out, (fun x h1 h2 => by omega), rfl, fun x _ => rfl⟩
      case round =>
        obtain ⟨k, dk, rfl, hik, hkm, hg, HK, HA3, HP⟩ := hrel
        by_cases hlt : i < k
        · obtain ⟨k0, hk0⟩ : ∃ k0, k = k0 + 1 := ⟨k - 1, by omega⟩
          have d2 : decide ((i : Int) < (k : Int)) = true := decide_eq_true (by omega)
          obtain ⟨ca, fa⟩ := HA3.out.cell HB.out HK.out (i := k) (by omega)
          obtain ⟨cb, fb⟩ := HA3.out.cell HB.out HK.out (i := k0) (by omega)
          have HN := Lib.hid (HA3.out.swap (i := k) (j := k0) (by rw [HK.out]; omega) (by rw [HK.out]; omega))
          have HG := Lib.hid (atA_swp dk (i := k) (j := k0) (by rw [HK.out]; omega) (by rw [HK.out]; omega))
          generalize ((atA dk k).val : Int) = x at *
          generalize ((atA dk k0).val : Int) = y at *
          have p1 : (0 : Int) ≤ (k : Int) := by omega
          have p2 : (k : Int) < (sz : Int) := by omega
          have p3 : (0 : Int) ≤ (k0 : Int) := by omega
          have p4 : (k0 : Int) < (sz : Int) := by omega
          have t2 : IntKind.i64.wrap ((k : Int) - 1) = (k0 : Int) := by rw [IntKind.wrap_i64]; omega
          have t3 : (k : Int) - 1 = (k0 : Int) := by omega
          have cb2 : (wr.setCell ⟨blk, k, none⟩ (.int .i64 y)).cell? ⟨blk, k0, none⟩ = some (.int .i64 y) := (World.cell?_setCell_other _ _ _ _ (fun e => by injection e with _ e2; omega)).trans cb
          have HK1 := Lib.hid hk0
          clear hk0 HA HA3
          go_upto_region 23 with (fail)
          go_region
          all_goals go_wp2
          go_roundg (k0 - i)
          case measure => have := HK1.out; omega
          case rel => exact ⟨k0, swp dk k k0, rfl, by have := HK1.out; omega, by have := HK1.out; omega, by omega, (swp_size dk k k0).trans HK.out, HN.out, by
            have e := HK1.out
            obtain ⟨P1, P2, P3⟩ := HP.out
            have G := HG.out
            refine ⟨fun x q1 q2 => ?_, ?_, fun x q => ?_⟩
            · rw [G, if_neg (by omega)]
              by_cases c : x = k
              · rw [if_pos c, P3 _ (by omega), c, e]; rfl
              · rw [if_neg c]; exact P1 x (by omega) q2
            · rw [G, if_pos rfl, P2]
            · rw [G, if_neg (by omega), if_neg (by omega)]; exact P3 x (by omega)⟩
        · have d2 : decide ((i : Int) < (k : Int)) = false := decide_eq_false (by omega)
          obtain rfl : k = i := by omega
          go_wp2
          refine bodyPost_ret (results_none rfl _ _ _) rfl ?_
          refine ⟨rfl, dk, HK.out, HA3.out, ?_⟩
          obtain ⟨P1, P2, P3⟩ := HP.out
          have hm := HM.out
          subst hm
          exact one_right (i := k) hi hj HS.out HT.out (fun x q1 q2 => by have := HLo.out x q1 q2; omega) HHi.out P1 P2 P3
end Go.Proofs.Ytlcghlcpngafgaa
