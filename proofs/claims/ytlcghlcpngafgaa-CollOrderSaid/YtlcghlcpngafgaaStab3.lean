/- slices.symMergeCmpFunc at places, where one side is one place. -/
import Derived.Test.YtlcghlcpngafgaaStab2
import Derived.Deep.QuietTactic
import Derived.BigQuiet
import Derived.Deep.CutBlock
namespace Go.Proofs.Ytlcghlcpngafgaa
open Go.Shelf Go.RowKit Go.Lib Go.Sort Mrg Go.Proofs.YtlcghlcpngafgaaW.PrintWords Go.Proofs.YtlcghlcpngafgaaW.PrintMore
set_option linter.unusedVariables false

/-- A place's order; the place. -/
def kO (l : List Int) {m : Nat} (x : Fin (m + 1)) : Int := rd l x.val
def pO {m : Nat} (x : Fin (m + 1)) : Nat := x.val
theorem cfO_lt (l : List Int) {m : Nat} (x y : Fin (m + 1)) : cfO l x y < 0 ↔ kO l x < kO l y := by
  unfold cfO compareInt kO
  split
  · omega
  · split <;> omega
theorem ltOf_key (l : List Int) {m : Nat} (x y : Fin (m + 1)) : ltOf (cfO l) x y = decide (kO l x < kO l y) := by
  unfold ltOf
  by_cases h : cfO l x y < 0
  · rw [decide_eq_true h, decide_eq_true ((cfO_lt l x y).1 h)]
  · rw [decide_eq_false h, decide_eq_false (fun g => h ((cfO_lt l x y).2 g))]
theorem held_at {m : Nat} {l : List Int} {A : Option Addr} {c B blk : Nat} {w0 w W : World} {d : Array (Fin (m + 1))} (H : Held l A c B blk w0 w) (h : At w blk d W) : Held l A c B blk w0 W := by
  obtain ⟨q, rfl⟩ := h
  have hg : w.grownBy ((putRow encF w blk 0 d).drewN q) (some blk) := by
    refine ⟨rfl, rfl, rfl, by simp [putRow, mapBlock, World.drewN], fun k hk hne => ?_⟩
    have : blk ≠ k := fun e => hne (by rw [e])
    show (putRow encF w blk 0 d).heap[k]? = _
    simp [putRow, mapBlock, Array.getElem?_modify, this]
  have hs : ((putRow encF w blk 0 d).drewN q).heap.size = w.heap.size := by show (putRow encF w blk 0 d).heap.size = _; simp [putRow, mapBlock]
  exact ⟨H.row, pw_below_grown H.below (some blk) H.size hg (fun k e => by cases e; exact H.lo), (hg.block B (Array.getElem?_eq_some_iff.1 H.box).1 (fun e => H.ne (Option.some.inj e))).trans H.box, H.ne, H.lo, by rw [hs]; exact H.hi, by rw [hs]; exact H.size⟩
/-- The closure at two places, whatever the row holds. -/
theorem cmp_at {m : Nat} {l : List Int} (hl : l.length = m + 1) {A : Option Addr} {c B blk : Nat} {w0 w W : World} {d : Array (Fin (m + 1))} (H : Held l A c B blk w0 w) (h : At w blk d W) (x y : Fin (m + 1)) (n : Nat) :
    Calls Try.prog 30 #[.int .i64 (x.val : Int), .int .i64 (y.val : Int), .pointer (some ⟨B, 0, none⟩)] (W.drewN n) fun e w' => e = .returned (.int .i64 (cfO l x y)) ∧ ∃ q, w' = (W.drewN n).drewN q := by
  have H2 := held_at H (h.drewN n)
  have hb : (W.drewN n).cell? ⟨B, 0, none⟩ = some (.slice A l.length c) := (blk_cell H2.box 0).trans rfl
  exact ord1 l A c B x.val y.val (by omega) (by omega) _ hb (Kd.C_below H2.row H2.below)

set_option maxHeartbeats 4000000 in
set_option maxRecDepth 1000000 in
theorem sym_left {m : Nat} (l : List Int) (hl : l.length = m + 1) (A : Option Addr) (c B blk cap sz : Nat) (w0 w W : World) (H : Held l A c B blk w0 w) (hB : Base m w blk sz) (a mm b : Nat) (hm : mm = a + 1) (hmb : mm < b) (hb : b ≤ sz) (d : Array (Fin (m + 1))) (hd : d.size = sz) (hW : At w blk d W)
    (hs : Srt (kO l) pO (atA d) mm b) (ht : Tie pO (atA d) a mm b) :
    Calls Try.prog 44 #[.slice (some ⟨blk, 0, none⟩) sz cap, .int .i64 a, .int .i64 mm, .int .i64 b, .func (.func 30) #[] #[.pointer (some ⟨B, 0, none⟩)]] W (Turned w blk sz fun f => Srt (kO l) pO f a b ∧ Same (atA d) f a b) := by
  have HB := Lib.hid hB; have HW := Lib.hid hW; have HD := Lib.hid hd; have HH := Lib.hid H; have HL := Lib.hid hl; have HS := Lib.hid hs; have HT := Lib.hid ht; have HM := Lib.hid hm
  have hsz := hB.1
  have d0 : (((mm : Int) - (a : Int)) == 1) = true := by simp; omega
  have q1 : (a : Int) < (mm : Int) := by omega
  have q2 : (mm : Int) < (b : Int) := by omega
  have q3 : (b : Int) ≤ (sz : Int) := by omega
  clear hB hW hd H hl hs ht hm
  go_enter Try.func44, Try.ntmps44
  go_wp2
  go_loopg [10, 11] b (fun g1 vi vj wr => ∃ (i j : Nat), vi = .int .i64 (i : Int) ∧ vj = .int .i64 (j : Int) ∧ mm ≤ i ∧ i ≤ j ∧ j ≤ b ∧ j - i ≤ g1 ∧ Hid (At w blk d wr) ∧ Hid (∀ x, mm ≤ x → x < i → kO l (atA d x) < kO l (atA d a)) ∧ Hid (∀ x, j ≤ x → x < b → ¬ kO l (atA d x) < kO l (atA d a)))
  case atStart => exact ⟨mm, b, rfl, rfl, Nat.le_refl _, by omega, Nat.le_refl _, by omega, HW.out, (fun x h1 h2 => by omega), (fun x h1 h2 => by omega)⟩
  case round =>
    obtain ⟨i, j, rfl, rfl, hi, hij, hj, hg, HA, HLo, HHi⟩ := hrel
    by_cases hlt : i < j
    · have d1 : decide ((i : Int) < (j : Int)) = true := decide_eq_true (by omega)
      obtain ⟨h, hh⟩ : ∃ h, h = (i + j) / 2 := ⟨_, rfl⟩
      have t1 : ((i : Int) + (j : Int)) / 2 = (h : Int) := by omega
      have h1 : i ≤ h := by omega
      have h2 : h < j := by omega
      clear hh
      obtain ⟨cx, _⟩ := HA.out.cell HB.out HD.out (i := h) (by omega)
      obtain ⟨cy, _⟩ := HA.out.cell HB.out HD.out (i := a) (by omega)
      have HC := Lib.hid (fun n => cmp_at HL.out HH.out HA.out (atA d h) (atA d a) n)
      obtain ⟨R, hR⟩ : ∃ R, cfO l (atA d h) (atA d a) = R := ⟨_, rfl⟩
      rw [hR] at HC
      have hRk := cfO_lt l (atA d h) (atA d a)
      rw [hR] at hRk
      have HRK := Lib.hid hRk
      clear hR hRk
      generalize ((atA d h).val : Int) = x at *
      generalize ((atA d a).val : Int) = y at *
      have p1 : (0 : Int) ≤ (h : Int) := by omega
      have p2 : (h : Int) < (sz : Int) := by omega
      have p3 : (0 : Int) ≤ (a : Int) := by omega
      have p4 : (a : Int) < (sz : Int) := by omega
      by_cases hc : R < 0
      · have d2 : decide (R < 0) = true := decide_eq_true hc
        go_upto_region 5 with (fail)
        go_quiet ((go_at_call 30; exact Calls.quiet_of (HC.out _)))
        rename_i nq
        have HA2 := Lib.hid (HA.out.drewN nq)
        clear HA cx cy HC
        generalize wr.drewN nq = wq at *
        go_wp2
        go_roundg (j - (h + 1))
        case measure => omega
        case rel => exact ⟨h + 1, j, by go_num, rfl, by omega, by omega, hj, by omega, HA2.out, fun x q1 q2 => by
          have k1 := HS.out.key_le (i := x) (j := h) q1 (by omega) (by omega)
          have k2 := HRK.out.1 hc
          omega, HHi.out⟩
      · have d2 : decide (R < 0) = false := decide_eq_false hc
        go_upto_region 5 with (fail)
        go_quiet ((go_at_call 30; exact Calls.quiet_of (HC.out _)))
        rename_i nq
        have HA2 := Lib.hid (HA.out.drewN nq)
        clear HA cx cy HC
        generalize wr.drewN nq = wq at *
        go_wp2
        go_roundg (h - i)
        case measure => omega
        case rel => exact ⟨i, h, rfl, rfl, hi, h1, by omega, by omega, HA2.out, HLo.out, fun x q1 q2 => by
          have k1 := HS.out.key_le (i := h) (j := x) (by omega) q1 q2
          have k2 : ¬ kO l (atA d h) < kO l (atA d a) := fun g => by have := HRK.out.2 g; omega
          omega⟩
    · have d1 : decide ((i : Int) < (j : Int)) = false := decide_eq_false (by omega)
      obtain rfl : i = j := by omega
      have e1 : (1 : Int) ≤ (i : Int) := by omega
      clear hij hg hlt
      go_wp2
      go_loopg [13] i (fun g1 vk wr => ∃ (k : Nat) (dk : Array (Fin (m + 1))), vk = .int .i64 (k : Int) ∧ a ≤ k ∧ k + 1 ≤ i ∧ i - k ≤ g1 ∧ Hid (dk.size = sz) ∧ Hid (At w blk dk wr) ∧ Hid ((∀ x, a ≤ x → x < k → atA dk x = atA d (x + 1)) ∧ atA dk k = atA d a ∧ ∀ x, x < a ∨ k < x → atA dk x = atA d x))
      case atStart => exact ⟨a, d, rfl, Nat.le_refl _, by omega, by omega, HD.out, HA.out, (fun x h1 h2 => by omega), rfl, fun x _ => rfl⟩
      case round =>
        obtain ⟨k, dk, rfl, hak, hki, hg, HK, HA3, HP⟩ := hrel
        by_cases hlt : k + 1 < i
        · have d2 : decide ((k : Int) < (i : Int) - 1) = true := decide_eq_true (by omega)
          obtain ⟨ca, fa⟩ := HA3.out.cell HB.out HK.out (i := k) (by omega)
          obtain ⟨cb, fb⟩ := HA3.out.cell HB.out HK.out (i := k + 1) (by omega)
          have HN := Lib.hid (HA3.out.swap (i := k) (j := k + 1) (by rw [HK.out]; omega) (by rw [HK.out]; omega))
          have HG := Lib.hid (atA_swp dk (i := k) (j := k + 1) (by rw [HK.out]; omega) (by rw [HK.out]; omega))
          generalize ((atA dk k).val : Int) = x at *
          generalize ((atA dk (k + 1)).val : Int) = y at *
          have p1 : (0 : Int) ≤ (k : Int) := by omega
          have p2 : (k : Int) < (sz : Int) := by omega
          have p3 : (0 : Int) ≤ ((k + 1 : Nat) : Int) := by omega
          have p4 : ((k + 1 : Nat) : Int) < (sz : Int) := by omega
          have t2 : IntKind.i64.wrap ((k : Int) + 1) = ((k + 1 : Nat) : Int) := by rw [IntKind.wrap_i64]; omega
          have cb2 : (wr.setCell ⟨blk, k, none⟩ (.int .i64 y)).cell? ⟨blk, k + 1, none⟩ = some (.int .i64 y) := (World.cell?_setCell_other _ _ _ _ (fun e => by injection e with _ e2; omega)).trans cb
          obtain ⟨k1, hk1⟩ : ∃ k1, k1 = k + 1 := ⟨_, rfl⟩
          rw [← hk1] at cb fb HN HG p3 p4 t2 cb2
          have HK1 := Lib.hid hk1
          clear hk1 HA HA3
          go_upto_region 11 with (fail)
          go_region
          all_goals go_wp2
          go_roundg (i - k1)
          case measure => have := HK1.out; omega
          case rel => exact ⟨k1, swp dk k k1, by have := HK1.out; go_num, by have := HK1.out; omega, by have := HK1.out; omega, by omega, (swp_size dk k k1).trans HK.out, HN.out, by
            have e := HK1.out
            obtain ⟨P1, P2, P3⟩ := HP.out
            have G := HG.out
            refine ⟨fun x q1 q2 => ?_, ?_, fun x q => ?_⟩
            · rw [G, if_neg (by omega)]
              by_cases c : x = k
              · rw [if_pos c, P3 _ (by omega), c, e]
              · rw [if_neg c]; exact P1 x q1 (by omega)
            · rw [G, if_pos rfl, P2]
            · rw [G, if_neg (by omega), if_neg (by omega)]; exact P3 x (by omega)⟩
        · have d2 : decide ((k : Int) < (i : Int) - 1) = false := decide_eq_false (by omega)
          have hk : k = i - 1 := by omega
          have HKi := Lib.hid hk
          clear hk
          go_wp2
          refine bodyPost_ret (results_none rfl _ _ _) rfl ?_
          refine ⟨rfl, dk, HK.out, HA3.out, ?_⟩
          have hk := HKi.out
          obtain ⟨P1, P2, P3⟩ := HP.out
          have hm := HM.out
          subst hm
          exact one_left (i := i) (by omega) hj HS.out HT.out HLo.out (fun x q1 q2 => by have := HHi.out x q1 q2; omega) (fun x q1 q2 => P1 x q1 (by omega)) (by rw [← hk]; exact P2) (fun x q => P3 x (by omega))
end Go.Proofs.Ytlcghlcpngafgaa
