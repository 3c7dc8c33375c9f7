/- The walk of UnitTells: whatever the numbers, the two rounds of its loop find the document's answers and those of package unit alike, and it returns true. -/
import Derived.Test.YtlnhhamfmnjapaaRUnitTells
import Derived.Test.YtlnhhamfmnjapaaVUnitTells
import Derived.Outline
import Derived.Lib.Hide
import Derived.Deep.QuietTactic
import Derived.BigQuiet
import Derived.StillTailTactics
import Derived.Deep.RegionWith
namespace Go.Proofs.Ytlnhhamfmnjapaa.PUnitTells
open Go.RowKit Go.Proofs.YtlnhhamfmnjapaaW.PrintWords Go.Proofs.YtlnhhamfmnjapaaW.PrintLast Go.Proofs.YtlnhhamfmnjapaaW.PrintMore
open U
set_option linter.unusedVariables false

/-- A slice of numbers that can be read: at most 60 of them. -/
structure Row (w : World) (A : Option Addr) (c : Nat) (l : List Int) : Prop where
  reads : Kd.C (Kd.int .i64) w A l.length l
  room : l.length ≤ c
  few : l.length ≤ 60
theorem Row.below {w w' : World} {A : Option Addr} {c : Nat} {l : List Int} (h : Row w A c l) (hb : Below w.heap.size w w') : Row w' A c l := ⟨Kd.C_below h.reads hb, h.room, h.few⟩

theorem Row.drew {w : World} {A : Option Addr} {c : Nat} {l : List Int} (h : Row w A c l) : Row w.drew A c l := h.below (Below.refl _ _).drew

/-- What a round's calls come to, of package unit and of the document. -/
structure Alike (k : Nat) (a b c : Int) (l ws : List Int) (h p q r s : Int) (t : List Int) : Prop where
  hold : unit_Hold.f a = some h
  hold' : quoinref1_Hold.f a = some h
  px : unit_Px.f a = some p
  px' : quoinref1_Px.f a = some p
  pct : unit_Pct.f a b = some q
  pct' : quoinref1_Pct.f a b = some q
  ratio : unit_Ratio.f k a b c = some r
  ratio' : quoinref1_Ratio.f k a b c = some r
  add : unit_Add.f k l = some s
  add' : quoinref1_Add.f k l = some s
  share : unit_Share.f k a ws = some t
  share' : quoinref1_Share.f k a ws = some t
  same : quoinlaw1_Same.f k t t = some true

theorem Same_l0 (l : List Int) (hl : l.length ≤ 1000000000) : ∀ (d i : Nat) (k : Nat), l.length - i = d → i ≤ l.length → d + 1 ≤ k → quoinlaw1_Same.l0 k l l (i : Int) = some true := by
  intro d
  induction d with
  | zero =>
    intro i k hd hi hk
    obtain ⟨k, rfl⟩ : ∃ m, k = m + 1 := ⟨k - 1, by omega⟩
    rw [quoinlaw1_Same.l0, if_neg (by omega)]
  | succ d ih =>
    intro i k hd hi hk
    obtain ⟨k, rfl⟩ : ∃ m, k = m + 1 := ⟨k - 1, by omega⟩
    rw [quoinlaw1_Same.l0, if_pos (by omega), if_pos (by omega), if_pos (by omega), if_pos rfl, w64 (x := (i : Int) + 1) (by omega) (by omega), show ((i : Int) + 1) = ((i + 1 : Nat) : Int) from by omega]
    exact ih (i + 1) k (by omega) (by omega) (by omega)
theorem Same_refl (l : List Int) (hl : l.length ≤ 1000000000) (k : Nat) (hk : l.length + 1 ≤ k) : quoinlaw1_Same.f k l l = some true := by
  unfold quoinlaw1_Same.f
  rw [if_pos rfl]
  exact Same_l0 l hl l.length 0 k (by omega) (by omega) hk
theorem alike (a b c : Int) (l ws : List Int) (hl : l.length ≤ 60) (hw : ws.length ≤ 60) : ∃ K h p q r s t, ∀ k, K ≤ k → Alike k a b c l ws h p q r s t := by
  obtain ⟨r, K1, h1⟩ := Ratio_alike a b c
  obtain ⟨t, K2, ht, h2⟩ := Share_alike a ws (by omega)
  refine ⟨K1 + K2 + 200, _, _, _, r, _, t, fun k hk => ⟨Hold_eq a, rHold_eq a, Px_eq a, rPx_eq a, Pct_eq a b, rPct_eq a b, (h1 k (by omega)).1, (h1 k (by omega)).2, Add_eq l (by omega) k (by omega), rAdd_eq l (by omega) k (by omega), (h2 k (by omega)).1, (h2 k (by omega)).2, Same_refl t (by omega) k (by omega)⟩⟩

theorem next_whole (c : Int) : ∃ r, wrap64 (wrap64 ((IntKind.u64.wrap c).tmod 1152921504606846976) + 1) = r ∧ 1 ≤ r ∧ r ≤ 1152921504606846976 := by
  have ⟨a, b⟩ := u64_bd c
  rw [Int.tmod_eq_emod_of_nonneg a]
  have h0 := Int.emod_nonneg (IntKind.u64.wrap c) (b := 1152921504606846976) (by decide)
  have h1 := Int.emod_lt_of_pos (IntKind.u64.wrap c) (b := 1152921504606846976) (by decide)
  rw [w64 (x := IntKind.u64.wrap c % 1152921504606846976) (by omega) (by omega), w64 (by omega) (by omega)]
  exact ⟨_, rfl, by omega, by omega⟩

set_option maxHeartbeats 4000000 in
set_option maxRecDepth 100000 in
theorem walk0 (a b c : Int) (A3 : Option Addr) (c3 : Nat) (l : List Int) (A4 : Option Addr) (c4 : Nat) (ws : List Int) (w : World) (hl : Row w A3 c3 l) (hw : Row w A4 c4 ws)
   : Calls Try.prog 9 #[.int .i64 a, .int .i64 b, .int .i64 c, .slice A3 l.length c3, .slice A4 ws.length c4] w fun e w' => e = .returned (.bool true) ∧ Below w.heap.size w w' := by
  have f1 := hl.few; have f2 := hw.few
  have HL := Lib.hid hl; have HW := Lib.hid hw
  have t1 : decide ((60 : Int) < l.length) = false := decide_eq_false (by omega)
  have t2 : decide ((60 : Int) < ws.length) = false := decide_eq_false (by omega)
  clear hl hw
  go_enter Try.func9, Try.ntmps9
  go_wp2_with fail
  go_loopg [0, 2, 4, 1, 11] 2 (fun gk v0 v2 v4 v1 v11 wr => ∃ (a b c : Int) (A4 : Option Addr) (c4 : Nat) (ws : List Int), v0 = .int .i64 a ∧ v1 = .int .i64 b ∧ v2 = .int .i64 c ∧ v4 = .slice A4 ws.length c4 ∧ v11 = .int .i64 (2 - (gk : Int)) ∧ gk ≤ 2 ∧ Hid (Row wr A4 c4 ws) ∧ Hid (Row wr A3 c3 l) ∧ Hid (Below w.heap.size w wr))
  case atStart => exact ⟨a, b, c, A4, c4, ws, rfl, rfl, rfl, rfl, rfl, by omega, HW, HL, Below.refl _ _⟩
  case round =>
    obtain ⟨a, b, c, A4, c4, ws, rfl, rfl, rfl, rfl, rfl, hg, HW1, HL1, HB⟩ := hrel
    clear HW HL t1 t2 f1 f2
    by_cases h0 : gk = 0
    · subst h0
      have t0 : decide ((2 : Int) - ((0 : Nat) : Int) < 2) = false := by decide
      go_wp2_with (go_at_call 23; refine (quoinlaw1_awake.calls 30 true _ (awake_true 30 (by decide))).mono ?_; rintro e wn ⟨rfl, hb⟩)
      go_ret
      exact ⟨rfl, below_step HB.out hb⟩
    · obtain ⟨K, h, p, q, r, s, t, hA⟩ := alike a b c l ws HL1.out.few HW1.out.few
      have HA := Lib.hid (hA K (Nat.le_refl _)); clear hA
      have t0 : decide ((2 : Int) - (gk : Int) < 2) = true := decide_eq_true (by omega)
      obtain ⟨k, hk⟩ : ∃ k, k = K := ⟨_, rfl⟩
      subst hk
      go_upto_region 8 with (first | (go_at_call 24; (with_reducible refine (unit_Hold.calls a h _ HA.out.hold).mono ?_); rintro e wn ⟨rfl, hb⟩; have n0_ := Lib.hid (below_step HB.out hb); have n1_ := Lib.hid (HL1.out.below hb); have n2_ := Lib.hid (HW1.out.below hb); clear HB HL1 HW1 hb; have HB := n0_; have HL1 := n1_; have HW1 := n2_; clear n0_ n1_ n2_) | (go_at_call 29; (with_reducible refine (quoinref1_Hold.calls a h _ HA.out.hold').mono ?_); rintro e wn ⟨rfl, hb⟩; have n0_ := Lib.hid (below_step HB.out hb); have n1_ := Lib.hid (HL1.out.below hb); have n2_ := Lib.hid (HW1.out.below hb); clear HB HL1 HW1 hb; have HB := n0_; have HL1 := n1_; have HW1 := n2_; clear n0_ n1_ n2_) | (go_at_call 30; (with_reducible refine (unit_Px.calls a p _ HA.out.px).mono ?_); rintro e wn ⟨rfl, hb⟩; have n0_ := Lib.hid (below_step HB.out hb); have n1_ := Lib.hid (HL1.out.below hb); have n2_ := Lib.hid (HW1.out.below hb); clear HB HL1 HW1 hb; have HB := n0_; have HL1 := n1_; have HW1 := n2_; clear n0_ n1_ n2_) | (go_at_call 31; (with_reducible refine (quoinref1_Px.calls a p _ HA.out.px').mono ?_); rintro e wn ⟨rfl, hb⟩; have n0_ := Lib.hid (below_step HB.out hb); have n1_ := Lib.hid (HL1.out.below hb); have n2_ := Lib.hid (HW1.out.below hb); clear HB HL1 HW1 hb; have HB := n0_; have HL1 := n1_; have HW1 := n2_; clear n0_ n1_ n2_) | (go_at_call 32; (with_reducible refine (unit_Pct.calls a b q _ HA.out.pct).mono ?_); rintro e wn ⟨rfl, hb⟩; have n0_ := Lib.hid (below_step HB.out hb); have n1_ := Lib.hid (HL1.out.below hb); have n2_ := Lib.hid (HW1.out.below hb); clear HB HL1 HW1 hb; have HB := n0_; have HL1 := n1_; have HW1 := n2_; clear n0_ n1_ n2_) | (go_at_call 33; (with_reducible refine (quoinref1_Pct.calls a b q _ HA.out.pct').mono ?_); rintro e wn ⟨rfl, hb⟩; have n0_ := Lib.hid (below_step HB.out hb); have n1_ := Lib.hid (HL1.out.below hb); have n2_ := Lib.hid (HW1.out.below hb); clear HB HL1 HW1 hb; have HB := n0_; have HL1 := n1_; have HW1 := n2_; clear n0_ n1_ n2_) | (go_at_call 26; (with_reducible refine (unit_Ratio.calls k a b c r _ HA.out.ratio).mono ?_); rintro e wn ⟨rfl, hb⟩; have n0_ := Lib.hid (below_step HB.out hb); have n1_ := Lib.hid (HL1.out.below hb); have n2_ := Lib.hid (HW1.out.below hb); clear HB HL1 HW1 hb; have HB := n0_; have HL1 := n1_; have HW1 := n2_; clear n0_ n1_ n2_) | (go_at_call 34; (with_reducible refine (quoinref1_Ratio.calls k a b c r _ HA.out.ratio').mono ?_); rintro e wn ⟨rfl, hb⟩; obtain ⟨hb0⟩ := hb; have hb := (Drawn0.mk hb0).below; clear hb0; have n0_ := Lib.hid (below_step HB.out hb); have n1_ := Lib.hid (HL1.out.below hb); have n2_ := Lib.hid (HW1.out.below hb); clear HB HL1 HW1 hb; have HB := n0_; have HL1 := n1_; have HW1 := n2_; clear n0_ n1_ n2_) | (go_at_call 25; (with_reducible refine (unit_Add.calls k A3 c3 l s _ HL1.out.reads HL1.out.room HA.out.add).mono ?_); rintro e wn ⟨rfl, hb⟩; have n0_ := Lib.hid (below_step HB.out hb); have n1_ := Lib.hid (HL1.out.below hb); have n2_ := Lib.hid (HW1.out.below hb); clear HB HL1 HW1 hb; have HB := n0_; have HL1 := n1_; have HW1 := n2_; clear n0_ n1_ n2_) | (go_at_call 35; (with_reducible refine (quoinref1_Add.calls k A3 c3 l s _ HL1.out.reads HL1.out.room HA.out.add').mono ?_); rintro e wn ⟨rfl, hb⟩; have n0_ := Lib.hid (below_step HB.out hb); have n1_ := Lib.hid (HL1.out.below hb); have n2_ := Lib.hid (HW1.out.below hb); clear HB HL1 HW1 hb; have HB := n0_; have HL1 := n1_; have HW1 := n2_; clear n0_ n1_ n2_) | (go_at_call 27; (with_reducible refine (unit_Share.calls k a A4 c4 ws t _ HW1.out.reads HW1.out.room HA.out.share).mono ?_); rintro e wn ⟨v1_, rfl, hr, hb⟩; obtain ⟨B1, d1, rfl, hd1, hc1⟩ := Kd.R_reads hr; clear hr; have HS1 := Lib.hid hc1; clear hc1; have n0_ := Lib.hid (below_step HB.out hb); have n1_ := Lib.hid (HL1.out.below hb); have n2_ := Lib.hid (HW1.out.below hb); clear HB HL1 HW1 hb; have HB := n0_; have HL1 := n1_; have HW1 := n2_; clear n0_ n1_ n2_) | (go_at_call 36; (with_reducible refine (quoinref1_Share.calls k a A4 c4 ws t _ HW1.out.reads HW1.out.room HA.out.share').mono ?_); rintro e wn ⟨v2_, rfl, hr, hb⟩; obtain ⟨B2, d2, rfl, hd2, hc2⟩ := Kd.R_reads hr; clear hr; have HS2 := Lib.hid hc2; clear hc2; have HS3 := Lib.hid (Kd.C_below HS1.out hb); clear HS1; have HS1 := HS3; clear HS3; have n0_ := Lib.hid (below_step HB.out hb); have n1_ := Lib.hid (HL1.out.below hb); have n2_ := Lib.hid (HW1.out.below hb); clear HB HL1 HW1 hb; have HB := n0_; have HL1 := n1_; have HW1 := n2_; clear n0_ n1_ n2_) | (go_at_call 28; (with_reducible refine (quoinlaw1_Same.calls k B1 d1 t B2 d2 t true _ HS1.out hd1 HS2.out hd2 HA.out.same).mono ?_); rintro e wn ⟨rfl, hb⟩; clear HS1 HS2; obtain ⟨hb0⟩ := hb; have hb := (Drawn0.mk hb0).below; clear hb0; have n0_ := Lib.hid (below_step HB.out hb); have n1_ := Lib.hid (HL1.out.below hb); have n2_ := Lib.hid (HW1.out.below hb); clear HB HL1 HW1 hb; have HB := n0_; have HL1 := n1_; have HW1 := n2_; clear n0_ n1_ n2_))
      obtain ⟨a1, ha1, a10, a11⟩ := Tame_some a 1152921504606846976 (by decide) (by decide)
      obtain ⟨c1, hc1, c10, c11⟩ := Tame_some c 1152921504606846976 (by decide) (by decide)
      have HTa := Lib.hid ha1; have HTc := Lib.hid hc1; clear ha1 hc1
      obtain ⟨c2, hc2, c20, c21⟩ := next_whole c1
      have hs1 : IntKind.i64.wrap (c2 + 1) = c2 + 1 := by rw [IntKind.wrap_i64]; omega
      have hs2 : IntKind.u64.wrap (c2 + 1) = c2 + 1 := u64w (by omega) (by omega)
      have hs3 : (c2 + 1 == 0) = false := by simp; omega
      have hs4 : wrap64 (c2 + 1) = c2 + 1 := w64 (by omega) (by omega)
      have hs5 : ¬ (c2 + 1 = 0) := by omega
      go_upto_region 9 with (first | (go_at_call 37; (with_reducible refine (quoinlaw1_Tame.calls a 1152921504606846976 a1 _ HTa.out).mono ?_); rintro e wn ⟨rfl, hb⟩; obtain ⟨hb0⟩ := hb; have hb := (Drawn0.mk hb0).below; clear hb0; have n0_ := Lib.hid (below_step HB.out hb); have n1_ := Lib.hid (HL1.out.below hb); have n2_ := Lib.hid (HW1.out.below hb); clear HB HL1 HW1 hb; have HB := n0_; have HL1 := n1_; have HW1 := n2_; clear n0_ n1_ n2_) | (go_at_call 37; (with_reducible refine (quoinlaw1_Tame.calls c 1152921504606846976 c1 _ HTc.out).mono ?_); rintro e wn ⟨rfl, hb⟩; obtain ⟨hb0⟩ := hb; have hb := (Drawn0.mk hb0).below; clear hb0; have n0_ := Lib.hid (below_step HB.out hb); have n1_ := Lib.hid (HL1.out.below hb); have n2_ := Lib.hid (HW1.out.below hb); clear HB HL1 HW1 hb; have HB := n0_; have HL1 := n1_; have HW1 := n2_; clear n0_ n1_ n2_))
      simp only [hc2]
      clear hc2
      obtain ⟨ws1, hw1, wl, wp⟩ := Weights_some ws (by have := HW1.out.few; omega) 41 (by decide)
      have HTw := Lib.hid hw1; clear hw1
      have HB2 := Lib.hid HB.out.drew; have HL2 := Lib.hid HL1.out.drew; have HW2 := Lib.hid HW1.out.drew; clear HB HL1 HW1
      have HB := HB2; have HL1 := HL2; have HW1 := HW2; clear HB2 HL2 HW2
      go_region_with (go_at_call 38; (with_reducible refine (quoinlaw1_Weights.calls 41 A4 c4 ws ws1 _ HW1.out.reads HW1.out.room HTw.out).mono ?_); rintro e wn ⟨v3_, rfl, hr, hb⟩; obtain ⟨B3, d3, rfl, hd3, hc3⟩ := Kd.R_reads hr; clear hr; have HS3 := Lib.hid hc3; clear hc3; have n0_ := Lib.hid (below_step HB.out hb); have n1_ := Lib.hid (HL1.out.below hb); have n2_ := Lib.hid (HW1.out.below hb); clear HB HL1 HW1 hb; have HB := n0_; have HL1 := n1_; have HW1 := n2_; clear n0_ n1_ n2_)
      go_wp2
      go_roundg (gk - 1)
      case measure => omega
      case rel => exact ⟨a1, _, c2, B3, d3, ws1, rfl, rfl, rfl, rfl, by rw [show (2 - ((gk - 1 : Nat) : Int)) = 2 - (gk : Int) + 1 from by omega], by omega, ⟨HS3.out, hd3, by omega⟩, HL1, HB⟩

set_option maxHeartbeats 1000000 in
set_option maxRecDepth 100000 in
theorem many (a b c : Int) (A3 : Option Addr) (c3 : Nat) (l : List Int) (A4 : Option Addr) (c4 : Nat) (ws : List Int) (w : World) (h : 60 < l.length ∨ 60 < ws.length)
   : Calls Try.prog 9 #[.int .i64 a, .int .i64 b, .int .i64 c, .slice A3 l.length c3, .slice A4 ws.length c4] w fun e w' => e = .returned (.bool true) ∧ Below w.heap.size w w' := by
  by_cases h1 : 60 < l.length
  · have t1 : decide ((60 : Int) < l.length) = true := decide_eq_true (by omega)
    clear h h1
    go_enter Try.func9, Try.ntmps9
    go_wp2_with (go_at_call 23; refine (quoinlaw1_awake.calls 30 true _ (awake_true 30 (by decide))).mono ?_; rintro e wn ⟨rfl, hb⟩)
    go_ret
    exact ⟨rfl, hb⟩
  · have t1 : decide ((60 : Int) < l.length) = false := decide_eq_false (by omega)
    have t2 : decide ((60 : Int) < ws.length) = true := decide_eq_true (by omega)
    clear h h1
    go_enter Try.func9, Try.ntmps9
    go_wp2_with (go_at_call 23; refine (quoinlaw1_awake.calls 30 true _ (awake_true 30 (by decide))).mono ?_; rintro e wn ⟨rfl, hb⟩)
    go_ret
    exact ⟨rfl, hb⟩

/-- UnitTells, whatever its arguments. -/
theorem walk (a0 a1 a2 : Int) (a3 : Option Addr) (len3 cap3 : Nat) (z3 : List Int) (a4 : Option Addr) (len4 cap4 : Nat) (z4 : List Int) (w : World)
    (w3 : (a3 = none ∧ len3 = 0 ∧ cap3 = 0 ∧ z3 = []) ∨ ∃ x, a3 = some x ∧ len3 ≤ cap3 ∧ cap3 ≤ maxLen ∧ z3.length = cap3 ∧ (∀ i, i < z3.length → w.cell? (x.add i) = some (.int .i64 (z3.getD i 0))) ∧ ∀ n ∈ z3, (Lit.int .i64 n).wf = true)
    (w4 : (a4 = none ∧ len4 = 0 ∧ cap4 = 0 ∧ z4 = []) ∨ ∃ x, a4 = some x ∧ len4 ≤ cap4 ∧ cap4 ≤ maxLen ∧ z4.length = cap4 ∧ (∀ i, i < z4.length → w.cell? (x.add i) = some (.int .i64 (z4.getD i 0))) ∧ ∀ n ∈ z4, (Lit.int .i64 n).wf = true) :
    Calls Try.prog 9 #[.int .i64 a0, .int .i64 a1, .int .i64 a2, .slice a3 len3 cap3, .slice a4 len4 cap4] w fun e w' => e = .returned (.bool true) ∧ Below w.heap.size w w' := by
  obtain ⟨l3, rfl, hr3, hm3, hw3, hc3⟩ := ReadsInt.ofRowC w3
  obtain ⟨l4, rfl, hr4, hm4, hw4, hc4⟩ := ReadsInt.ofRowC w4
  by_cases h : 60 < l3.length ∨ 60 < l4.length
  · exact many a0 a1 a2 a3 cap3 l3 a4 cap4 l4 w h
  · exact walk0 a0 a1 a2 a3 cap3 l3 a4 cap4 l4 w ⟨Kd.C_of_reads (d := (0 : Int)) (h1 := fun _ => rfl) hr3, hc3, by omega⟩ ⟨Kd.C_of_reads (d := (0 : Int)) (h1 := fun _ => rfl) hr4, hc4, by omega⟩
end Go.Proofs.Ytlnhhamfmnjapaa.PUnitTells
