/- What the document fixes of free space holds: its two examples; rows that are the same; bases; the contract of quoinlaw18.awake. -/
import Derived.Test.YtlcghlcpngafgaaFPl
import Derived.Outline
import Derived.Deep.QuietTactic
import Derived.BigQuiet
namespace Go.Proofs.Ytlcghlcpngafgaa.PFree
open Go.RowKit Go.Proofs.YtlcghlcpngafgaaW.PrintWords Go.Proofs.YtlcghlcpngafgaaW.PrintLast Go.Proofs.YtlcghlcpngafgaaW.PrintMore
set_option linter.unusedVariables false
set_option linter.unusedSimpArgs false
theorem ex1 : rslv [⟨0, 0, -1, 1, 0, 0⟩, ⟨0, 0, -1, 1, 0, 0⟩, ⟨0, 0, 20, 1, 0, 0⟩] 100 = [40, 40, 20] := by decide +kernel
theorem ex2 : rslv [⟨30, 0, -1, 0, 1, 0⟩, ⟨60, 0, -1, 0, 1, 5⟩, ⟨10, 0, -1, 0, 0, 0⟩] 75 = [20, 40, 10] := by decide +kernel
theorem ok1 : okR [⟨0, 0, -1, 1, 0, 0⟩, ⟨0, 0, -1, 1, 0, 0⟩, ⟨0, 0, 20, 1, 0, 0⟩] 100 = true := by decide +kernel
theorem ok2 : okR [⟨30, 0, -1, 0, 1, 0⟩, ⟨60, 0, -1, 0, 1, 5⟩, ⟨10, 0, -1, 0, 0, 0⟩] 75 = true := by decide +kernel
theorem ok3 : okL [⟨0, 0, -1, 1, 0, 0⟩] = true := by decide +kernel
theorem ok4 : okL [⟨-1, 0, 0, 0, 0, 0⟩] = false := by decide +kernel
theorem bases_l0 (its : List S39) (hn : its.length ≤ 1000) : ∀ (d i k : Nat), its.length - i = d → i ≤ its.length → d + 1 ≤ k → quoinlaw18_bases.l0 k its (lst i (fun j => (itm its j).f0)) (i : Int) = some (lst its.length (fun j => (itm its j).f0)) := by
  intro d
  induction d with
  | zero =>
    intro i k hd hi hk
    obtain ⟨k, rfl⟩ : ∃ m, k = m + 1 := ⟨k - 1, by omega⟩
    obtain rfl : i = its.length := by omega
    rw [quoinlaw18_bases.l0, if_neg (by omega)]
  | succ d ih =>
    intro i k hd hi hk
    obtain ⟨k, rfl⟩ : ∃ m, k = m + 1 := ⟨k - 1, by omega⟩
    rw [quoinlaw18_bases.l0, if_pos (by omega), if_pos (by omega), if_pos (by rw [lst_length]; omega), itm_T, w64 (by omega) (by omega), show ((i : Int) + 1) = ((i + 1 : Nat) : Int) from by omega, ← lst_succ i (fun j => (itm its j).f0)]
    exact ih (i + 1) k (by omega) (by omega) (by omega)
theorem bases_eq (its : List S39) (hn : its.length ≤ 1000) (k : Nat) (hk : its.length + 1 ≤ k) : quoinlaw18_bases.f k its = some (lst its.length (fun j => (itm its j).f0)) :=
  bases_l0 its hn its.length 0 k (by omega) (by omega) (by omega)
theorem same_l0 (l : List Int) (hl : l.length ≤ 1000000000) : ∀ (d i : Nat) (k : Nat), l.length - i = d → i ≤ l.length → d + 1 ≤ k → quoinlaw16_Same.l0 k l l (i : Int) = some true := by
  intro d
  induction d with
  | zero =>
    intro i k hd hi hk
    obtain ⟨k, rfl⟩ : ∃ m, k = m + 1 := ⟨k - 1, by omega⟩
    rw [quoinlaw16_Same.l0, if_neg (by omega)]
  | succ d ih =>
    intro i k hd hi hk
    obtain ⟨k, rfl⟩ : ∃ m, k = m + 1 := ⟨k - 1, by omega⟩
    rw [quoinlaw16_Same.l0, if_pos (by omega), if_pos (by omega), if_pos (by omega), if_pos rfl, w64 (x := (i : Int) + 1) (by omega) (by omega), show ((i : Int) + 1) = ((i + 1 : Nat) : Int) from by omega]
    exact ih (i + 1) k (by omega) (by omega) (by omega)
theorem same_refl (l : List Int) (hl : l.length ≤ 1000000000) (k : Nat) (hk : l.length + 1 ≤ k) : quoinlaw16_Same.f k l l = some true := by
  unfold quoinlaw16_Same.f
  rw [if_pos rfl]
  exact same_l0 l hl l.length 0 k (by omega) (by omega) hk


theorem addr_add (b o j : Nat) : (⟨b, o, none⟩ : Addr).add j = ⟨b, o + j, none⟩ := by unfold Addr.add; split <;> simp_all
def cells39 (x : S39) : List Value := [.int .i64 x.f0, .int .i64 x.f1, .int .i64 x.f2, .int .i64 x.f3, .int .i64 x.f4, .int .i64 x.f5]
def flat39 : List S39 → List Value
  | [] => []
  | x :: l => cells39 x ++ flat39 l
theorem flat39_get : ∀ (l : List S39) (j : Nat) (p : S39), l[j]? = some p → ∀ (i : Nat) (u : Value), (cells39 p)[i]? = some u → (flat39 l)[j * 6 + i]? = some u := by
  intro l
  induction l with
  | nil => intro j p h; simp at h
  | cons x l ih =>
    intro j p h i u hu
    have hi : i < 6 := by
      have := (List.getElem?_eq_some_iff.1 hu).1
      simpa [cells39] using this
    cases j with
    | zero =>
      simp only [List.getElem?_cons_zero, Option.some.injEq] at h
      subst h
      simp only [flat39]
      rw [Nat.zero_mul, Nat.zero_add, List.getElem?_append_left (by simp [cells39]; omega)]
      exact hu
    | succ j =>
      simp only [List.getElem?_cons_succ] at h
      simp only [flat39]
      rw [List.getElem?_append_right (by simp [cells39]; omega)]
      have e : (j + 1) * 6 + i - (cells39 x).length = j * 6 + i := by simp [cells39]; omega
      rw [e]
      exact ih j p h i u hu
theorem lit39 {W : World} {g : Nat} (l : List S39) (hl : l.length ≤ 1000) (h : W.heap[g]? = some (.cells (flat39 l).toArray 39 (0, 0))) : Kd.C k39 W (some ⟨g, 0, none⟩) l.length l := by
  refine ⟨rfl, by omega, fun _ => ⟨_, rfl, fun j p hp => ⟨cells39 p, rfl, k39_mk W p, fun i u hu => ?_⟩⟩⟩
  have e : (⟨g, 0, none⟩ : Addr).add (j * k39.sz + i) = ⟨g, j * 6 + i, none⟩ := by
    have : k39.sz = 6 := rfl
    rw [this, addr_add, Nat.zero_add]
  rw [e, blk_cell h]
  have := flat39_get l j p hp i u hu
  simpa using this
theorem litI {W : World} {g : Nat} (l : List Int) (hl : l.length ≤ 1000) (h : W.heap[g]? = some (.cells (l.map (Value.int .i64)).toArray 2 (0, 0))) : Kd.C (Kd.int .i64) W (some ⟨g, 0, none⟩) l.length l := by
  have hr : RowI W g l.length (fun i => l.getD i 0) := ⟨_, h, by simp, fun i hi => by simp [hi]⟩
  have := hr.reads (by omega)
  have e : lst l.length (fun i => l.getD i 0) = l := by
    apply List.ext_getElem
    · simp [lst]
    · intro i h1 h2; simp [lst, h2]
  rwa [e] at this

/-- free.Resolve of a literal. -/
theorem res_call (W : World) (l : List S39) (inner : Int) (r : List Int) (hr : okR l inner = true) (hv : rslv l inner = r) (hl : l.length ≤ 1000) : Calls Try.prog 20 #[.slice (some ⟨W.heap.size, 0, none⟩) l.length l.length, .int .i64 inner] (W.alloc (.cells (flat39 l).toArray 39 (0, 0))) fun e w' => ∃ A c, e = .returned (.slice A r.length c) ∧ r.length ≤ c ∧ Kd.C (Kd.int .i64) w' A r.length r ∧ Below W.heap.size W w' := by
  refine (free_Resolve.calls _ _ l inner r _ (lit39 l hl (blk_new W _)) (Nat.le_refl _) (by rw [free_Resolve.eq, if_pos hr, hv])).mono ?_
  rintro e w' ⟨v, rfl, hR, hB⟩
  obtain ⟨A, c, rfl, hc, hC⟩ := Kd.R_reads hR
  exact ⟨A, c, rfl, hc, hC, below_step (below_alloc (Below.refl _ _) _) hB⟩
/-- free.Ok of a literal. -/
theorem ok_call (W : World) (l : List S39) (b : Bool) (hb : okL l = b) (hl : l.length ≤ 1000) : Calls Try.prog 24 #[.slice (some ⟨W.heap.size, 0, none⟩) l.length l.length] (W.alloc (.cells (flat39 l).toArray 39 (0, 0))) fun e w' => e = .returned (.bool b) ∧ Below W.heap.size W w' := by
  refine (free_Ok.calls (l.length + 1) _ _ l b _ (lit39 l hl (blk_new W _)) (Nat.le_refl _) (by rw [ok_eq l (by omega) _ (Nat.le_refl _), hb])).mono ?_
  rintro e w' ⟨rfl, hB⟩
  exact ⟨rfl, below_step (below_alloc (Below.refl _ _) _) hB⟩
/-- Same of a row and a literal. -/
theorem same_call (W : World) (A : Option Addr) (c : Nat) (l : List Int) (hC : Kd.C (Kd.int .i64) W A l.length l) (hc : l.length ≤ c) (hl : l.length ≤ 1000) : Calls Try.prog 22 #[.slice A l.length c, .slice (some ⟨W.heap.size, 0, none⟩) l.length l.length] (W.alloc (.cells (l.map (Value.int .i64)).toArray 2 (0, 0))) fun e w' => e = .returned (.bool true) ∧ Below W.heap.size W w' := by
  refine (quoinlaw16_Same.calls (l.length + 1) A c l (some ⟨W.heap.size, 0, none⟩) l.length l true _ (Kd.C_below hC (below_alloc (Below.refl _ _) _)) hc (litI l hl (blk_new W _)) (Nat.le_refl _) (same_refl l (by omega) _ (Nat.le_refl _))).mono ?_
  rintro e w' ⟨rfl, hB⟩
  exact ⟨rfl, below_step (below_alloc (Below.refl _ _) _) hB.below⟩

set_option maxHeartbeats 2000000 in
set_option maxRecDepth 100000 in
theorem awake_walk (w : World) : Calls Try.prog 21 #[] w fun e w' => e = .returned (.bool true) ∧ Below w.heap.size w w' := by
  have hu39 := Try.underlying39
  go_enter Try.func21, Try.ntmps21
  go_upto_region 4 with (fail)
  obtain ⟨W1, hW1⟩ : ∃ W1, W1 = (w.alloc (.cells #[.int .i64 0, .int .i64 0, .int .i64 (-1), .int .i64 1, .int .i64 0, .int .i64 0] 39 (0, 0))).alloc (.cells #[.int .i64 0, .int .i64 0, .int .i64 20, .int .i64 1, .int .i64 0, .int .i64 0] 39 (0, 0)) := ⟨_, rfl⟩
  rw [← hW1]
  have HB1 := Lib.hid (show Below w.heap.size w W1 from by rw [hW1]; exact below_alloc (below_alloc (Below.refl _ _) _) _)
  have H1 := Lib.hid (show W1.heap[w.heap.size]? = some (.cells #[.int .i64 0, .int .i64 0, .int .i64 (-1), .int .i64 1, .int .i64 0, .int .i64 0] 39 (0, 0)) from by rw [hW1]; exact blk_alloc (blk_new w _) _)
  have H2 := Lib.hid (show W1.heap[w.heap.size + 1]? = some (.cells #[.int .i64 0, .int .i64 0, .int .i64 20, .int .i64 1, .int .i64 0, .int .i64 0] 39 (0, 0)) from by rw [hW1]; have := blk_new (w.alloc (.cells #[.int .i64 0, .int .i64 0, .int .i64 (-1), .int .i64 1, .int .i64 0, .int .i64 0] 39 (0, 0))) (.cells #[.int .i64 0, .int .i64 0, .int .i64 20, .int .i64 1, .int .i64 0, .int .i64 0] 39 (0, 0)); rwa [World.size_alloc] at this)
  clear hW1
  have y0 : W1.cell? ⟨w.heap.size, 0, none⟩ = some (.int .i64 0) := (blk_cell H1.out 0).trans rfl
  have y1 : W1.cell? ⟨w.heap.size, 1, none⟩ = some (.int .i64 0) := (blk_cell H1.out 1).trans rfl
  have y2 : W1.cell? ⟨w.heap.size, 2, none⟩ = some (.int .i64 (-1)) := (blk_cell H1.out 2).trans rfl
  have y3 : W1.cell? ⟨w.heap.size, 3, none⟩ = some (.int .i64 1) := (blk_cell H1.out 3).trans rfl
  have y4 : W1.cell? ⟨w.heap.size, 4, none⟩ = some (.int .i64 0) := (blk_cell H1.out 4).trans rfl
  have y5 : W1.cell? ⟨w.heap.size, 5, none⟩ = some (.int .i64 0) := (blk_cell H1.out 5).trans rfl
  have z0 : W1.cell? ⟨w.heap.size + 1, 0, none⟩ = some (.int .i64 0) := (blk_cell H2.out 0).trans rfl
  have z1 : W1.cell? ⟨w.heap.size + 1, 1, none⟩ = some (.int .i64 0) := (blk_cell H2.out 1).trans rfl
  have z2 : W1.cell? ⟨w.heap.size + 1, 2, none⟩ = some (.int .i64 20) := (blk_cell H2.out 2).trans rfl
  have z3 : W1.cell? ⟨w.heap.size + 1, 3, none⟩ = some (.int .i64 1) := (blk_cell H2.out 3).trans rfl
  have z4 : W1.cell? ⟨w.heap.size + 1, 4, none⟩ = some (.int .i64 0) := (blk_cell H2.out 4).trans rfl
  have z5 : W1.cell? ⟨w.heap.size + 1, 5, none⟩ = some (.int .i64 0) := (blk_cell H2.out 5).trans rfl
  have hc1 : Calls Try.prog 20 #[.slice (some ⟨W1.heap.size, 0, none⟩) 3 3, .int .i64 100] (W1.alloc (.cells #[.int .i64 0, .int .i64 0, .int .i64 (-1), .int .i64 1, .int .i64 0, .int .i64 0, .int .i64 0, .int .i64 0, .int .i64 (-1), .int .i64 1, .int .i64 0, .int .i64 0, .int .i64 0, .int .i64 0, .int .i64 20, .int .i64 1, .int .i64 0, .int .i64 0] 39 (0, 0))) _ := res_call W1 [⟨0, 0, -1, 1, 0, 0⟩, ⟨0, 0, -1, 1, 0, 0⟩, ⟨0, 0, 20, 1, 0, 0⟩] 100 [40, 40, 20] ok1 ex1 (by decide)
  have HC1 := Lib.hid hc1; clear hc1
  go_upto_region 5 with (go_at_call 20; (with_reducible refine HC1.out.mono ?_); rintro e w2 ⟨A1, c1, rfl, hc, hC, hb⟩; have HP := Lib.hid hC; have HPc := Lib.hid hc; have HB2 := Lib.hid (below_step HB1.out hb); have H3 := Lib.hid (blk_below H1.out hb); clear hc hC hb HC1 HB1 H1 H2 y0 y1 y2 y3 y4 y5 z0 z1 z2 z3 z4 z5)
  have hc1 : Calls Try.prog 20 #[.slice (some ⟨w2.heap.size, 0, none⟩) 3 3, .int .i64 75] (w2.alloc (.cells #[.int .i64 30, .int .i64 0, .int .i64 (-1), .int .i64 0, .int .i64 1, .int .i64 0, .int .i64 60, .int .i64 0, .int .i64 (-1), .int .i64 0, .int .i64 1, .int .i64 5, .int .i64 10, .int .i64 0, .int .i64 (-1), .int .i64 0, .int .i64 0, .int .i64 0] 39 (0, 0))) _ := res_call w2 [⟨30, 0, -1, 0, 1, 0⟩, ⟨60, 0, -1, 0, 1, 5⟩, ⟨10, 0, -1, 0, 0, 0⟩] 75 [20, 40, 10] ok2 ex2 (by decide)
  have HC1 := Lib.hid hc1; clear hc1
  go_upto_region 6 with (go_at_call 20; (with_reducible refine HC1.out.mono ?_); rintro e w3 ⟨A2, c2, rfl, hc, hC, hb⟩; have HQ := Lib.hid hC; have HQc := Lib.hid hc; have HP2 := Lib.hid (Kd.C_below HP.out hb); have HB3 := Lib.hid (below_step HB2.out hb); have H4 := Lib.hid (blk_below H3.out hb); clear hc hC hb HC1 HB2 H3 HP)
  have hs : ∀ W, Below w3.heap.size w3 W → Calls Try.prog 22 #[.slice A1 3 c1, .slice (some ⟨W.heap.size, 0, none⟩) 3 3] (W.alloc (.cells #[.int .i64 40, .int .i64 40, .int .i64 20] 2 (0, 0))) (fun e w' => e = .returned (.bool true) ∧ Below W.heap.size W w') := fun W hb => same_call W A1 c1 [40, 40, 20] (Kd.C_below HP2.out hb) HPc.out (by decide)
  have hs2 : ∀ W, Below w3.heap.size w3 W → Calls Try.prog 22 #[.slice A2 3 c2, .slice (some ⟨W.heap.size, 0, none⟩) 3 3] (W.alloc (.cells #[.int .i64 20, .int .i64 40, .int .i64 10] 2 (0, 0))) (fun e w' => e = .returned (.bool true) ∧ Below W.heap.size W w') := fun W hb => same_call W A2 c2 [20, 40, 10] (Kd.C_below HQ.out hb) HQc.out (by decide)
  have ho : ∀ W, Calls Try.prog 24 #[.slice (some ⟨W.heap.size, 0, none⟩) 1 1] (W.alloc (.cells #[.int .i64 0, .int .i64 0, .int .i64 (-1), .int .i64 1, .int .i64 0, .int .i64 0] 39 (0, 0))) (fun e w' => e = .returned (.bool true) ∧ Below W.heap.size W w') := fun W => ok_call W [⟨0, 0, -1, 1, 0, 0⟩] true ok3 (by decide)
  have ho2 : ∀ W, Calls Try.prog 24 #[.slice (some ⟨W.heap.size, 0, none⟩) 1 1] (W.alloc (.cells #[.int .i64 (-1), .int .i64 0, .int .i64 0, .int .i64 0, .int .i64 0, .int .i64 0] 39 (0, 0))) (fun e w' => e = .returned (.bool false) ∧ Below W.heap.size W w') := fun W => ok_call W [⟨-1, 0, 0, 0, 0, 0⟩] false ok4 (by decide)
  have HS := Lib.hid hs; have HS2 := Lib.hid hs2; have HO := Lib.hid ho; have HO2 := Lib.hid ho2; clear hs hs2 ho ho2
  have HW := Lib.hid (Below.refl w3.heap.size w3)
  have HL := Lib.hid (show (1 : Nat) = 1 from rfl)
  go_wp2_with (first | (go_at_call 22; (with_reducible refine (HS.out w3 HW.out).mono ?_); rintro e w4 ⟨rfl, hb⟩; have HB4 := Lib.hid (below_step HB3.out hb); have HW4 := Lib.hid hb; have H5 := Lib.hid (blk_below H4.out hb); clear HS HB3 H4 hb) | (go_at_call 22; (with_reducible refine (HS2.out w4 HW4.out).mono ?_); rintro e w5 ⟨rfl, hb⟩; have HB5 := Lib.hid (below_step HB4.out hb); have H6 := Lib.hid (blk_below H5.out hb); clear HS2 HB4 H5 hb; have y0 : w5.cell? ⟨w.heap.size, 0, none⟩ = some (.int .i64 0) := (blk_cell H6.out 0).trans rfl; have y1 : w5.cell? ⟨w.heap.size, 1, none⟩ = some (.int .i64 0) := (blk_cell H6.out 1).trans rfl; have y2 : w5.cell? ⟨w.heap.size, 2, none⟩ = some (.int .i64 (-1)) := (blk_cell H6.out 2).trans rfl; have y3 : w5.cell? ⟨w.heap.size, 3, none⟩ = some (.int .i64 1) := (blk_cell H6.out 3).trans rfl; have y4 : w5.cell? ⟨w.heap.size, 4, none⟩ = some (.int .i64 0) := (blk_cell H6.out 4).trans rfl; have y5 : w5.cell? ⟨w.heap.size, 5, none⟩ = some (.int .i64 0) := (blk_cell H6.out 5).trans rfl) | (go_at_call 24; (with_reducible refine (HO.out w5).mono ?_); rintro e w6 ⟨rfl, hb⟩; have HB6 := Lib.hid (below_step HB5.out hb); clear HO HB5 H6 hb y0 y1 y2 y3 y4 y5) | (go_at_call 24; (with_reducible refine (HO2.out w6).mono ?_); rintro e w7 ⟨rfl, hb⟩; have HB7 := Lib.hid (below_step HB6.out hb); clear HO2 HB6 hb))
  go_ret
  exact ⟨rfl, HB7.out⟩

/-- 'awake' tells true. -/
def awk.f : Option Bool := some true
theorem awake_eq : awk.f = some true := rfl
theorem awk.calls (r : Bool) (w : World) (h : awk.f = some r) : Calls Try.prog 21 #[] w fun e w' => e = .returned (.bool r) ∧ Below w.heap.size w w' := by
  obtain rfl := Option.some.inj h
  exact awake_walk w
end Go.Proofs.Ytlcghlcpngafgaa.PFree
