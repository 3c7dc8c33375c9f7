/- The walk of FreeFixed: whatever the items, the fixed one and the room, it returns true. -/
import Derived.Test.YtlcghlcpngafgaaFFp
import Derived.Test.YtlcghlcpngafgaaFAwk
import Derived.Deep.DeepCutAuto
import Derived.Deep.CutBlock
import Derived.Deep.RegionHeld3
namespace Go.Proofs.Ytlcghlcpngafgaa.PFree
open Go.RowKit Go.Proofs.YtlcghlcpngafgaaW.PrintWords Go.Proofs.YtlcghlcpngafgaaW.PrintLast Go.Proofs.YtlcghlcpngafgaaW.PrintMore
attribute [local go_sem] max2_int min2_int max_two min_two max_three min_three max_four min_four
set_option linter.unusedVariables false
set_option linter.unusedSimpArgs false
def mkF (x : Int) : S39 := ⟨Go.bits .and .i64 x 255, 0, -1, Go.bits .and .i64 (x / 256) 3, 0, 0⟩
def itF (l : List Int) (n : Nat) : List S39 := lst n (fun j => mkF (l.getD j 0))
theorem itF_length (l : List Int) (n : Nat) : (itF l n).length = n := lst_length _ _
theorem itF_itm (l : List Int) {n i : Nat} (h : i < n) : itm (itF l n) i = mkF (l.getD i 0) := lst_getD _ _ h
theorem and255 (a : Int) : 0 ≤ Go.bits .and .i64 a 255 ∧ Go.bits .and .i64 a 255 ≤ 255 := by
  have m1 : Go.bits .and .i64 a 255 = a % 256 := U.and_mask a 8 (by decide)
  omega
theorem and3 (a : Int) : 0 ≤ Go.bits .and .i64 a 3 ∧ Go.bits .and .i64 a 3 ≤ 3 := by
  have m1 : Go.bits .and .i64 a 3 = a % 4 := U.and_mask a 2 (by decide)
  omega
theorem and4095 (a : Int) : 0 ≤ Go.bits .and .i64 a 4095 ∧ Go.bits .and .i64 a 4095 ≤ 4095 := by
  have m1 : Go.bits .and .i64 a 4095 = a % 4096 := U.and_mask a 12 (by decide)
  omega
theorem mkF_ok (x : Int) : OkX (mkF x) := by
  have h1 := and255 x
  have h2 := and3 (x / 256)
  refine ⟨h1.1, by simp only [mkF]; omega, ?_, ?_, ?_, ?_, h2.1, by simp only [mkF]; omega, ?_, ?_, ?_, ?_⟩ <;> simp [mkF]
theorem itF_ok (l : List Int) (n : Nat) : ∀ x ∈ itF l n, OkX x := by
  intro x hx
  simp only [itF, lst, List.mem_map, List.mem_range] at hx
  obtain ⟨j, _, rfl⟩ := hx
  exact mkF_ok _
theorem itF_nf (l : List Int) (n : Nat) : NF (itF l n) := by
  intro x hx
  simp only [itF, lst, List.mem_map, List.mem_range] at hx
  obtain ⟨j, _, rfl⟩ := hx
  exact ⟨rfl, hyp_nb ⟨rfl, rfl⟩ (mkF_ok _), .inl ⟨rfl, rfl⟩⟩
def sF (l : List Int) : Nat → Int
  | 0 => 0
  | i + 1 => sF l i + Go.bits .and .i64 (l.getD i 0) 255
theorem sF_bd (l : List Int) : ∀ i : Nat, 0 ≤ sF l i ∧ sF l i ≤ (i : Int) * 255 := by
  intro i
  induction i with
  | zero => simp [sF]
  | succ i ih => have := and255 (l.getD i 0); simp only [sF]; omega
theorem sumB_F (l : List Int) (n : Nat) : ∀ i, i ≤ n → sumB (itF l n) i = sF l i := by
  intro i
  induction i with
  | zero => intro _; rfl
  | succ i ih => intro hi; simp only [sumB, sF, ih (by omega), itF_itm l (show i < n by omega)]; simp [mkF]
/-- The item without a factor. -/
def fxX (a : Int) : S39 := ⟨a, a, a, 0, 0, 0⟩
theorem fxX_ok {a : Int} (h0 : 0 ≤ a) (h1 : a ≤ 255) : OkX (fxX a) := by
  refine ⟨h0, ?_, h0, ?_, ?_, ?_, ?_, ?_, ?_, ?_, ?_, ?_⟩ <;> simp only [fxX] <;> omega
theorem fxX_hyp {a : Int} (h0 : 0 ≤ a) : hyp (fxX a) = a := by
  unfold hyp clampI fxX; split <;> simp only at * <;> omega
/-- What both calls of free.Resolve answer. -/
theorem fixed_res (l : List Int) (n : Nat) (hn : n ≤ 8) (a more : Int) (ha0 : 0 ≤ a) (ha1 : a ≤ 255) (hm0 : 0 < more) (hm1 : more ≤ 4096) (k : Nat) (hk : k ≤ n) :
    ∃ p : List Int, free_Resolve.f (itF l n) (sF l n + more) = some p ∧ p.length = n ∧ free_Resolve.f (ins k (fxX a) (itF l n)) (sF l n + more + a) = some (ins k a p) := by
  have hs := sF_bd l n
  have hl := itF_length l n
  have hsb : sumB (itF l n) (itF l n).length = sF l n := by rw [hl]; exact sumB_F l n n (Nat.le_refl _)
  have hq : okR (ins k (fxX a) (itF l n)) (sF l n + more + a) = true := by
    simp only [okR, okL, Bool.and_eq_true, decide_eq_true_eq]
    rw [ins_length (by omega), hl]
    refine ⟨⟨⟨⟨fun y hy => ?_, by omega⟩, by omega⟩, by omega⟩, by omega⟩
    simp only [ins, List.mem_append, List.mem_cons] at hy
    rcases hy with hy | hy | hy
    · exact itF_ok l n y (List.mem_of_mem_take hy)
    · rw [hy]; exact fxX_ok ha0 ha1
    · exact itF_ok l n y (List.mem_of_mem_drop hy)
  have hlaw := fixed_law (itF_ok l n) (itF_nf l n) (fxX a) (fxX_ok ha0 ha1) rfl rfl (fxX_hyp ha0) k (by omega) more hm0
  rw [hsb] at hlaw
  rw [free_Resolve.eq, free_Resolve.eq, if_pos hq]
  have e0 : (fxX a).f0 = a := rfl
  rw [e0] at hlaw
  rw [hlaw]
  by_cases hz : n = 0
  · have hl0 : (itF l n).length = 0 := by omega
    have q : okR (itF l n) (sF l n + more) = false := by simp [okR, hl0]
    have e : rslv (itF l n) (sF l n + more) = [] := List.length_eq_zero_iff.1 (by rw [rslv_length, hl]; exact hz)
    exact ⟨[], by rw [q]; simp, by rw [hz]; rfl, by rw [e]⟩
  · have q : okR (itF l n) (sF l n + more) = true := by
      simp only [okR, okL, Bool.and_eq_true, decide_eq_true_eq]
      rw [hl]
      exact ⟨⟨⟨⟨itF_ok l n, by omega⟩, by omega⟩, by omega⟩, by omega⟩
    exact ⟨_, by rw [if_pos q], by rw [rslv_length, hl], rfl⟩
theorem at_numF {w : World} {A : Option Addr} {n : Nat} {l : List Int} (h : Kd.C (Kd.int .i64) w A n l) (i : Nat) (hi : i < n) : ∃ ad, A = some ad ∧ w.cell? (ad.add i) = some (.int .i64 (l.getD i 0)) := by
  have := Kd.at_int h (i : Int) (by omega) (by omega)
  rw [U.rd_nat, Int.toNat_natCast] at this
  exact this
theorem R_empty2 {W : World} {H base : Nat} (h : W.heap[H]? = some (.cells #[] 2 (0, 0))) (hb : base ≤ H) : Kd.R (Kd.int .i64) 2 W base (fun _ => True) (.slice (some ⟨H, 0, none⟩) 0 0) [] :=
  ⟨fun _ _ => trivial, [], ⟨rfl, .inr ⟨H, 0, #[], rfl, hb, h, Nat.le_refl _, by unfold maxLen; omega, rfl, rfl⟩⟩, Reps.none _ _⟩
/-- free.Resolve, of any row. -/
theorem res_row {W : World} {A : Option Addr} {n c : Nat} {l : List S39} (hC : Kd.C k39 W A n l) (hn : l.length = n) (hc : n ≤ c) (inner : Int) (R : List Int) (h : free_Resolve.f l inner = some R) (m : Nat) (hm : R.length = m) :
    Calls Try.prog 20 #[.slice A n c, .int .i64 inner] W fun e w' => ∃ A' c', e = .returned (.slice A' m c') ∧ m ≤ c' ∧ Kd.C (Kd.int .i64) w' A' m R ∧ Below W.heap.size W w' := by
  subst hn
  subst hm
  refine (free_Resolve.calls _ _ l inner R W hC hc h).mono ?_
  rintro e w' ⟨v, rfl, hR2, hB⟩
  obtain ⟨A', c', rfl, hc2, hC2⟩ := Kd.R_reads hR2
  exact ⟨A', c', rfl, hc2, hC2, hB⟩
theorem ins_cut {k : Nat} {a : Int} {p : List Int} (hk : k ≤ p.length) : (ins k a p).take k ++ (ins k a p).drop (k + 1) = p := by
  unfold ins
  have h1 : (p.take k).length = k := by rw [List.length_take]; omega
  rw [List.take_append_of_le_length (by omega), List.drop_append, h1, List.drop_eq_nil_of_le (by omega)]
  have h2 : k + 1 - k = 1 := by omega
  rw [h2, List.take_take, Nat.min_self]
  simp
theorem same_row {W : World} {A A2 : Option Addr} {n c c2 : Nat} {p : List Int} (hn : p.length = n) (hC : Kd.C (Kd.int .i64) W A n p) (hc : n ≤ c) (hC2 : Kd.C (Kd.int .i64) W A2 n p) (hc2 : n ≤ c2) (hl : n ≤ 1000) :
    Calls Try.prog 22 #[.slice A n c, .slice A2 n c2] W fun e w' => e = .returned (.bool true) ∧ Below W.heap.size W w' := by
  subst hn
  refine (quoinlaw16_Same.calls (p.length + 1) A c p A2 c2 p true W hC hc hC2 hc2 (same_refl p (by omega) _ (Nat.le_refl _))).mono ?_
  rintro e w' ⟨rfl, hd⟩
  exact ⟨rfl, hd.below⟩
theorem heap_at39 {H : Nat} (W : World) (o : Obj) (h : W.heap.size = H) : (W.alloc o).heap[H]? = some o := by subst h; exact heap_alloc_new W o
/-- A row of no items, just made. -/
theorem R_empty39 {W : World} {H base : Nat} (h : W.heap[H]? = some (.cells #[] 39 (0, 0))) (hb : base ≤ H) : Kd.R k39 39 W base (fun _ => True) (.slice (some ⟨H, 0, none⟩) 0 0) [] :=
  ⟨fun _ _ => trivial, [], ⟨rfl, .inr ⟨H, 0, #[], rfl, hb, h, Nat.le_refl _, by unfold maxLen; omega, rfl, rfl⟩⟩, Reps.none _ _⟩
/-- A row of one item, just made. -/
theorem C_one39 {W : World} {H : Nat} (x : S39) (h : W.heap[H]? = some (.cells #[.int .i64 x.f0, .int .i64 x.f1, .int .i64 x.f2, .int .i64 x.f3, .int .i64 x.f4, .int .i64 x.f5] 39 (0, 0))) : Kd.C k39 W (some ⟨H, 0, none⟩) 1 [x] := by
  refine ⟨rfl, by omega, fun _ => ⟨_, rfl, fun j p hj => ?_⟩⟩
  have hj0 : j = 0 := by
    rcases j with _ | j
    · rfl
    · simp at hj
  subst hj0
  obtain rfl : x = p := by simpa using hj
  refine ⟨_, rfl, k39_mk W x, fun i u hu => ?_⟩
  have e : (⟨H, 0, none⟩ : Addr).add (0 * k39.sz + i) = ⟨H, i, none⟩ := by simp [Addr.add]; omega
  rw [e, blk_cell h]
  simpa using hu
set_option maxHeartbeats 4000000 in
set_option maxRecDepth 100000 in
theorem fixed_walk (a0 : Option Addr) (len0 cap0 : Nat) (z0 : List Int) (a1 a2 a3 : Int) (w : World) (w0 : (a0 = none ∧ len0 = 0 ∧ cap0 = 0 ∧ z0 = []) ∨ ∃ x, a0 = some x ∧ len0 ≤ cap0 ∧ cap0 ≤ maxLen ∧ z0.length = cap0 ∧ (∀ i, i < z0.length → w.cell? (x.add i) = some (.int .i64 (z0.getD i 0))) ∧ ∀ n ∈ z0, (Lit.int .i64 n).wf = true) :
    Calls Try.prog 10 #[.slice a0 len0 cap0, .int .i64 a1, .int .i64 a2, .int .i64 a3] w fun e w' => e = .returned (.bool true) ∧ Below w.heap.size w w' := by
  obtain ⟨l, rfl, hr0, hm0, hw0, hc0⟩ := ReadsInt.ofRowC w0
  have hC : Kd.C (Kd.int .i64) w a0 l.length l := Kd.C_of_reads (d := (0 : Int)) (h1 := fun _ => rfl) hr0
  obtain ⟨n, hn⟩ : ∃ n, n = min l.length 8 := ⟨_, rfl⟩
  obtain ⟨a, ha⟩ : ∃ a, Go.bits .and .i64 a1 255 = a := ⟨_, rfl⟩
  obtain ⟨b2, hb2⟩ : ∃ b2, Go.bits .and .i64 a2 255 = b2 := ⟨_, rfl⟩
  obtain ⟨m4, hm4⟩ : ∃ m4, Go.bits .and .i64 a3 4095 = m4 := ⟨_, rfl⟩
  have q1 := and255 a1
  have q2 := and255 a2
  have q3 := and4095 a3
  rw [ha] at q1
  rw [hb2] at q2
  rw [hm4] at q3
  obtain ⟨k, hk, hkn⟩ : ∃ k : Nat, Int.tmod b2 ((n : Int) + 1) = (k : Int) ∧ k ≤ n := by
    have h1 : Int.tmod b2 ((n : Int) + 1) = b2 % ((n : Int) + 1) := Int.tmod_eq_emod_of_nonneg q2.1
    have h2 := Int.emod_nonneg b2 (b := (n : Int) + 1) (by omega)
    have h3 := Int.emod_lt_of_pos b2 (b := (n : Int) + 1) (by omega)
    exact ⟨(b2 % ((n : Int) + 1)).toNat, by omega, by omega⟩
  obtain ⟨m5, hm5⟩ : ∃ m5, wrap64 (m4 + 1) = m5 := ⟨_, rfl⟩
  have q5 : 0 < m5 ∧ m5 ≤ 4096 := by rw [← hm5, w64 (by omega) (by omega)]; omega
  obtain ⟨p, hp1, hpl, hp2⟩ := fixed_res l n (by omega) a m5 q1.1 q1.2 q5.1 q5.2 k hkn
  have HC := Lib.hid hC; have HC0 := Lib.hid hc0; have HP1 := Lib.hid hp1; have HPL := Lib.hid hpl; have HP2 := Lib.hid hp2; have HN := Lib.hid hn; have HQ1 := Lib.hid q1; have HQ3 := Lib.hid q5; have HKN := Lib.hid hkn
  clear w0 hr0 hm0 hw0 hc0 hC hp1 hpl hp2 hn q1 q2 q3 q5 hkn
  have hu39 := Try.underlying39
  go_enter Try.func10, Try.ntmps10
  go_wp2
  go_loopg [9, 11, 12] n (fun gk v9 v11 v12 wr => ∃ i : Nat, v12 = .int .i64 (i : Int) ∧ i ≤ n ∧ n - i ≤ gk ∧ v11 = .int .i64 (sF l i) ∧ Hid (Kd.R k39 39 wr w.heap.size (fun _ => True) v9 (itF l i)) ∧ Hid (Below w.heap.size w wr))
  case atStart => exact ⟨0, rfl, by omega, by omega, rfl, Kd.R_nil _ _ _ _ _, Below.refl _ _⟩
  case round =>
    obtain ⟨i, rfl, hi, hgk, rfl, HR, HB⟩ := hrel
    have hn := HN.out
    by_cases hlt : i < n
    · have d1 : decide ((i : Int) < (l.length : Int)) = true := decide_eq_true (by omega)
      have d2 : decide ((i : Int) < 8) = true := decide_eq_true (by omega)
      obtain ⟨ad, eA, y0⟩ := at_numF (Kd.C_below HC.out HB.out) i (by omega)
      cases eA
      have ci : (0 : Int) ≤ (i : Int) := by omega
      have ci' : (i : Int) < (l.length : Int) := by omega
      have hsb := sF_bd l i
      have hse : sF l (i + 1) = sF l i + Go.bits .and .i64 (l.getD i 0) 255 := rfl
      have HBS := Lib.hid (show itF l (i + 1) = itF l i ++ [mkF (l.getD i 0)] from lst_succ i (fun j => mkF (l.getD j 0)))
      have HLN := Lib.hid (show (itF l i).length ≤ 12 from by rw [itF_length]; omega)
      generalize l.getD i 0 = x at *
      have hx := and255 x
      have t1 : wrap64 (sF l i + Go.bits .and .i64 x 255) = sF l (i + 1) := by rw [hse]; exact w64 (by omega) (by omega)
      clear hse hsb hx hn
      go_upto_region 6 with (fail)
      have y1 : (wr.alloc (.cells #[.int .i64 0, .int .i64 0, .int .i64 0, .int .i64 0, .int .i64 0, .int .i64 0] 39 (0, 0))).drew.cell? (ad.add i) = some (.int .i64 x) := (World.cell?_alloc_lt _ _ _ (World.block_lt_of_cell? _ _ y0)).trans y0
      have y2 : (wr.drew.alloc (.cells #[.int .i64 0, .int .i64 0, .int .i64 0, .int .i64 0, .int .i64 0, .int .i64 0] 39 (0, 0))).cell? (ad.add i) = some (.int .i64 x) := (World.cell?_alloc_lt _ _ _ (World.block_lt_of_cell? _ _ y0)).trans y0
      go_region
      obtain ⟨Ao, co, eo⟩ := Kd.R_slice HR.out
      subst eo
      go_upto_region 7 with (fail)
      obtain ⟨W1, hW1⟩ : ∃ W1, W1 = (wr.alloc (.cells #[.int .i64 (Go.bits .and .i64 x 255), .int .i64 0, .int .i64 (-1), .int .i64 (Go.bits .and .i64 (x / 256) 3), .int .i64 0, .int .i64 0] 39 (0, 0))).drew := ⟨_, rfl⟩
      rw [← hW1]
      have HR1 := Lib.hid (show Kd.R k39 39 W1 w.heap.size (fun k => True ∧ k ≠ wr.heap.size) (.slice Ao (itF l i).length co) (itF l i) from by rw [hW1]; exact Kd.R_drew (Kd.R_alloc (Kd.R_elderB HR.out _ (Nat.le_refl _)) _))
      have HB1 := Lib.hid (show Below w.heap.size w W1 from by rw [hW1]; exact below_drew1 (below_alloc HB.out _))
      have HX1 := Lib.hid (show W1.heap[wr.heap.size]? = some (.cells #[.int .i64 (Go.bits .and .i64 x 255), .int .i64 0, .int .i64 (-1), .int .i64 (Go.bits .and .i64 (x / 256) 3), .int .i64 0, .int .i64 0] 39 (0, 0)) from by rw [hW1]; exact blk_drew (blk_new wr _))
      have HXL := Lib.hid (show wr.heap.size < W1.heap.size from by rw [hW1]; exact (Array.getElem?_eq_some_iff.1 (blk_drew (blk_new wr _))).1)
      clear y0 y1 y2 hW1 HR HB
      generalize wr.heap.size = XB at *
      have hne : some XB ≠ (Value.slice Ao (itF l i).length co).ownBlock := by
        have h := HR1.out
        unfold Kd.R at h
        exact fun e => (h.1 XB e.symm).2 rfl
      have z0 : W1.cell? ⟨XB, 0, none⟩ = some (.int .i64 (Go.bits .and .i64 x 255)) := (blk_cell HX1.out 0).trans rfl
      have z1 : W1.cell? ⟨XB, 1, none⟩ = some (.int .i64 0) := (blk_cell HX1.out 1).trans rfl
      have z2 : W1.cell? ⟨XB, 2, none⟩ = some (.int .i64 (-1)) := (blk_cell HX1.out 2).trans rfl
      have z3 : W1.cell? ⟨XB, 3, none⟩ = some (.int .i64 (Go.bits .and .i64 (x / 256) 3)) := (blk_cell HX1.out 3).trans rfl
      have z4 : W1.cell? ⟨XB, 4, none⟩ = some (.int .i64 0) := (blk_cell HX1.out 4).trans rfl
      have z5 : W1.cell? ⟨XB, 5, none⟩ = some (.int .i64 0) := (blk_cell HX1.out 5).trans rfl
      go_wp2_with (first | ((with_reducible refine gate_builtin (b := .append) (xs := #[.tmp 39, .tmp 41]) rfl ?_); at_builtin; refine Kd.R_append k39 (w0 := w) w.heap.size rfl (.tmp 39) (.tmp 41) 36 39 (.agg #[(.int .i64 0), (.int .i64 0), (.int .i64 0), (.int .i64 0), (.int .i64 0), (.int .i64 0)]) 48 rfl Try.underlying36 info39 rfl (by decide) (by decide) (.slice Ao (itF l i).length co) (itF l i) (mkF x) [.int .i64 (Go.bits .and .i64 x 255), .int .i64 0, .int .i64 (-1), .int .i64 (Go.bits .and .i64 (x / 256) 3), .int .i64 0, .int .i64 0] (fun k => True ∧ k ≠ XB) (fun _ => False) rfl ?aX ?aP (fun _ hk => hk.elim) ?aF ?aO ?aB ?aS ?aL ?_; (case aX => first | rfl | (go_simp; done) | (go_simp; rfl)); (case aP => exact k39_mkM _ _ _ (mkF x)); (case aB => exact HB1.out); (case aF => exact (fun k hk => ⟨trivial, fun e => absurd (Nat.lt_of_lt_of_le HXL.out (show _ ≤ XB from by rw [e] at hk; exact hk)) (Nat.lt_irrefl _)⟩)); (case aO => exact HR1.out); (case aS => exact HB1.out.size); (case aL => have := HLN.out; omega); intro v115 w8 ho hb hg hat; have n0_ := Lib.hid hb; have n1_ := Lib.hid (Kd.R_mono ho (fun k hk => hk.1)); have n2_ := blk_grown HX1.out hg hne; have n3_ : w8.cell? ⟨XB, 0, none⟩ = some (.int .i64 (Go.bits .and .i64 x 255)) := (blk_cell n2_ 0).trans rfl; clear HB1 HR1 HX1 z0 z1 z2 z3 z4 z5; clear ho hb hg hat n2_))
      go_roundg (n - (i + 1))
      case measure => omega
      case rel => exact ⟨i + 1, (by have := HN.out; simp; exact w64 (by omega) (by omega)), by omega, by omega, by rw [t1], by rw [HBS.out]; exact n1_, n0_⟩
    · obtain rfl : i = n := by omega
      obtain ⟨A9, c9, e9, h9c, h9C⟩ := Kd.R_reads HR.out
      subst e9
      have HC9 := Lib.hid h9C; have HL9 := Lib.hid h9c
      have hsb := sF_bd l i
      have b3 := HQ3.out
      have b1 := HQ1.out
      have HT2 : Hid (wrap64 ((i : Int) + 1) = (i : Int) + 1) := w64 (by omega) (by omega)
      have HT3 : Hid (wrap64 (sF l i + m5) = sF l i + m5) := w64 (by omega) (by omega)
      have HT4 : Hid (wrap64 (sF l i + m5 + a) = sF l i + m5 + a) := w64 (by omega) (by omega)
      have HT5 : Hid ((((i : Int) + 1) == 0) = false) := by show _ = _; simp; omega
      clear h9c h9C hi hgk hsb b3 b1
      have HC9' : Hid (Kd.C k39 wr A9 i (itF l i)) := by have := HC9.out; rw [itF_length] at this; exact this
      have HL9' : Hid (i ≤ c9) := by have := HL9.out; rw [itF_length] at this; exact this
      rw [itF_length]
      clear HC9 HL9
      have HLT : Hid (¬ (i < l.length ∧ i < 8)) := fun h => hlt (by have := HN.out; omega)
      clear hlt hn
      go_upto_region 4 with (fail)
      go_cut [24] (fun v24 wc => v24 = .bool false ∧ wr = wc)
      case first =>
        by_cases x1 : i < l.length
        · have d1 : decide ((i : Int) < (l.length : Int)) = true := decide_eq_true (by omega)
          have d2 : decide ((i : Int) < 8) = false := decide_eq_false (fun h => HLT.out ⟨x1, by omega⟩)
          go_wp2
          go_meet
          case rel => exact ⟨rfl, rfl⟩
        · have d1 : decide ((i : Int) < (l.length : Int)) = false := decide_eq_false (by omega)
          go_wp2
          go_meet
          case rel => exact ⟨rfl, rfl⟩
      case rest =>
        obtain ⟨rfl, rfl⟩ := hcut
        have t2 := HT2.out
        have t5 := HT5.out
        go_upto_region 11 with (fail)
        rw [hm5]
        clear hm5 t5 ha hb2 hm4 hk
        obtain ⟨i39, hi39, hz39, hs39, _⟩ := info_parts info39
        have HKN2 : Hid (k ≤ i) := HKN.out
        obtain ⟨A2, hA2⟩ : ∃ A2, A2 = (if c9 = k then A9 else A9.map (·.add (k * 6))) := ⟨_, rfl⟩
        have HCT : Hid (Kd.C k39 wr A9 k ((itF l i).take k)) := by
          have h := Kd.C_take (m := k) (show Kd.C k39 wr A9 (itF l i).length (itF l i) from by rw [itF_length]; exact HC9'.out) (by rw [itF_length]; exact HKN2.out)
          have e : ((itF l i).take k).length = k := by rw [List.length_take, itF_length]; exact Nat.min_eq_left HKN2.out
          rw [e] at h; exact h
        have HCD : Hid (Kd.C k39 wr A2 (i - k) ((itF l i).drop k)) := by
          have h := Kd.C_drop (m := k) (c := c9) (show Kd.C k39 wr A9 (itF l i).length (itF l i) from by rw [itF_length]; exact HC9'.out) (by rw [itF_length]; exact HKN2.out) (by rw [itF_length]; exact HL9'.out)
          have e : ((itF l i).drop k).length = i - k := by rw [List.length_drop, itF_length]
          rw [e] at h
          rw [hA2]; exact h
        have cut1 := cut_to (P := Try.prog) 36 39 .i64 Try.underlying36 hi39 A9 i c9 (k : Int) (by omega) (by have := HKN2.out; omega) HL9'.out
        have cut2 := cut_from (P := Try.prog) 36 39 .i64 Try.underlying36 hi39 6 hs39 A9 i c9 (k : Int) (by omega) (by have := HKN2.out; omega)
        simp only [Int.toNat_natCast] at cut1 cut2
        rw [← hA2] at cut2
        clear hA2 hi39 hz39 hs39
        have HIL : Hid (i ≤ 8) := by have := HN.out; show i ≤ 8; omega
        have HBW := Lib.hid HB.out
        clear HB HR
        go_cut [10] (fun v10 wc => ∃ A c, v10 = .slice A (i + 1) c ∧ Hid (Kd.C k39 wc A (i + 1) (ins k (fxX a) (itF l i))) ∧ Hid (i + 1 ≤ c) ∧ Hid (Below wr.heap.size wr wc))
        case first =>
          go_region_held3 (fun _ => True) (trivial) ((first | ((refine Kd.R_append_rows_step k39 (Rr := k39.K _) (w0 := wr) wr.heap.size (by rfl) (.tmp 58) (.tmp 61) 36 39 (.agg #[(.int .i64 0), (.int .i64 0), (.int .i64 0), (.int .i64 0), (.int .i64 0), (.int .i64 0)]) 48 (by rfl) Try.underlying36 info39 rfl (by decide) (by decide) (.slice (some ⟨wr.heap.size, 0, none⟩) 0 0) [] ((itF l i).take k) A9 k c9 (fun _ => True) (fun _ => False) (by rfl) (by rfl) (R_empty39 (by first | exact heap_alloc_new _ _ | exact (Below.heap_alloc _ _ _ (by simp)).trans (heap_alloc_new _ _) | exact heap_at39 _ _ (by simp)) (by simp)) (Kd.C_below HCT.out (by repeat (first | (with_reducible first | exact Below.refl _ _ | apply below_alloc | apply pw_below_drewN | apply below_drew1) | exact Below.refl _ _))) (fun _ _ h => h) (fun _ h => h.elim) (fun _ _ => trivial) (by repeat (first | (with_reducible first | exact Below.refl _ _ | apply below_alloc | apply pw_below_drewN | apply below_drew1) | exact Below.refl _ _)) (below_size (by repeat (first | (with_reducible first | exact Below.refl _ _ | apply below_alloc | apply pw_below_drewN | apply below_drew1) | exact Below.refl _ _))) (by have := HKN2.out; have := HIL.out; simp only [List.length_nil]; omega) ?_; intro v1 w1 ho hb hg hat; have HO1 := Lib.hid ho; have HN1 := Lib.hid hb; have HE1 := Lib.hid (C_one39 (fxX a) ((hg.block (wr.heap.size + 1) (by simp <;> omega) (by simp [Value.ownBlock] <;> omega)).trans (by first | exact heap_alloc_new _ _ | exact (Below.heap_alloc _ _ _ (by simp)).trans (heap_alloc_new _ _) | exact heap_at39 _ _ (by simp)))); clear ho hb hg hat)) | ((refine Kd.R_append_rows_step k39 (Rr := k39.K _) (w0 := wr) wr.heap.size (by rfl) (.tmp 58) (.tmp 61) 36 39 (.agg #[(.int .i64 0), (.int .i64 0), (.int .i64 0), (.int .i64 0), (.int .i64 0), (.int .i64 0)]) 48 (by rfl) Try.underlying36 info39 rfl (by decide) (by decide) (.slice (some ⟨(wr.heap.size + 1), 0, none⟩) 0 0) [] ((itF l i).take k) A9 k c9 (fun _ => True) (fun _ => False) (by rfl) (by rfl) (R_empty39 (by first | exact heap_alloc_new _ _ | exact (Below.heap_alloc _ _ _ (by simp)).trans (heap_alloc_new _ _) | exact heap_at39 _ _ (by simp)) (by simp)) (Kd.C_below HCT.out (by repeat (first | (with_reducible first | exact Below.refl _ _ | apply below_alloc | apply pw_below_drewN | apply below_drew1) | exact Below.refl _ _))) (fun _ _ h => h) (fun _ h => h.elim) (fun _ _ => trivial) (by repeat (first | (with_reducible first | exact Below.refl _ _ | apply below_alloc | apply pw_below_drewN | apply below_drew1) | exact Below.refl _ _)) (below_size (by repeat (first | (with_reducible first | exact Below.refl _ _ | apply below_alloc | apply pw_below_drewN | apply below_drew1) | exact Below.refl _ _))) (by have := HKN2.out; have := HIL.out; simp only [List.length_nil]; omega) ?_; intro v1 w1 ho hb hg hat; have HO1 := Lib.hid ho; have HN1 := Lib.hid hb; have HE1 := Lib.hid (C_one39 (fxX a) ((hg.block wr.heap.size (by simp <;> omega) (by simp [Value.ownBlock] <;> omega)).trans (by first | exact heap_alloc_new _ _ | exact (Below.heap_alloc _ _ _ (by simp)).trans (heap_alloc_new _ _) | exact heap_at39 _ _ (by simp)))); clear ho hb hg hat)) | ((refine Kd.R_append_rows_step k39 (Rr := k39.K _) (w0 := wr) wr.heap.size (by rfl) (.tmp 58) (.tmp 61) 36 39 (.agg #[(.int .i64 0), (.int .i64 0), (.int .i64 0), (.int .i64 0), (.int .i64 0), (.int .i64 0)]) 48 (by rfl) Try.underlying36 info39 rfl (by decide) (by decide) (.slice (some ⟨wr.heap.size, 0, none⟩) 0 0) [] ((itF l i).take k) A9 k c9 (fun _ => True) (fun _ => False) (by rfl) (by rfl) (R_empty39 (by first | exact heap_alloc_new _ _ | exact (Below.heap_alloc _ _ _ (by simp)).trans (heap_alloc_new _ _) | exact heap_at39 _ _ (by simp)) (by simp)) (Kd.C_below HCT.out (by repeat (first | (with_reducible first | exact Below.refl _ _ | apply below_alloc | apply pw_below_drewN | apply below_drew1) | exact Below.refl _ _))) (fun _ _ h => h) (fun _ h => h.elim) (fun _ _ => trivial) (by repeat (first | (with_reducible first | exact Below.refl _ _ | apply below_alloc | apply pw_below_drewN | apply below_drew1) | exact Below.refl _ _)) (below_size (by repeat (first | (with_reducible first | exact Below.refl _ _ | apply below_alloc | apply pw_below_drewN | apply below_drew1) | exact Below.refl _ _))) (by have := HKN2.out; have := HIL.out; simp only [List.length_nil]; omega) ?_; intro v1 w1 ho hb hg hat; have HO1 := Lib.hid ho; have HN1 := Lib.hid hb; clear ho hb hg hat)) | ((refine Kd.R_append_rows_step k39 (Rr := k39.K _) (w0 := wr) wr.heap.size (by rfl) (.tmp 62) (.tmp 67) 36 39 (.agg #[(.int .i64 0), (.int .i64 0), (.int .i64 0), (.int .i64 0), (.int .i64 0), (.int .i64 0)]) 48 (by rfl) Try.underlying36 info39 rfl (by decide) (by decide) v1 ((itF l i).take k) [fxX a] (some ⟨w1.heap.size, 0, none⟩) 1 1 (fun _ => True) (fun _ => False) (by rfl) (by rfl) (by (with_reducible repeat (first | apply Kd.R_alloc | apply Kd.R_drewN | apply Kd.R_drew)); exact HO1.out) (C_one39 (fxX a) (heap_alloc_new _ _)) (fun _ _ h => h) (fun _ h => h.elim) (fun _ _ => trivial) (by repeat (first | (with_reducible first | exact HN1.out | apply below_alloc | apply pw_below_drewN | apply below_drew1) | exact HN1.out)) (below_size (by repeat (first | (with_reducible first | exact HN1.out | apply below_alloc | apply pw_below_drewN | apply below_drew1) | exact HN1.out))) (by have := HKN2.out; have := HIL.out; rw [List.length_take]; omega) ?_; intro v2 w2 ho hb hg hat; have HO2 := Lib.hid ho; have HN2 := Lib.hid hb; clear HO1 HN1; clear ho hb hg hat)) | ((refine Kd.R_append_rows_step k39 (Rr := k39.K _) (w0 := wr) wr.heap.size (by rfl) (.tmp 62) (.tmp 67) 36 39 (.agg #[(.int .i64 0), (.int .i64 0), (.int .i64 0), (.int .i64 0), (.int .i64 0), (.int .i64 0)]) 48 (by rfl) Try.underlying36 info39 rfl (by decide) (by decide) v1 ((itF l i).take k) [fxX a] _ 1 1 (fun _ => True) (fun _ => False) (by rfl) (by rfl) HO1.out HE1.out (fun _ _ h => h) (fun _ h => h.elim) (fun _ _ => trivial) HN1.out (below_size HN1.out) (by have := HKN2.out; have := HIL.out; rw [List.length_take]; omega) ?_; intro v2 w2 ho hb hg hat; have HO2 := Lib.hid ho; have HN2 := Lib.hid hb; clear HO1 HN1; clear ho hb hg hat)) | ((refine Kd.R_append_rows_step k39 (Rr := k39.K _) (w0 := wr) wr.heap.size (by rfl) (.tmp 68) (.tmp 71) 36 39 (.agg #[(.int .i64 0), (.int .i64 0), (.int .i64 0), (.int .i64 0), (.int .i64 0), (.int .i64 0)]) 48 (by rfl) Try.underlying36 info39 rfl (by decide) (by decide) v2 (((itF l i).take k) ++ [fxX a]) ((itF l i).drop k) A2 (i - k) (c9 - k) (fun _ => True) (fun _ => False) (by rfl) (by rfl) HO2.out (Kd.C_below HCD.out HN2.out) (fun _ _ h => h) (fun _ h => h.elim) (fun _ _ => trivial) HN2.out (below_size HN2.out) (by have := HKN2.out; have := HIL.out; rw [List.length_append, List.length_take]; simp only [List.length_singleton]; omega) ?_; intro v3 w3 ho hb hg hat; have HO3 := Lib.hid ho; have HN3 := Lib.hid hb; clear HO2 HN2; clear ho hb hg hat))))
          all_goals (
            have ho3 := HO3.out
            have e3 : ((itF l i).take k ++ [fxX a]) ++ (itF l i).drop k = ins k (fxX a) (itF l i) := by simp [ins]
            rw [e3] at ho3
            have hl3 : (ins k (fxX a) (itF l i)).length = i + 1 := by rw [ins_length (by rw [itF_length]; exact HKN2.out), itF_length]
            obtain ⟨A3, c3, ev, hc3, hC3⟩ := Kd.R_reads ho3
            rw [hl3] at ev hc3 hC3
            subst ev
            have HC3 := Lib.hid hC3; have HL3 := Lib.hid hc3
            clear ho3 e3 hl3 hc3 hC3 HO3
            go_wp2
            go_meet
            case rel => exact ⟨A3, c3, rfl, HC3.out, HL3.out, HN3.out⟩)
        case rest =>
          obtain ⟨A10, c10, rfl, HC10, HL10, HB10⟩ := hcut
          clear cut1 cut2 HCT HCD
          have HC9b := Lib.hid (Kd.C_below HC9'.out HB10.out)
          have HBc := Lib.hid (below_step HBW.out HB10.out)
          obtain ⟨n1, hn1⟩ : ∃ n1, n1 = i + 1 := ⟨_, rfl⟩
          rw [← hn1] at HC10 HL10 ⊢
          have HN1e := Lib.hid hn1
          clear hn1
          have hlf : (ins k (fxX a) (itF l i)).length = n1 := by rw [ins_length (by rw [itF_length]; exact HKN2.out), itF_length]; exact HN1e.out.symm
          have hlp : (ins k a p).length = n1 := by rw [ins_length (by rw [HPL.out]; exact HKN2.out), HPL.out]; exact HN1e.out.symm
          have HR1 := Lib.hid (res_row HC9b.out (itF_length l i) HL9'.out (sF l i + m5) p HP1.out i HPL.out)
          have HLF := Lib.hid hlf; have HLP := Lib.hid hlp
          clear hlf hlp
          have t3 := HT3.out
          have t4 := HT4.out
          go_wp2_with fail
          refine HR1.out.mono ?_
          rintro e w4 ⟨A15, c15, rfl, hc15, hC15, hb⟩
          have HC15 := Lib.hid hC15; have HL15 := Lib.hid hc15; have HB4 := Lib.hid (below_step HBc.out hb)
          have HR2 := Lib.hid (res_row (Kd.C_below HC10.out hb) HLF.out HL10.out (sF l i + m5 + a) (ins k a p) HP2.out n1 HLP.out)
          clear hc15 hC15 hb HR1 HC9b HC10 HC9'
          go_wp2_with fail
          refine HR2.out.mono ?_
          rintro e w5 ⟨A16, c16, rfl, hc16, hC16, hb⟩
          have HC16 := Lib.hid hC16; have HL16 := Lib.hid hc16; have HB5 := Lib.hid (below_step HB4.out hb)
          have HC15b := Lib.hid (Kd.C_below HC15.out hb)
          clear hc16 hC16 hb HR2 HC15 HB4 t3 t4
          go_upto_region 15 with (fail)
          have hkn1 : k < n1 := by have := HKN2.out; have := HN1e.out; omega
          have HCUTP := Lib.hid (ins_cut (k := k) (a := a) (p := p) (by rw [HPL.out]; exact HKN2.out))
          obtain ⟨ad, eA, y0⟩ := at_numF HC16.out k hkn1
          rw [ins_mid (by rw [HPL.out]; exact HKN2.out)] at y0
          cases eA
          obtain ⟨i02, hi02, hz02, hs02, _⟩ := info_parts info2
          obtain ⟨k1, hk1⟩ : ∃ k1, k1 = k + 1 := ⟨_, rfl⟩
          have HK1e := Lib.hid hk1
          have t6 : IntKind.i64.wrap ((k : Int) + 1) = (k1 : Int) := by rw [IntKind.wrap_i64]; have := HIL.out; have := HKN2.out; omega
          obtain ⟨A5, hA5⟩ : ∃ A5, A5 = (if c16 = k1 then (some ad : Option Addr) else (some ad : Option Addr).map (·.add (k1 * 1))) := ⟨_, rfl⟩
          have HCT2 : Hid (Kd.C (Kd.int .i64) w5 (some ad) k ((ins k a p).take k)) := by
            have h := Kd.C_take (m := k) (show Kd.C (Kd.int .i64) w5 (some ad) (ins k a p).length (ins k a p) from by rw [HLP.out]; exact HC16.out) (by rw [HLP.out]; omega)
            have e : ((ins k a p).take k).length = k := by rw [List.length_take, HLP.out]; omega
            rw [e] at h; exact h
          have HCD2 : Hid (Kd.C (Kd.int .i64) w5 A5 (n1 - k1) ((ins k a p).drop k1)) := by
            have h := Kd.C_drop (m := k1) (c := c16) (show Kd.C (Kd.int .i64) w5 (some ad) (ins k a p).length (ins k a p) from by rw [HLP.out]; exact HC16.out) (by rw [HLP.out]; omega) (by rw [HLP.out]; exact HL16.out)
            have e : ((ins k a p).drop k1).length = n1 - k1 := by rw [List.length_drop, HLP.out]
            rw [e] at h
            rw [hA5]; exact h
          have cut3 := cut_to (P := Try.prog) 22 2 .i64 Try.underlying22 hi02 (some ad) n1 c16 (k : Int) (by omega) (by omega) HL16.out
          have cut4 := cut_from (P := Try.prog) 22 2 .i64 Try.underlying22 hi02 1 hs02 (some ad) n1 c16 (k1 : Int) (by omega) (by omega)
          simp only [Int.toNat_natCast] at cut3 cut4
          rw [← hA5] at cut4
          have HLT2 : Hid (((ins k a p).take k).length = k) := by show _ = _; rw [List.length_take, HLP.out]; omega
          have HLT3 : Hid (((ins k a p).take k ++ (ins k a p).drop k1) = p) := by show _ = _; rw [HK1e.out]; exact HCUTP.out
          have ck0 : (0 : Int) ≤ (k : Int) := by omega
          have ck1 : (k : Int) < (n1 : Int) := by omega
          clear hA5 hi02 hz02 hs02 hk1 hkn1
          have HB5k := Lib.hid (Below.refl w5.heap.size w5)
          go_region_held3 (fun w' => w'.cell? (ad.add k) = some (.int .i64 a)) (first | go_keep | exact (HM1.out.cell (World.block_lt_of_cell? _ _ y0)).trans y0) ((first | ((refine Kd.R_append_rows_step (Kd.int .i64) (w0 := w5) w5.heap.size (by rfl) (.tmp 104) (.tmp 107) 22 2 (.int .i64 0) 8 (by rfl) Try.underlying22 info2 rfl (by decide) (by decide) (.slice (some ⟨w5.heap.size, 0, none⟩) 0 0) [] ((ins k a p).take k) (some ad) k c16 (fun _ => True) (fun _ => False) (by rfl) (by rfl) (R_empty2 (by first | exact heap_alloc_new _ _ | exact (Below.heap_alloc _ _ _ (by simp)).trans (heap_alloc_new _ _) | exact heap_at39 _ _ (by simp)) (by simp)) (Kd.C_below HCT2.out (by repeat (first | (with_reducible first | exact Below.refl _ _ | apply below_alloc | apply pw_below_drewN | apply below_drew1) | exact Below.refl _ _))) (fun _ _ h => h) (fun _ h => h.elim) (fun _ _ => trivial) (by repeat (first | (with_reducible first | exact Below.refl _ _ | apply below_alloc | apply pw_below_drewN | apply below_drew1) | exact Below.refl _ _)) (below_size (by repeat (first | (with_reducible first | exact Below.refl _ _ | apply below_alloc | apply pw_below_drewN | apply below_drew1) | exact Below.refl _ _))) (by have := HKN2.out; have := HIL.out; simp only [List.length_nil]; omega) ?_; intro v6 w6 ho hb hg hat; have HO1 := Lib.hid ho; have HM1 := Lib.hid hb; clear ho hb hg hat)) | ((refine Kd.R_append_rows_step (Kd.int .i64) (w0 := w5) w5.heap.size (by rfl) (.tmp 108) (.tmp 112) 22 2 (.int .i64 0) 8 (by rfl) Try.underlying22 info2 rfl (by decide) (by decide) v6 ((ins k a p).take k) ((ins k a p).drop k1) A5 (n1 - k1) (c16 - k1) (fun _ => True) (fun _ => False) (by rfl) (by rfl) HO1.out (Kd.C_below HCD2.out HM1.out) (fun _ _ h => h) (fun _ h => h.elim) (fun _ _ => trivial) HM1.out (below_size HM1.out) (by have := HKN2.out; have := HIL.out; have := HN1e.out; rw [HLT2.out]; omega) ?_; intro v7 w7 ho hb hg hat; rw [HLT3.out] at ho; obtain ⟨A7, c7, ev, hc7, hC7⟩ := Kd.R_reads ho; rw [HPL.out] at ev hc7 hC7; subst ev; have HC7 := Lib.hid hC7; have HL7 := Lib.hid hc7; clear HM1 HO1; have HM1 := Lib.hid hb; clear ho hb hg hat hc7 hC7)) | ((go_at_call 22; (with_reducible refine (same_row HPL.out HC7.out HL7.out (Kd.C_below HC15b.out HM1.out) HL15.out (by have := HIL.out; omega)).mono ?_); rintro e w8 ⟨rfl, hb⟩; have HM2 := Lib.hid (below_step HM1.out hb); clear HM1; have HM1 := HM2; clear HM2 hb)) | ((go_at_call 21; (with_reducible refine (awk.calls true _ rfl).mono ?_); rintro e w9 ⟨rfl, hb⟩; have HM2 := Lib.hid (below_step HM1.out hb); clear HM1; have HM1 := HM2; clear HM2 hb))))
          all_goals (
            go_wp2
            go_ret
            exact ⟨rfl, below_step HB5.out HM1.out⟩)
end Go.Proofs.Ytlcghlcpngafgaa.PFree
