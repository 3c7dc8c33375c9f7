/- The walk of FreeStill: whatever the items, the room and the number, it returns true. -/
import Derived.Test.YtlcghlcpngafgaaFEq
import Derived.Test.YtlcghlcpngafgaaFTm
import Derived.Test.YtlcghlcpngafgaaFAwk
import Derived.Deep.RegionWith
import Derived.Deep.LoopGhost
namespace Go.Proofs.Ytlcghlcpngafgaa.PFree
open Go.RowKit Go.Proofs.YtlcghlcpngafgaaW.PrintWords Go.Proofs.YtlcghlcpngafgaaW.PrintLast Go.Proofs.YtlcghlcpngafgaaW.PrintMore
attribute [local go_sem] max2_int min2_int max_two min_two max_three min_three max_four min_four
set_option linter.unusedVariables false
set_option linter.unusedSimpArgs false

def bareX (x : S39) : S39 := ⟨x.f0, x.f1, x.f2, 0, 0, x.f5⟩
def bares (r : List S39) (n : Nat) : List S39 := lst n (fun j => bareX (itm r j))
theorem bares_length (r : List S39) (n : Nat) : (bares r n).length = n := lst_length _ _
theorem bares_itm (r : List S39) {n i : Nat} (h : i < n) : itm (bares r n) i = bareX (itm r i) := lst_getD _ _ h
theorem bareX_ok {x : S39} (h : OkX x) : OkX (bareX x) := by
  obtain ⟨a0, a1, a2, a3, a4, a5, a6, a7, a8, a9, a10, a11⟩ := h
  exact ⟨a0, a1, a2, a3, a4, a5, Int.le_refl 0, (by decide : (0 : Int) ≤ 100), Int.le_refl 0, (by decide : (0 : Int) ≤ 100), a10, a11⟩
theorem bares_ok {r : List S39} (h : ∀ x ∈ r, OkX x) : ∀ x ∈ bares r r.length, OkX x := by
  intro x hx
  simp only [bares, lst, List.mem_map, List.mem_range] at hx
  obtain ⟨j, hj, rfl⟩ := hx
  exact bareX_ok (okx_itm h hj)
theorem bare_val (r : List S39) (inner : Int) (i : Nat) (hi : i < r.length) : (rslv (bares r r.length) inner).getD i 0 = hyp (itm r i) := by
  rw [rslv_get _ _ (by rw [bares_length]; exact hi)]
  have hm : moreA (fun i => fix0 (grw (bares r r.length) inner) (itm (bares r r.length) i)) (bares r r.length).length = false := by
    refine more_false (fun j hj => ?_)
    rw [bares_length] at hj
    rw [bares_itm r hj]
    unfold fix0 bareX
    split <;> simp
  rw [iter_done hm, bares_itm r hi]
  rfl

theorem rhyp_any {x : S39} (hx : OkX x) (W : World) : Calls Try.prog 28 #[.agg #[.int .i64 x.f0, .int .i64 x.f1, .int .i64 x.f2, .int .i64 x.f3, .int .i64 x.f4, .int .i64 x.f5]] W fun e w' => e = .returned (.int .i64 (hyp x)) ∧ Below W.heap.size W w' :=
  quoinref9_Hyp.calls x.f0 x.f1 x.f2 x.f3 x.f4 x.f5 _ W (rHyp_hyp hx)
/-- free.Resolve, of a row of the call's own. -/
theorem res_any {W : World} {base : Nat} {A : Option Addr} {c : Nat} {l : List S39} (hR : Kd.R k39 39 W base (fun _ => True) (.slice A l.length c) l) (inner : Int) (R : List Int) (h : free_Resolve.f l inner = some R) (n : Nat) (hn : R.length = n) :
    Calls Try.prog 20 #[.slice A l.length c, .int .i64 inner] W fun e w' => ∃ A' c', e = .returned (.slice A' n c') ∧ Kd.C (Kd.int .i64) w' A' n R ∧ Below W.heap.size W w' := by
  subst hn
  obtain ⟨A1, c1, e1, hc, hC⟩ := Kd.R_reads hR
  cases e1
  refine (free_Resolve.calls _ _ l inner R W hC hc h).mono ?_
  rintro e w' ⟨v, rfl, hR2, hB⟩
  obtain ⟨A', c', rfl, _, hC2⟩ := Kd.R_reads hR2
  exact ⟨A', c', rfl, hC2, hB⟩
theorem bare_res (r : List S39) (hr : r.length ≤ 12) (hok : ∀ x ∈ r, OkX x) (inner : Int) (h0 : 0 ≤ inner) (h1 : inner ≤ 1023) : ∃ R : List Int, free_Resolve.f (bares r r.length) inner = some R ∧ R.length = r.length ∧ ∀ i, i < r.length → R.getD i 0 = hyp (itm r i) := by
  rw [free_Resolve.eq]
  by_cases hz : r.length = 0
  · have q : okR (bares r r.length) inner = false := by simp [okR, bares_length, hz]
    exact ⟨[], by rw [q]; simp, by rw [hz]; rfl, fun i hi => by omega⟩
  · have q : okR (bares r r.length) inner = true := by
      simp only [okR, okL, Bool.and_eq_true, decide_eq_true_eq]
      rw [bares_length]
      exact ⟨⟨⟨⟨bares_ok hok, by omega⟩, by omega⟩, by omega⟩, by omega⟩
    exact ⟨_, by rw [if_pos q], by rw [rslv_length, bares_length], fun i hi => bare_val r inner i hi⟩
theorem alk_res {x : S39} (hx : OkX x) (n : Nat) (hn : n ≤ 8) (hn0 : 0 < n) (inner : Int) (h0 : 0 ≤ inner) (h1 : inner ≤ 1023) : ∃ R : List Int, free_Resolve.f (alk x n) inner = some R ∧ R.length = n ∧ (∀ i, i < n → 0 ≤ R.getD i 0 ∧ R.getD i 0 ≤ 288230376151711744) ∧ ∀ i j, i < n → j < n → R.getD i 0 - R.getD j 0 ≤ 1 := by
  have q : okR (alk x n) inner = true := by
    simp only [okR, okL, Bool.and_eq_true, decide_eq_true_eq]
    rw [alk_length]
    exact ⟨⟨⟨⟨alk_ok hx n, by omega⟩, by omega⟩, by omega⟩, by omega⟩
  exact ⟨_, by rw [free_Resolve.eq, if_pos q], by rw [rslv_length, alk_length], fun i hi => rslv_bd (by rw [alk_length]; omega) (by omega) (by omega) (alk_ok hx n) (by rw [alk_length]; exact hi), fun i j hi hj => alk_near hx n hn0 inner i j hi hj⟩
theorem add_zero_ (a : Addr) : a.add 0 = a := by simp [Addr.add]
/-- The cells of item i. -/
theorem at_itm {w : World} {A : Option Addr} {l : List S39} (h : Kd.C k39 w A l.length l) (i : Nat) (hi : i < l.length) : ∃ ad, A = some ad ∧ w.cell? (ad.add (i * 6)) = some (.int .i64 (itm l i).f0) ∧ w.cell? ⟨(ad.add (i * 6)).block, (ad.add (i * 6)).off + 1, none⟩ = some (.int .i64 (itm l i).f1) ∧ w.cell? ⟨(ad.add (i * 6)).block, (ad.add (i * 6)).off + 2, none⟩ = some (.int .i64 (itm l i).f2) ∧ w.cell? ⟨(ad.add (i * 6)).block, (ad.add (i * 6)).off + 3, none⟩ = some (.int .i64 (itm l i).f3) ∧ w.cell? ⟨(ad.add (i * 6)).block, (ad.add (i * 6)).off + 4, none⟩ = some (.int .i64 (itm l i).f4) ∧ w.cell? ⟨(ad.add (i * 6)).block, (ad.add (i * 6)).off + 5, none⟩ = some (.int .i64 (itm l i).f5) := by
  have := at_T39 h (i : Int) (by omega) (by omega)
  rw [itm_T, Int.toNat_natCast] at this
  exact this
theorem at_num {w : World} {A : Option Addr} {n : Nat} {l : List Int} (h : Kd.C (Kd.int .i64) w A n l) (i : Nat) (hi : i < n) : ∃ ad, A = some ad ∧ w.cell? (ad.add i) = some (.int .i64 (l.getD i 0)) := by
  have := Kd.at_int h (i : Int) (by omega) (by omega)
  rw [U.rd_nat, Int.toNat_natCast] at this
  exact this

set_option maxHeartbeats 4000000 in
set_option maxRecDepth 100000 in
theorem still_walk (A0 : Option Addr) (c0 : Nat) (l : List S39) (a1 a2 : Int) (w : World) (hC : Kd.C k39 w A0 l.length l) (hc0 : l.length ≤ c0) :
    Calls Try.prog 13 #[.slice A0 l.length c0, .int .i64 a1, .int .i64 a2] w fun e w' => e = .returned (.bool true) ∧ Below w.heap.size w w' := by
  obtain ⟨r, hr, hok, hT⟩ := tame_some l true
  have m1 : Go.bits .and .i64 a1 1023 = a1 % 1024 := U.and_mask a1 10 (by decide)
  have m2 : Go.bits .and .i64 a2 7 = a2 % 8 := U.and_mask a2 3 (by decide)
  obtain ⟨inner, hinner⟩ : ∃ inner, Go.bits .and .i64 a1 1023 = inner := ⟨_, rfl⟩
  obtain ⟨b7, hb7⟩ : ∃ b7, Go.bits .and .i64 a2 7 = b7 := ⟨_, rfl⟩
  have i0 : 0 ≤ inner ∧ inner ≤ 1023 := by rw [← hinner, m1]; omega
  have i1 : 0 ≤ b7 ∧ b7 ≤ 7 := by rw [← hb7, m2]; omega
  clear m1 m2
  obtain ⟨n, hn⟩ : ∃ n : Nat, (n : Int) = b7 + 1 := ⟨(b7 + 1).toNat, by omega⟩
  obtain ⟨R, hRf, hRl, hRv⟩ := bare_res r hr hok inner i0.1 i0.2
  have HT := Lib.hid (quoinlaw18_Tame.calls (38 + 0) A0 c0 l true r w hC hc0 (hT 0))
  have HRF := Lib.hid hRf; have HRL := Lib.hid hRl; have HRV := Lib.hid hRv; have HOK := Lib.hid hok; have HI0 := Lib.hid i0; have HI1 := Lib.hid i1; have HN := Lib.hid hn
  clear hC hc0 hT hRf hRl hRv hok i0 i1 hn
  have hu39 := Try.underlying39
  go_enter Try.func13, Try.ntmps13
  go_wp2_with (go_at_call 27; (with_reducible refine HT.out.mono ?_); rintro e w1 ⟨v, rfl, hR, hb⟩; have HB0 := Lib.hid hb; obtain ⟨A7, c7, e7, h7c, h7C⟩ := Kd.R_reads hR; subst e7; have H7 := Lib.hid h7C; clear hR hb h7c h7C HT)
  go_loopg [8, 9] r.length (fun gk v8 v9 wr => ∃ i : Nat, v9 = .int .i64 (i : Int) ∧ i ≤ r.length ∧ r.length - i ≤ gk ∧ Hid (Kd.R k39 39 wr w1.heap.size (fun _ => True) v8 (bares r i)) ∧ Hid (Below w1.heap.size w1 wr))
  case atStart => exact ⟨0, rfl, by omega, by omega, Kd.R_nil _ _ _ _ _, Below.refl _ _⟩
  case round =>
    obtain ⟨i, rfl, hi, hk, HR, HB⟩ := hrel
    have H7r := Lib.hid (Kd.C_below H7.out HB.out)
    by_cases hlt : i < r.length
    · have hd : decide ((i : Int) < ((r.length : Nat) : Int)) = true := decide_eq_true (by omega)
      obtain ⟨ad, eA, x0, x1, x2, x3, x4, x5⟩ := at_itm H7r.out i hlt
      cases eA
      have ci : (0 : Int) ≤ (i : Int) := by omega
      have ci' : (i : Int) < (r.length : Int) := by omega
      have HBS := Lib.hid (show bares r (i + 1) = bares r i ++ [bareX (itm r i)] from lst_succ i (fun j => bareX (itm r j)))
      have HLN := Lib.hid (show (bares r i).length ≤ 12 from by rw [bares_length]; omega)
      obtain ⟨Ao, co, eo⟩ := Kd.R_slice HR.out
      subst eo
      generalize itm r i = x at *
      go_wp2_with (first | ((with_reducible refine gate_builtin (b := .append) (xs := #[.tmp 33, .tmp 35]) rfl ?_); at_builtin; refine Kd.R_append k39 (w0 := w1) w1.heap.size rfl (.tmp 33) (.tmp 35) 36 39 (.agg #[(.int .i64 0), (.int .i64 0), (.int .i64 0), (.int .i64 0), (.int .i64 0), (.int .i64 0)]) 48 rfl Try.underlying36 info39 rfl (by decide) (by decide) (.slice Ao (bares r i).length co) (bares r i) (bareX x) [.int .i64 x.f0, .int .i64 x.f1, .int .i64 x.f2, .int .i64 0, .int .i64 0, .int .i64 x.f5] (fun _ => True) (fun _ => False) rfl ?aX ?aP (fun _ hk => hk.elim) ?aF ?aO ?aB ?aS ?aL ?_; (case aX => first | rfl | (go_simp; done) | (go_simp; rfl)); (case aP => exact k39_mkM _ _ _ (bareX x)); (case aB => exact below_alloc HB.out _); (case aF => exact (fun _ _ => trivial)); (case aO => exact Kd.R_alloc HR.out _); (case aS => exact (below_alloc HB.out _).size); (case aL => have := HLN.out; omega); intro v115 w8 ho hb hg hat; have n0_ := Lib.hid hb; have n1_ := Lib.hid ho; clear HB HR; clear ho hb hg hat))
      go_roundg (r.length - (i + 1))
      case measure => omega
      case rel => exact ⟨i + 1, by simp, by omega, by omega, by rw [HBS.out]; exact n1_, n0_⟩
    · have hd : decide ((i : Int) < ((r.length : Nat) : Int)) = false := decide_eq_false (by omega)
      obtain rfl : i = r.length := by omega
      clear hlt hi hk
      obtain ⟨Ao, co, eo⟩ := Kd.R_slice HR.out
      subst eo
      have HC := Lib.hid (res_any HR.out inner R HRF.out r.length HRL.out)
      go_wp2_with (go_at_call 20; (with_reducible refine HC.out.mono ?_); rintro e w3 ⟨A11, c11, rfl, h11, hb⟩; have H11 := Lib.hid h11; have HB3 := Lib.hid (below_step HB0.out (below_step HB.out hb)); have H73 := Lib.hid (Kd.C_below H7r.out hb); clear h11 hb HC)
      clear HR HB H7r H7 HB0
      have H5 := Lib.hid (show (1 : Nat) = 1 from rfl)
      go_loopg [12] r.length (fun gk v12 wr => ∃ i : Nat, v12 = .int .i64 (i : Int) ∧ i ≤ r.length ∧ r.length - i ≤ gk ∧ Hid (Below w3.heap.size w3 wr))
      case atStart => exact ⟨0, rfl, by omega, by omega, Below.refl _ _⟩
      case round =>
        obtain ⟨i, rfl, hi, hk, HB⟩ := hrel
        have H7r := Lib.hid (Kd.C_below H73.out HB.out)
        have H11r := Lib.hid (Kd.C_below H11.out HB.out)
        by_cases hlt : i < r.length
        · have hd : decide ((i : Int) < ((r.length : Nat) : Int)) = true := decide_eq_true (by omega)
          obtain ⟨ad, eA, x0, x1, x2, x3, x4, x5⟩ := at_itm H7r.out i hlt
          cases eA
          obtain ⟨ad2, eA2, y0⟩ := at_num H11r.out i hlt
          cases eA2
          rw [HRV.out i hlt] at y0
          have ci : (0 : Int) ≤ (i : Int) := by omega
          have ci' : (i : Int) < (r.length : Int) := by omega
          have HH := Lib.hid (fun W => rhyp_any (okx_itm HOK.out hlt) W)
          generalize itm r i = x at *
          have hne : (hyp x != hyp x) = false := by simp
          go_upto_region 16 with (fail)
          go_region_with (go_at_call 28; (with_reducible refine (HH.out _).mono ?_); rintro e wn ⟨rfl, hb⟩; have HB5 := Lib.hid (below_step HB.out.drew hb); have y1 := pw_cell_below hb (show wr.drew.cell? _ = _ from y0); clear hb)
          all_goals (go_wp2; go_roundg (r.length - (i + 1)); (case measure => omega); (case rel => exact ⟨i + 1, by simp, by omega, by omega, HB5⟩))
        · have hd : decide ((i : Int) < ((r.length : Nat) : Int)) = false := decide_eq_false (by omega)
          obtain rfl : i = r.length := by omega
          clear hlt hi hk
          have HB4 := Lib.hid (below_step HB3.out HB.out)
          by_cases hz : r.length = 0
          · have hz2 : (((r.length : Nat) : Int) == 0) = true := by rw [hz]; rfl
            clear hz
            go_wp2_with (go_at_call 21; (with_reducible refine (awk.calls true _ rfl).mono ?_); rintro e wn ⟨rfl, hb⟩; have HB5 := Lib.hid (below_step HB4.out hb); clear hb)
            go_ret
            exact ⟨rfl, HB5.out⟩
          · have hz2 : (((r.length : Nat) : Int) == 0) = false := by simp; intro h; apply hz; simp [h]
            have hz0 : 0 < r.length := by omega
            have hz3 : (0 : Int) < (r.length : Int) := by omega
            have HX := Lib.hid (okx_itm HOK.out hz0)
            clear hz HB3 H11 H73 H11r HB HRV HRL HRF
            obtain ⟨wo, rfl⟩ : ∃ wo : World, wo = wr := ⟨_, rfl⟩
            go_wp2
            go_loopg [13, 14] n (fun gk v13 v14 w5 => ∃ i : Nat, v14 = .int .i64 (i : Int) ∧ i ≤ n ∧ n - i ≤ gk ∧ Hid (Kd.R k39 39 w5 wo.heap.size (fun _ => True) v13 (alk (itm r 0) i)) ∧ Hid (Below wo.heap.size wo w5))
            case atStart => exact ⟨0, rfl, by omega, by omega, Kd.R_nil _ _ _ _ _, Below.refl _ _⟩
            case round =>
              obtain ⟨i, rfl, hi, hk, HR, HB⟩ := hrel
              have i1 := HI1.out
              have hn := HN.out
              by_cases hlt : i < n
              · have hd : decide ((i : Int) < b7 + 1) = true := decide_eq_true (by omega)
                obtain ⟨ad, eA, x0, x1, x2, x3, x4, x5⟩ := at_itm (Kd.C_below H7r.out HB.out) 0 hz0
                cases eA
                rw [Nat.zero_mul, add_zero_] at x0 x1 x2 x3 x4 x5
                have HBS := Lib.hid (show alk (itm r 0) (i + 1) = alk (itm r 0) i ++ [itm r 0] from lst_succ i (fun _ => itm r 0))
                have HLN := Lib.hid (show (alk (itm r 0) i).length ≤ 12 from by rw [alk_length]; omega)
                obtain ⟨Ao, co, eo⟩ := Kd.R_slice HR.out
                subst eo
                clear hn
                generalize itm r 0 = x at *
                go_wp2_with (first | ((with_reducible refine gate_builtin (b := .append) (xs := #[.tmp 74, .tmp 78]) rfl ?_); at_builtin; refine Kd.R_append k39 (w0 := wo) wo.heap.size rfl (.tmp 74) (.tmp 78) 36 39 (.agg #[(.int .i64 0), (.int .i64 0), (.int .i64 0), (.int .i64 0), (.int .i64 0), (.int .i64 0)]) 48 rfl Try.underlying36 info39 rfl (by decide) (by decide) (.slice Ao (alk x i).length co) (alk x i) x [.int .i64 x.f0, .int .i64 x.f1, .int .i64 x.f2, .int .i64 x.f3, .int .i64 x.f4, .int .i64 x.f5] (fun _ => True) (fun _ => False) rfl ?aX ?aP (fun _ hk => hk.elim) ?aF ?aO ?aB ?aS ?aL ?_; (case aX => first | rfl | (go_simp; done) | (go_simp; rfl)); (case aP => exact k39_mkM _ _ _ x); (case aB => exact HB.out); (case aF => exact (fun _ _ => trivial)); (case aO => exact HR.out); (case aS => exact HB.out.size); (case aL => have := HLN.out; omega); intro v115 w8 ho hb hg hat; have n0_ := Lib.hid hb; have n1_ := Lib.hid ho; clear HB HR; clear ho hb hg hat))
                go_roundg (n - (i + 1))
                case measure => omega
                case rel => exact ⟨i + 1, (by have q1 := HN.out; have q2 := HI1.out; simp; exact w64 (by omega) (by omega)), by omega, by omega, by rw [HBS.out]; exact n1_, n0_⟩
              · have hd : decide ((i : Int) < b7 + 1) = false := decide_eq_false (by omega)
                obtain rfl : i = n := by omega
                have hn0 : 0 < i := by omega
                have hn8 : i ≤ 8 := by omega
                obtain ⟨R2, h2f, h2l, h2b, h2d⟩ := alk_res HX.out i hn8 hn0 inner HI0.out.1 HI0.out.2
                have H2L := Lib.hid h2l; have H2B := Lib.hid h2b; have H2D := Lib.hid h2d
                clear h2l h2b h2d hlt hi hk hn
                obtain ⟨Ao, co, eo⟩ := Kd.R_slice HR.out
                subst eo
                have hal : (alk (itm r 0) i).length = i := alk_length _ _
                have HC := Lib.hid (res_any HR.out inner R2 h2f i H2L.out)
                rw [hal] at HC ⊢
                clear h2f hal
                go_wp2_with (go_at_call 20; (with_reducible refine HC.out.mono ?_); rintro e w6 ⟨A15, c15, rfl, h15, hb⟩; have H15 := Lib.hid h15; have HB6 := Lib.hid (below_step HB4.out (below_step HB.out hb)); clear h15 hb HC)
                obtain ⟨ad, eA, y0⟩ := at_num H15.out 0 hn0
                cases eA
                rw [add_zero_] at y0
                have ci : (0 : Int) < (i : Int) := by omega
                clear H7r HR HB HB4
                go_quiet (fail)
                rename_i nq
                have H15q := Lib.hid (Kd.C_below H15.out (pw_below_drewN (Below.refl w6.heap.size w6) nq))
                have HBq := Lib.hid (pw_below_drewN HB6.out nq)
                clear y0 H15 HB6
                generalize w6.drewN nq = w7 at *
                go_wp2
                go_loopg [16, 17, 18] i (fun gk v16 v17 v18 w8 => ∃ j a b : Nat, v18 = .int .i64 (j : Int) ∧ j ≤ i ∧ i - j ≤ gk ∧ a < i ∧ b < i ∧ v16 = .int .i64 (R2.getD a 0) ∧ v17 = .int .i64 (R2.getD b 0) ∧ Hid (Below w7.heap.size w7 w8))
                case atStart => exact ⟨0, 0, 0, rfl, by omega, by omega, by omega, by omega, rfl, rfl, Below.refl _ _⟩
                case round =>
                  obtain ⟨j, a, b, rfl, hj, hk, ha, hb, rfl, rfl, HB⟩ := hrel
                  by_cases hlt : j < i
                  · have hd : decide ((j : Int) < ((i : Nat) : Int)) = true := decide_eq_true (by omega)
                    obtain ⟨ad2, eA2, y0⟩ := at_num (Kd.C_below H15q.out HB.out) j hlt
                    cases eA2
                    have cj : (0 : Int) ≤ (j : Int) := by omega
                    have cj' : (j : Int) < (i : Int) := by omega
                    go_upto_region 32 with (fail)
                    go_region
                    all_goals go_wp2
                    all_goals (go_roundg (i - (j + 1)); (case measure => omega); (case rel => first | exact ⟨j + 1, j, j, by simp, by omega, by omega, hlt, hlt, rfl, rfl, (by first | exact HB | exact HB.out.drew | exact HB.out.drew.drew)⟩ | exact ⟨j + 1, j, b, by simp, by omega, by omega, hlt, hb, rfl, rfl, (by first | exact HB | exact HB.out.drew | exact HB.out.drew.drew)⟩ | exact ⟨j + 1, a, j, by simp, by omega, by omega, ha, hlt, rfl, rfl, (by first | exact HB | exact HB.out.drew | exact HB.out.drew.drew)⟩ | exact ⟨j + 1, a, b, by simp, by omega, by omega, ha, hb, rfl, rfl, (by first | exact HB | exact HB.out.drew | exact HB.out.drew.drew)⟩))
                  · have hd : decide ((j : Int) < ((i : Nat) : Int)) = false := decide_eq_false (by omega)
                    have q0 := H2B.out a ha
                    have q1 := H2B.out b hb
                    have q2 := H2D.out b a hb ha
                    have hw : wrap64 (R2.getD b 0 - R2.getD a 0) = R2.getD b 0 - R2.getD a 0 := w64 (by omega) (by omega)
                    have hle : decide (R2.getD b 0 - R2.getD a 0 ≤ 1) = true := decide_eq_true q2
                    have HBX := Lib.hid (below_step HBq.out HB.out)
                    simp only [List.getD_eq_getElem?_getD] at hw hle
                    go_wp2_with (go_at_call 21; (with_reducible refine (awk.calls true _ rfl).mono ?_); rintro e wn ⟨rfl, hb⟩; have HB5 := Lib.hid (below_step HBX.out hb); clear hb)
                    go_ret
                    exact ⟨rfl, HB5.out⟩
end Go.Proofs.Ytlcghlcpngafgaa.PFree
