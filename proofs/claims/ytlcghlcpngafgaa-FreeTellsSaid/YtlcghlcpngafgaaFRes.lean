/- The walk of free.Resolve: items that may be, in a room that may be: the sizes behind all turns. Memory that was there is as it was. -/
import Derived.Test.YtlcghlcpngafgaaFTur
import Derived.Test.YtlcghlcpngafgaaFRm
namespace Go.Proofs.Ytlcghlcpngafgaa.PFree
open Go.RowKit Go.Proofs.YtlcghlcpngafgaaW.PrintWords Go.Proofs.YtlcghlcpngafgaaW.PrintLast Go.Proofs.YtlcghlcpngafgaaW.PrintMore
set_option linter.unusedVariables false
set_option linter.unusedSimpArgs false


theorem slv_drew {W : World} {g : Nat} {A0 : Option Addr} {n c0 : Nat} {gr : Bool} {v2 : Value} {F : Nat} (h : Slv W g A0 n c0 gr v2 F) : Slv W.drew g A0 n c0 gr v2 F := h
theorem slv_put {W : World} {g : Nat} {A0 : Option Addr} {n c0 : Nat} {gr : Bool} {v2 : Value} {F : Nat} (h : Slv W g A0 n c0 gr v2 F) (v : Value) : Slv (W.setCell ⟨g, 2, none⟩ v) g A0 n c0 gr v F := by
  have := blk_set h 2 v
  simpa [Slv] using this
theorem slv_grow {W : World} {g : Nat} {A0 : Option Addr} {n c0 : Nat} {gr : Bool} {v2 : Value} {F : Nat} (h : Slv W g A0 n c0 gr v2 F) (b : Bool) : Slv (W.setCell ⟨g, 1, none⟩ (.bool b)) g A0 n c0 b v2 F := by
  have := blk_set h 1 (.bool b)
  simpa [Slv] using this
theorem row_of_R2 {w : World} {base : Nat} {ok : Nat → Prop} {v : Value} {xs : List Int} (h : Kd.R (Kd.int .i64) 2 w base ok v xs) (hn : 0 < xs.length) :
    ∃ g c, v = .slice (some ⟨g, 0, none⟩) xs.length c ∧ base ≤ g ∧ xs.length ≤ c ∧ c ≤ maxLen ∧ RowI w g xs.length (fun i => xs.getD i 0) ∧ Cap w g c := by
  have ho := Kd.own_of_R h
  rcases ho.2 with ⟨_, h0⟩ | ⟨g, cap, cur, rfl, hbase, hb, h1', h2, h3, h4⟩
  · rw [h0] at hn; cases hn
  · refine ⟨g, cap, rfl, hbase, h1', h2, ⟨cur, hb, by omega, fun i hi => ?_⟩, cur, hb, by omega⟩
    rw [Nat.mul_one] at h4
    have e1 : (cur.toList.take xs.length)[i]? = (encs (Value.int .i64) xs)[i]? := by rw [h4]
    rw [List.getElem?_take_of_lt hi, Array.getElem?_toList] at e1
    rw [e1]
    exact encs_get xs i hi
/-- A turn, out of a state whose numbers are not too great. -/
theorem turn_any {w0 w : World} {g : Nat} {A0 : Option Addr} {c0 : Nat} {l : List S39} {gr : Bool} {G cG F : Nat} {sz : Nat → Int} {fz : Nat → Bool} {inner : Int}
    (hS : St w0 w g A0 c0 l gr G cG F sz fz) (hn : l.length ≤ 500) (hn0 : 0 < l.length) (hok : ∀ x ∈ l, OkX x) (hT : TurnOk l gr inner sz fz) :
    Calls Try.prog 34 #[.pointer (some ⟨g, 0, none⟩), .int .i64 inner] w fun e w' => e = .returned (.bool (moreA fz l.length)) ∧ St w0 w' g A0 c0 l gr G cG F (nxS l gr inner sz fz) (nxF l gr inner sz fz) := by
  refine turn_loop1 w0 w g A0 c0 l gr G cG F sz fz inner (prt l gr sz fz inner) hS hn hn0 hok hT.p hT.sm (fun W hW => ?_)
  have hl := wts_length l gr fz l.length
  have hb := hT.b.2 l.length (Nat.le_refl _)
  have ht := toS_bd gr (inAt l sz fz inner l.length)
  have hsh := U.Share_eq (toS gr (inAt l sz fz inner l.length)) (by omega) (by omega) (wts l gr fz l.length) (by omega) (wts_bd hok gr fz) (2 * l.length + 5) (by omega)
  refine (parts_calls _ w0 W g A0 c0 l gr G cG F sz fz inner _ hW hn hok hT.b.1 hT.b.2 hsh).mono ?_
  rintro e w' ⟨v, rfl, hR, hB⟩
  have hlen : (U.share (toS gr (inAt l sz fz inner l.length)) (wts l gr fz l.length)).length = l.length := by rw [U.share_length, hl]
  obtain ⟨P, c, rfl, hP, hc, hrow⟩ := row_of_R (0 : Int) hR (by rw [hlen]; exact hn0)
  rw [hlen] at hrow ⊢
  exact ⟨P, c, rfl, hP, hrow, hB⟩

/-- Who begins as frozen. -/
def fix0 (gr : Bool) (x : S39) : Bool := if gr = true then decide (x.f3 = 0) || decide (clampI x x.f0 < x.f0) else decide (x.f4 = 0) || decide (x.f0 < clampI x x.f0)
def hyp (x : S39) : Int := clampI x x.f0
def sumH (l : List S39) : Nat → Int
  | 0 => 0
  | i + 1 => sumH l i + (hyp (itm l i) + (itm l i).f5)
def grw (l : List S39) (inner : Int) : Bool := decide (sumH l l.length < inner)
def rslv (l : List S39) (inner : Int) : List Int := lst l.length (iter l (grw l inner) inner l.length (fun i => hyp (itm l i)) (fun i => fix0 (grw l inner) (itm l i)))
theorem hyp_any (x : S39) (W : World) : Calls Try.prog 32 #[.agg #[.int .i64 x.f0, .int .i64 x.f1, .int .i64 x.f2, .int .i64 x.f3, .int .i64 x.f4, .int .i64 x.f5]] W fun e w' => e = .returned (.int .i64 (hyp x)) ∧ Below W.heap.size W w' := by
  refine free_Hyp.calls x.f0 x.f1 x.f2 x.f3 x.f4 x.f5 _ W ?_
  unfold free_Hyp.f hyp
  rw [clamp_f]
  rfl
theorem hyp_bd {x : S39} (h : OkX x) : 0 ≤ hyp x ∧ hyp x ≤ 8796093022208 := by
  have := clampI_near h x.f0
  obtain ⟨a0, a1, _⟩ := h
  unfold hyp; omega
theorem sumH_bd {l : List S39} (hok : ∀ x ∈ l, OkX x) : ∀ i : Nat, i ≤ l.length → -((i : Int) * 17592186044416) ≤ sumH l i ∧ sumH l i ≤ (i : Int) * 17592186044416 := by
  intro i
  induction i with
  | zero => intro _; simp [sumH]
  | succ i ih =>
    intro hi
    obtain ⟨h1, h2⟩ := ih (by omega)
    have hx := okx_itm hok (show i < l.length by omega)
    have hb := hyp_bd hx
    obtain ⟨a0, a1, a2, a3, a4, a5, a6, a7, a8, a9, a10, a11⟩ := hx
    simp only [sumH]; omega

theorem fixed_any {w0 W : World} {g : Nat} {A0 : Option Addr} {c0 : Nat} {l : List S39} {gr : Bool} {G cG F : Nat} {sz : Nat → Int} {fz : Nat → Bool} (hS : St w0 W g A0 c0 l gr G cG F sz fz) (hn : l.length ≤ 500) (x : S39) :
    Calls Try.prog 33 #[.pointer (some ⟨g, 0, none⟩), .agg #[.int .i64 x.f0, .int .i64 x.f1, .int .i64 x.f2, .int .i64 x.f3, .int .i64 x.f4, .int .i64 x.f5]] W fun e w' => e = .returned (.bool (fix0 gr x)) ∧ Below W.heap.size W w' := by
  refine (free_solver_fixed.calls g l gr _ _ x.f0 x.f1 x.f2 x.f3 x.f4 x.f5 (fix0 gr x) gr W W (hS.isS (by omega)) (Below.refl _ _) ?_).mono fun e w' h => ⟨h.1, h.2.2.1⟩
  unfold free_solver_fixed.f fix0 free_Hyp.f
  rw [clamp_f]
  simp only [Option.bind_some]
  cases gr
  · simp only [Bool.false_eq_true, if_false]
    by_cases e : x.f4 = 0
    · rw [if_pos e]; simp [e]
    · rw [if_neg e]; simp [e]
  · simp only [if_true]
    by_cases e : x.f3 = 0
    · rw [if_pos e]; simp [e]
    · rw [if_neg e]; simp [e]
theorem step_fix {w0 W : World} {g : Nat} {A0 : Option Addr} {c0 : Nat} {l : List S39} {gr : Bool} {G cG F : Nat} {S : Nat → Int} {i : Nat} {x : S39} (hx : x = itm l i)
    (hS : St w0 W g A0 c0 l gr G cG F S (fun j => if j < i then fix0 gr (itm l j) else false)) : St w0 (W.setCell ⟨F, i, none⟩ (.bool (fix0 gr x))) g A0 c0 l gr G cG F S (fun j => if j < i + 1 then fix0 gr (itm l j) else false) := by
  refine (hS.setF i (fix0 gr x)).congr (fun _ _ => rfl) (fun j _ => ?_)
  by_cases e : j = i
  · subst e; rw [if_pos rfl, if_pos (by omega), hx]
  · rw [if_neg e]
    by_cases e2 : j < i
    · rw [if_pos e2, if_pos (by omega)]
    · rw [if_neg e2, if_neg (by omega)]

theorem inv_start {l : List S39} {inner : Int} (hok : ∀ x ∈ l, OkX x) (gr : Bool) : Inv l inner (fun j => hyp (itm l j)) (fun j => fix0 gr (itm l j)) :=
  .inl (fun i hi _ => hyp_bd (okx_itm hok hi))
theorem iter_done {l : List S39} {gr : Bool} {inner : Int} {sz : Nat → Int} {fz : Nat → Bool} (h : moreA fz l.length = false) : ∀ m, iter l gr inner m sz fz = sz := by
  intro m
  cases m with
  | zero => rfl
  | succ m => simp [iter, h]
theorem r_of_row {W : World} {base G n cG : Nat} {f : Nat → Int} (h : RowI W G n f) (hc : Cap W G cG) (hb : base ≤ G) (h1 : n ≤ cG) (h2 : cG ≤ maxLen) : Kd.R (Kd.int .i64) 2 W base (fun _ => True) (.slice (some ⟨G, 0, none⟩) n cG) (lst n f) := by
  obtain ⟨cur, hg, hs⟩ := hc
  obtain ⟨cur', hg', hn, hcell⟩ := h
  rw [hg] at hg'
  cases hg'
  have ho : W.ownsRow base 2 1 (.slice (some ⟨G, 0, none⟩) (lst n f).length cG) (lst n f).length (encs (Value.int .i64) (lst n f)) := by
    refine ⟨by simp [encs], .inr ⟨G, cG, cur, rfl, hb, hg, by rw [lst_length]; exact h1, h2, by rw [Nat.mul_one]; exact hs, ?_⟩⟩
    rw [lst_length, Nat.mul_one]
    apply List.ext_getElem?
    intro j
    by_cases hj : j < n
    · rw [List.getElem?_take_of_lt hj, Array.getElem?_toList, hcell j hj]
      simp [encs, lst, hj]
    · rw [List.getElem?_take_eq_none (by omega), List.getElem?_eq_none (by simp [encs, lst_length]; omega)]
  rw [lst_length] at ho
  refine Kd.R_of_own ?_ (fun _ _ => trivial)
  rw [lst_length]
  exact ho

set_option maxHeartbeats 4000000 in
set_option maxRecDepth 100000 in
theorem resolve_ok (A0 : Option Addr) (c0 : Nat) (l : List S39) (inner : Int) (w : World) (hl : Kd.C k39 w A0 l.length l) (hc0 : l.length ≤ c0) (hn : l.length ≤ 500) (hn0 : 0 < l.length) (hok : ∀ x ∈ l, OkX x)
    (hi0 : -8796093022208 ≤ inner) (hi1 : inner ≤ 36028797018963968) (k : Nat) (hk : free_Ok.f k l = some true) :
    Calls Try.prog 20 #[.slice A0 l.length c0, .int .i64 inner] w fun e w' => ∃ v : Value, e = .returned v ∧ Kd.R (Kd.int .i64) 2 w' w.heap.size (fun _ => True) v (rslv l inner) ∧ Below w.heap.size w w' := by
  have HL := Lib.hid hl; have HK := Lib.hid (free_Ok.calls k A0 c0 l true w hl hc0 hk); have HOK := Lib.hid hok; have HC := Lib.hid hc0
  have t1 : decide (inner < -8796093022208) = false := decide_eq_false (by omega)
  have t2 : decide (36028797018963968 < inner) = false := decide_eq_false (by omega)
  have t3 : (((l.length : Nat) : Int) == 0) = false := by simp; intro h; subst h; simp at hn0
  clear hl hk hok hc0
  have hu39 := Try.underlying39
  go_enter Try.func20, Try.ntmps20
  go_wp2_with (first | (go_at_call 24; (with_reducible refine HK.out.mono ?_); rintro e wn ⟨rfl, hb⟩; have HB := Lib.hid hb; clear hb HK) | ((with_reducible refine gate_dst (N := 30) rfl ?_); refine make_event Value.bool false rfl rfl 34 4 (.tmp 29) (.tmp 29) rfl l.length 1 ?hX ?hY Try.underlying34 info4 rfl (by decide) (by omega) ?_; (case hX => rfl); (case hY => rfl); intro F hF w2 hRF hb2; have HRF := Lib.hid hRF; have HB2 := Lib.hid (below_step HB.out hb2); have HF := Lib.hid (show w.heap.size ≤ F from by rw [hF]; exact HB.out.size); clear hRF hb2 hF HB))
  obtain ⟨W3, hW3⟩ : ∃ W3, W3 = w2.alloc (.cells #[.slice A0 l.length c0, .bool false, .slice none 0 0, .slice (some ⟨F, 0, none⟩) l.length l.length] 54 (0, 0)) := ⟨_, rfl⟩
  rw [← hW3]
  have HS := Lib.hid (show Slv W3 w2.heap.size A0 l.length c0 false (.slice none 0 0) F from by rw [hW3]; exact blk_new w2 _)
  have HG0 := Lib.hid (show w.heap.size ≤ w2.heap.size from HB2.out.size)
  have HRF3 := Lib.hid (show RowB W3 F l.length (fun _ => false) from by rw [hW3]; exact HRF.out.alloc _)
  have HB := Lib.hid (show Below w.heap.size w W3 from by rw [hW3]; exact below_alloc HB2.out _)
  clear hW3 HB2 HRF
  generalize w2.heap.size = g at *
  go_loopg [6, 35] l.length (fun gk v6 v35 wr => ∃ (i : Nat) (v2 : Value), v35 = .int .i64 (i : Int) ∧ i ≤ l.length ∧ l.length - i ≤ gk ∧ v6 = .int .i64 (sumH l i) ∧ Hid (Slv wr g A0 l.length c0 false v2 F) ∧ Hid (Kd.R (Kd.int .i64) 2 wr w.heap.size (fun _ => True) v2 (lst i (fun j => hyp (itm l j)))) ∧ Hid (RowB wr F l.length (fun _ => false)) ∧ Hid (Below w.heap.size w wr))
  case atStart => exact ⟨0, _, rfl, by omega, by omega, rfl, HS, Kd.R_nil _ _ _ _ _, HRF3, HB⟩
  case round =>
    clear HS HRF3 HB
    obtain ⟨i, v2, rfl, hi, hk, rfl, HS, HR, HRF, HB⟩ := hrel
    by_cases hlt : i < l.length
    · have hd : decide ((i : Int) < ((l.length : Nat) : Int)) = true := decide_eq_true (by omega)
      obtain ⟨ad, eA, x0, x1, x2, x3, x4, x5⟩ := at_T39 (Kd.C_below HL.out HB.out) (i : Int) (by omega) (by omega)
      rw [itm_T] at x0 x1 x2 x3 x4 x5
      cases eA
      rw [Int.toNat_natCast] at x0 x1 x2 x3 x4 x5
      have HX := Lib.hid (show OkX (itm l i) from okx_itm HOK.out hlt)
      have HSB := Lib.hid (sumH_bd HOK.out i hi)
      have HSB' := Lib.hid (sumH_bd HOK.out (i + 1) hlt)
      have hx' : ∃ x, x = itm l i := ⟨_, rfl⟩
      obtain ⟨x, hx'⟩ := hx'
      rw [← hx'] at x0 x1 x2 x3 x4 x5 HX
      have Hx := Lib.hid hx'; clear hx'
      have ci : (0 : Int) ≤ (i : Int) := by omega
      have ci' : (i : Int) < (l.length : Int) := by omega
      have HLN := Lib.hid (show (lst i (fun j => hyp (itm l j))).length ≤ 500 from by rw [lst_length]; omega)
      go_upto_region 8 with (fail)
      obtain ⟨W1, hW1⟩ : ∃ W1, W1 = wr.alloc (.cells #[.int .i64 x.f0, .int .i64 x.f1, .int .i64 x.f2, .int .i64 x.f3, .int .i64 x.f4, .int .i64 x.f5] 39 (0, 0)) := ⟨_, rfl⟩
      rw [← hW1]
      have hal : Below wr.heap.size wr W1 := by rw [hW1]; exact below_alloc (Below.refl _ _) _
      have hXb : W1.heap[wr.heap.size]? = some (.cells #[.int .i64 x.f0, .int .i64 x.f1, .int .i64 x.f2, .int .i64 x.f3, .int .i64 x.f4, .int .i64 x.f5] 39 (0, 0)) := by rw [hW1]; exact blk_new wr _
      obtain ⟨Ao, co, eo⟩ := Kd.R_slice HR.out
      subst eo
      have HRd := Lib.hid (Kd.R_drew (Kd.R_below HR.out hal))
      have HSd := Lib.hid (slv_drew (HS.out.below hal))
      have HFd := Lib.hid (HRF.out.below hal).drew
      have HBd := Lib.hid (below_step HB.out hal).drew
      clear x0 x1 x2 x3 x4 x5 hW1 HS HR HRF HB
      generalize wr.heap.size = XB at *
      have HXd : Hid (W1.drew.heap[XB]? = some (.cells #[.int .i64 x.f0, .int .i64 x.f1, .int .i64 x.f2, .int .i64 x.f3, .int .i64 x.f4, .int .i64 x.f5] 39 (0, 0))) := hXb
      clear hXb hal
      refine start_ (n := 12) (S := fun w' => w'.cell? ⟨g, 2, none⟩ = some (.slice Ao (lst i (fun j => hyp (itm l j))).length co) ∧ w'.cell? ⟨XB, 0, none⟩ = some (.int .i64 x.f0) ∧ w'.cell? ⟨XB, 1, none⟩ = some (.int .i64 x.f1) ∧ w'.cell? ⟨XB, 2, none⟩ = some (.int .i64 x.f2) ∧ w'.cell? ⟨XB, 3, none⟩ = some (.int .i64 x.f3) ∧ w'.cell? ⟨XB, 4, none⟩ = some (.int .i64 x.f4) ∧ w'.cell? ⟨XB, 5, none⟩ = some (.int .i64 x.f5)) (ds := [8, 11]) #[false, false, false, false, false, false, false, false, false, false, false, false] (by kernel_rfl) rfl rfl ⟨HSd.out.cells.2.2.1, (blk_cell HXd.out 0).trans rfl, (blk_cell HXd.out 1).trans rfl, (blk_cell HXd.out 2).trans rfl, (blk_cell HXd.out 3).trans rfl, (blk_cell HXd.out 4).trans rfl, (blk_cell HXd.out 5).trans rfl⟩ (fun hHeld => ?_)
      generalize W1.drew = wd at HRd HSd HFd HBd HXd hHeld ⊢
      refine pure_ (i := 0) (N := some 39) (v := ?_) (a' := ?_) #[true, false, false, false, false, false, false, false, false, false, false, false] rfl rfl (by kernel_rfl) (fun _ _ _ h => h) (Or.inl ⟨by rfl, ?_⟩) ?_ ?_
      rotate_left
      · intro w'
        go_simp
        with_reducible rfl
      rotate_left
      · simp only [Act.put, List.setIfInBounds_toArray, List.set_cons_zero, List.set_cons_succ, i64_w, i32_w]
        rfl
      refine pure_ (i := 1) (N := some 40) (v := ?_) (a' := ?_) #[true, true, false, false, false, false, false, false, false, false, false, false] rfl rfl (by kernel_rfl) (fun _ _ _ h => h) (Or.inl ⟨by rfl, ?_⟩) ?_ ?_
      rotate_left
      · intro w'
        go_simp
        with_reducible rfl
      rotate_left
      · simp only [Act.put, List.setIfInBounds_toArray, List.set_cons_zero, List.set_cons_succ, i64_w, i32_w]
        rfl
      refine pure_ (i := 2) (N := some 41) (v := ?_) (a' := ?_) #[true, true, true, false, false, false, false, false, false, false, false, false] rfl rfl (by kernel_rfl) (fun _ _ _ h => h) (Or.inl ⟨by rfl, ?_⟩) ?_ ?_
      rotate_left
      · intro w'
        go_simp
        with_reducible rfl
      rotate_left
      · simp only [Act.put, List.setIfInBounds_toArray, List.set_cons_zero, List.set_cons_succ, i64_w, i32_w]
        rfl
      refine pure_ (i := 3) (N := some 42) (v := ?_) (a' := ?_) #[true, true, true, true, false, false, false, false, false, false, false, false] rfl rfl (by kernel_rfl) (fun _ _ _ h => h) (Or.inl ⟨by rfl, ?_⟩) ?_ ?_
      rotate_left
      · intro w'
        go_simp
        with_reducible rfl
      rotate_left
      · simp only [Act.put, List.setIfInBounds_toArray, List.set_cons_zero, List.set_cons_succ, i64_w, i32_w]
        rfl
      refine take_ (i := 4) (N := some 43) (v := ?_) (a' := ?_) #[true, true, true, true, true, false, false, false, false, false, false, false] rfl rfl (by kernel_rfl) (fun _ _ _ h => h) (Or.inl ⟨by rfl, ?_⟩) hHeld ?_ ?_
      rotate_left
      · rintro w' ⟨s0, s1, s2, s3, s4, s5, s6⟩
        go_simp
        with_reducible rfl
      rotate_left
      · simp only [Act.put, List.setIfInBounds_toArray, List.set_cons_zero, List.set_cons_succ, i64_w, i32_w]
        rfl
      refine take_ (i := 5) (N := some 44) (v := ?_) (a' := ?_) #[true, true, true, true, true, true, false, false, false, false, false, false] rfl rfl (by kernel_rfl) (fun _ _ _ h => h) (Or.inl ⟨by rfl, ?_⟩) hHeld ?_ ?_
      rotate_left
      · rintro w' ⟨s0, s1, s2, s3, s4, s5, s6⟩
        go_simp
        with_reducible rfl
      rotate_left
      · simp only [Act.put, List.setIfInBounds_toArray, List.set_cons_zero, List.set_cons_succ, i64_w, i32_w]
        rfl
      refine one_ (i := 6) (N := some 45) #[true, true, true, true, true, true, true, false, false, false, false, false] rfl rfl (by kernel_rfl) (by decide) (fun K hK => ?_)
      refine goes_ Try.func32 (by kernel_rfl) rfl #[.agg #[.int .i64 x.f0, .int .i64 x.f1, .int .i64 x.f2, .int .i64 x.f3, .int .i64 x.f4, .int .i64 x.f5]] (by rfl) rfl rfl (by simp only [List.map_toArray, List.map_cons, List.map_nil]; rfl) ?_
      with_reducible refine (hyp_any x _).mono ?_
      rintro e w3 ⟨rfl, hb⟩
      refine ⟨_, rfl, ?_⟩
      have HRc := Lib.hid (Kd.R_below HRd.out hb)
      have HSc := Lib.hid (HSd.out.below hb)
      have HFc := Lib.hid (HFd.out.below hb)
      have HBc := Lib.hid (below_step HBd.out hb)
      have HXc := Lib.hid (blk_below HXd.out hb)
      clear hb HRd HSd HFd HBd HXd
      refine hK.out _ _ ⟨HSc.out.cells.2.2.1, (blk_cell HXc.out 0).trans rfl, (blk_cell HXc.out 1).trans rfl, (blk_cell HXc.out 2).trans rfl, (blk_cell HXc.out 3).trans rfl, (blk_cell HXc.out 4).trans rfl, (blk_cell HXc.out 5).trans rfl⟩ (fun hHeld => ?_)
      clear hK K
      refine norm_ (a' := ?_) ?_ ?_
      rotate_left
      · show Act.put _ (some 45) _ = _
        simp only [Act.put, List.setIfInBounds_toArray, List.set_cons_zero, List.set_cons_succ, i64_w, i32_w]
        rfl
      refine one_ (i := 7) (N := some 46) #[true, true, true, true, true, true, true, true, false, false, false, false] rfl rfl (by kernel_rfl) (by decide) (fun K hK => ?_)
      refine value_ (w1 := ?_) (v := ?_) (by rfl) rfl ?_ ?_
      rotate_left 2
      · go_simp
        constructor
        · rfl
        · rfl
      refine hK.out _ _ ⟨(World.cell?_alloc_lt _ _ _ (World.block_lt_of_cell? _ _ (HSc.out.cells.2.2.1))).trans (HSc.out.cells.2.2.1), (World.cell?_alloc_lt _ _ _ (World.block_lt_of_cell? _ _ ((blk_cell HXc.out 0).trans rfl))).trans ((blk_cell HXc.out 0).trans rfl), (World.cell?_alloc_lt _ _ _ (World.block_lt_of_cell? _ _ ((blk_cell HXc.out 1).trans rfl))).trans ((blk_cell HXc.out 1).trans rfl), (World.cell?_alloc_lt _ _ _ (World.block_lt_of_cell? _ _ ((blk_cell HXc.out 2).trans rfl))).trans ((blk_cell HXc.out 2).trans rfl), (World.cell?_alloc_lt _ _ _ (World.block_lt_of_cell? _ _ ((blk_cell HXc.out 3).trans rfl))).trans ((blk_cell HXc.out 3).trans rfl), (World.cell?_alloc_lt _ _ _ (World.block_lt_of_cell? _ _ ((blk_cell HXc.out 4).trans rfl))).trans ((blk_cell HXc.out 4).trans rfl), (World.cell?_alloc_lt _ _ _ (World.block_lt_of_cell? _ _ ((blk_cell HXc.out 5).trans rfl))).trans ((blk_cell HXc.out 5).trans rfl)⟩ (fun hHeld => ?_)
      clear hK K
      refine norm_ (a' := ?_) ?_ ?_
      rotate_left
      · show Act.put _ (some 46) _ = _
        simp only [Act.put, List.setIfInBounds_toArray, List.set_cons_zero, List.set_cons_succ, i64_w, i32_w]
        rfl
      refine last_ (i := 8) (N := some 47) #[true, true, true, true, true, true, true, true, true, false, false, false] rfl rfl (by kernel_rfl) (by decide) (fun K hK => ?_)
      refine Kd.R_append_step (Kd.int .i64) (w0 := w) w.heap.size (by rfl) (.tmp 43) (.tmp 46) 22 2 (.int .i64 0) 8 rfl Try.underlying22 info2 rfl (by decide) (by decide) (.slice Ao (lst i (fun j => hyp (itm l j))).length co) (lst i (fun j => hyp (itm l j))) (hyp x) [.int .i64 (hyp x)] (fun _ => True) (fun _ => False) rfl rfl ?aP (fun _ hk => hk.elim) ?aF ?aO ?aB ?aS ?aL ?_
      (case aP => exact rfl)
      (case aB => exact HBc.out)
      (case aF => exact (fun _ _ => trivial))
      (case aO => exact HRc.out)
      (case aS => exact HBc.out.size)
      (case aL => have := HLN.out; omega)
      intro v8 w8 ho hb hg hat
      obtain ⟨A8, c8, e8⟩ := Kd.R_slice ho
      subst e8
      have HS8 := Lib.hid (show Slv w8 g _ l.length c0 false _ F from blk_grown HSc.out hg (Kd.R_ne HRc.out HSc.out (by decide)))
      have HF8 := Lib.hid (HFc.out.keep (hg.block F HFc.out.lt (by obtain ⟨cur, hcur⟩ := HFc.out.blk; exact Kd.R_ne HRc.out hcur (by decide))))
      have HX8 := Lib.hid (blk_grown HXc.out hg (Kd.R_ne HRc.out HXc.out (by decide)))
      have HB8 := Lib.hid hb
      have HR8 := Lib.hid ho
      have hc8 := HS8.out.cells.2.2.1
      have hf8 := HS8.out.frozen 2
      clear ho hb hg hat HRc HSc HFc HBc HXc
      refine hK.out _ _ ?_
      clear hK K
      refine norm_ (a' := ?_) ?_ ?_
      rotate_left
      · show Act.put _ (some 47) _ = _
        simp only [Act.put, List.setIfInBounds_toArray, List.set_cons_zero, List.set_cons_succ, i64_w, i32_w]
        rfl
      refine pure_ (i := 9) (N := some 48) (v := ?_) (a' := ?_) #[true, true, true, true, true, true, true, true, true, true, false, false] rfl rfl (by kernel_rfl) (fun _ _ _ h => h) (Or.inl ⟨by rfl, ?_⟩) ?_ ?_
      rotate_left
      · intro w'
        go_simp
        with_reducible rfl
      rotate_left
      · simp only [Act.put, List.setIfInBounds_toArray, List.set_cons_zero, List.set_cons_succ, i64_w, i32_w]
        rfl
      refine pure_ (i := 10) (N := some 49) (v := ?_) (a' := ?_) #[true, true, true, true, true, true, true, true, true, true, true, false] rfl rfl (by kernel_rfl) (fun _ _ _ h => h) (Or.inl ⟨by rfl, ?_⟩) ?_ ?_
      rotate_left
      · intro w'
        go_simp
        with_reducible rfl
      rotate_left
      · simp only [Act.put, List.setIfInBounds_toArray, List.set_cons_zero, List.set_cons_succ, i64_w, i32_w]
        rfl
      refine last_ (i := 11) (N := none) #[true, true, true, true, true, true, true, true, true, true, true, true] rfl rfl (by kernel_rfl) (by decide) (fun K hK => ?_)
      refine skip_ (w1 := ?_) (by rfl) rfl ?_ ?_
      rotate_left
      · go_simp
        rfl
      refine hK.out _ _ ?_
      clear hK K
      refine done_ (by kernel_rfl) ?_
      have HR9 := HR8.out
      rw [List.length_append] at HR9
      obtain ⟨W5, hW5⟩ : ∃ W5, W5 = w8.setCell ⟨g, 2, none⟩ (.slice A8 ((lst i (fun j => hyp (itm l j))).length + 1) c8) := ⟨_, rfl⟩
      rw [← hW5]
      have HS5 := Lib.hid (show Slv W5 g (some ad) l.length c0 false (.slice A8 ((lst i (fun j => hyp (itm l j))).length + 1) c8) F from by rw [hW5]; exact slv_put HS8.out _)
      have HR5 := Lib.hid (show Kd.R (Kd.int .i64) 2 W5 w.heap.size (fun _ => True) (.slice A8 ((lst i (fun j => hyp (itm l j))).length + 1) c8) (lst i (fun j => hyp (itm l j)) ++ [hyp x]) from by rw [hW5]; exact Kd.R_set HR9 HS8.out (by decide) 2 _)
      have HF5 := Lib.hid (show RowB W5 F l.length (fun _ => false) from by rw [hW5]; exact HF8.out.far (p := ⟨g, 2, none⟩) (fun e => HS8.out.ne HF8.out (by decide) e.symm) _)
      have HX5 := Lib.hid (show W5.heap[XB]? = some (.cells #[.int .i64 x.f0, .int .i64 x.f1, .int .i64 x.f2, .int .i64 x.f3, .int .i64 x.f4, .int .i64 x.f5] 39 (0, 0)) from by rw [hW5]; exact blk_far HX8.out (p := ⟨g, 2, none⟩) (fun e => blk_ne HS8.out HX8.out (by decide) e.symm) _)
      have HB5 := Lib.hid (show Below w.heap.size w W5 from by rw [hW5]; exact HB8.out.setCell HG0.out _)
      clear hW5 HR9 HS8 HR8 HF8 HX8 HB8 hc8 hf8
      have y0 : W5.cell? ⟨XB, 0, none⟩ = some (.int .i64 x.f0) := (blk_cell HX5.out 0).trans rfl
      have y1 : W5.cell? ⟨XB, 1, none⟩ = some (.int .i64 x.f1) := (blk_cell HX5.out 1).trans rfl
      have y2 : W5.cell? ⟨XB, 2, none⟩ = some (.int .i64 x.f2) := (blk_cell HX5.out 2).trans rfl
      have y3 : W5.cell? ⟨XB, 3, none⟩ = some (.int .i64 x.f3) := (blk_cell HX5.out 3).trans rfl
      have y4 : W5.cell? ⟨XB, 4, none⟩ = some (.int .i64 x.f4) := (blk_cell HX5.out 4).trans rfl
      have y5 : W5.cell? ⟨XB, 5, none⟩ = some (.int .i64 x.f5) := (blk_cell HX5.out 5).trans rfl
      have hyb := hyp_bd HX.out
      have hx5 := HX.out.2.2.2.2.2.2.2.2.2.2
      have hs0 := HSB.out
      have hs1 := HSB'.out
      have hse : sumH l (i + 1) = sumH l i + (hyp x + x.f5) := by rw [Hx.out]; rfl
      rw [hse] at hs1
      have HSE := Lib.hid hse
      clear hse
      go_upto_region 9 with (fail)
      go_region_with (go_at_call 32; (with_reducible refine (hyp_any x _).mono ?_); rintro e wn ⟨rfl, hb⟩; have HS6 := Lib.hid ((slv_drew HS5.out).below hb); have HR6 := Lib.hid (Kd.R_below (Kd.R_drew HR5.out) hb); have HF6 := Lib.hid (HF5.out.drew.below hb); have HB6 := Lib.hid (below_step HB5.out.drew hb); have z5 : wn.cell? ⟨XB, 5, none⟩ = some (.int .i64 x.f5) := pw_cell_below hb y5; clear hb)
      all_goals (go_wp2; go_roundg (l.length - (i + 1)); (case measure => omega); (case rel => exact ⟨i + 1, _, by simp, by omega, by omega, by rw [HSE.out], HS6, by rw [lst_succ, ← Hx.out]; exact HR6, HF6, HB6⟩))
    · have hd : decide ((i : Int) < ((l.length : Nat) : Int)) = false := decide_eq_false (by omega)
      obtain rfl : i = l.length := by omega
      clear hlt hi hk
      obtain ⟨G, cG, rfl, hG, hc1, hc2, hrow, hcap⟩ := row_of_R2 HR.out (by rw [lst_length]; exact hn0)
      rw [lst_length] at hc1 hrow
      have hlen : (lst l.length (fun j => hyp (itm l j))).length = l.length := lst_length _ _
      rw [hlen] at HS
      have HC1 := Lib.hid hc1; have HC2 := Lib.hid hc2; have HG := Lib.hid hG
      have HRG := Lib.hid (hrow.congr (f' := fun j => hyp (itm l j)) (fun j hj => lst_getD _ _ hj))
      have HCP := Lib.hid hcap
      clear hc1 hc2 hG hrow hcap hlen HR
      obtain ⟨q0, q1, q2, q3⟩ := HS.out.cells
      have q4 := HS.out.frozen 1
      go_upto_region 12 with (fail)
      obtain ⟨W4, hW4⟩ : ∃ W4, W4 = wr.setCell ⟨g, 1, none⟩ (.bool (decide (sumH l l.length < inner))) := ⟨_, rfl⟩
      rw [← hW4]
      have hS4 : St w W4 g A0 c0 l (grw l inner) G cG F (fun j => hyp (itm l j)) (fun _ => false) := by
        rw [hW4]
        exact ⟨HL.out, HC.out, HB.out.setCell HG0.out _, slv_grow HS.out _, HRG.out.far (p := ⟨g, 1, none⟩) (fun e => HS.out.ne HRG.out (by decide) e.symm) _, HRF.out.far (p := ⟨g, 1, none⟩) (fun e => HS.out.ne HRF.out (by decide) e.symm) _, HCP.out.far (p := ⟨g, 1, none⟩) (fun e => HS.out.ne HRG.out (by decide) e.symm) _, HG0.out, HG.out, HF.out⟩
      have HS4 := Lib.hid hS4
      clear hW4 hS4 HS HRF HB HRG HCP q0 q1 q2 q3 q4 HG HG0 HF
      generalize hgr : grw l inner = gr at HS4
      rw [show decide (sumH l l.length < inner) = gr from hgr]
      have HGR := Lib.hid hgr
      clear hgr
      go_wp2
      go_loopg [66] l.length (fun gk v66 wr => ∃ i : Nat, v66 = .int .i64 (i : Int) ∧ i ≤ l.length ∧ l.length - i ≤ gk ∧ Hid (St w wr g A0 c0 l gr G cG F (fun j => hyp (itm l j)) (fun j => if j < i then fix0 gr (itm l j) else false)))
      case atStart => exact ⟨0, rfl, by omega, by omega, HS4.out.congr (fun _ _ => rfl) (fun j _ => by simp)⟩
      case round =>
        clear HS4
        obtain ⟨i, rfl, hi, hk, HS⟩ := hrel
        by_cases hlt : i < l.length
        · have hd : decide ((i : Int) < ((l.length : Nat) : Int)) = true := decide_eq_true (by omega)
          obtain ⟨ad, eA, x0, x1, x2, x3, x4, x5⟩ := at_T39 HS.out.isS_items (i : Int) (by omega) (by omega)
          rw [itm_T] at x0 x1 x2 x3 x4 x5
          cases eA
          rw [Int.toNat_natCast] at x0 x1 x2 x3 x4 x5
          have hx' : ∃ x, x = itm l i := ⟨_, rfl⟩
          obtain ⟨x, hx'⟩ := hx'
          rw [← hx'] at x0 x1 x2 x3 x4 x5
          have Hx := Lib.hid hx'; clear hx'
          have ci : (0 : Int) ≤ (i : Int) := by omega
          have ci' : (i : Int) < (l.length : Int) := by omega
          go_upto_region 15 with (fail)
          obtain ⟨W1, hW1⟩ : ∃ W1, W1 = wr.alloc (.cells #[.int .i64 x.f0, .int .i64 x.f1, .int .i64 x.f2, .int .i64 x.f3, .int .i64 x.f4, .int .i64 x.f5] 39 (0, 0)) := ⟨_, rfl⟩
          rw [← hW1]
          have hal : Below wr.heap.size wr W1 := by rw [hW1]; exact below_alloc (Below.refl _ _) _
          have hXb : W1.heap[wr.heap.size]? = some (.cells #[.int .i64 x.f0, .int .i64 x.f1, .int .i64 x.f2, .int .i64 x.f3, .int .i64 x.f4, .int .i64 x.f5] 39 (0, 0)) := by rw [hW1]; exact blk_new wr _
          have HS1 := Lib.hid (HS.out.step hal)
          clear x0 x1 x2 x3 x4 x5 hW1 HS hal
          generalize wr.heap.size = XB at *
          have HXB := Lib.hid hXb
          clear hXb
          have hfx := fun W' (hb : Below W1.heap.size W1 W') => fixed_any (HS1.out.step hb) hn x
          have HFX := Lib.hid hfx; clear hfx
          obtain ⟨q0, q1, q2, q3⟩ := HS1.out.slv.cells
          have y0 : W1.cell? ⟨XB, 0, none⟩ = some (.int .i64 x.f0) := (blk_cell HXB.out 0).trans rfl
          have y1 : W1.cell? ⟨XB, 1, none⟩ = some (.int .i64 x.f1) := (blk_cell HXB.out 1).trans rfl
          have y2 : W1.cell? ⟨XB, 2, none⟩ = some (.int .i64 x.f2) := (blk_cell HXB.out 2).trans rfl
          have y3 : W1.cell? ⟨XB, 3, none⟩ = some (.int .i64 x.f3) := (blk_cell HXB.out 3).trans rfl
          have y4 : W1.cell? ⟨XB, 4, none⟩ = some (.int .i64 x.f4) := (blk_cell HXB.out 4).trans rfl
          have y5 : W1.cell? ⟨XB, 5, none⟩ = some (.int .i64 x.f5) := (blk_cell HXB.out 5).trans rfl
          go_region_with (go_at_call 33; (with_reducible refine (HFX.out _ (Below.refl _ _).drew).mono ?_); rintro e wn ⟨rfl, hb⟩; have HS3 := Lib.hid (HS1.out.drew.step hb); obtain ⟨r0, r1, r2, r3⟩ := HS3.out.slv.cells; have rz := HS3.out.frozen.cell hlt; have rf := HS3.out.frozen.frozen i; clear hb)
          all_goals (go_wp2; go_roundg (l.length - (i + 1)); (case measure => omega); (case rel => exact ⟨i + 1, by simp, by omega, by omega, step_fix Hx.out HS3.out⟩))
        · have hd : decide ((i : Int) < ((l.length : Nat) : Int)) = false := decide_eq_false (by omega)
          obtain rfl : i = l.length := by omega
          have HS1 := Lib.hid (HS.out.congr (sz' := fun j => hyp (itm l j)) (fz' := fun j => fix0 gr (itm l j)) (fun j hj => rfl) (fun j hj => by simp [hj]))
          clear HS hlt hi hk
          go_upto_region 17 with (fail)
          have hcn := cnt_le (fun j => fix0 gr (itm l j)) l.length
          have HI := Lib.hid (inv_start (inner := inner) HOK.out gr)
          have hr : ∃ R, R = iter l gr inner l.length (fun j => hyp (itm l j)) (fun j => fix0 gr (itm l j)) := ⟨_, rfl⟩
          obtain ⟨R, hR⟩ := hr
          have HRR := Lib.hid hR; clear hR
          go_loopg [83] (l.length + 1) (fun gk v83 wr => ∃ (m : Nat) (sz : Nat → Int) (fz : Nat → Bool), m + 1 ≤ gk ∧ cnt fz l.length ≤ m ∧ Hid (R = iter l gr inner m sz fz) ∧ Hid (Inv l inner sz fz) ∧ Hid (St w wr g A0 c0 l gr G cG F sz fz))
          case atStart => exact ⟨l.length, _, _, by omega, hcn, HRR, HI, HS1⟩
          case round =>
            clear HS1 HI hcn
            obtain ⟨m, sz, fz, hmk, hcm, HRI, HI, HS⟩ := hrel
            have HT := Lib.hid (turn_any HS.out hn hn0 HOK.out (turnOk (gr := gr) hn hi0 hi1 HOK.out HI.out))
            cases hm : moreA fz l.length with
            | true =>
              rw [hm] at HT
              obtain ⟨m1, rfl⟩ : ∃ m1, m = m1 + 1 := by
                cases m with
                | zero => have := cnt_zero l.length (Nat.le_zero.1 hcm); rw [hm] at this; cases this
                | succ m1 => exact ⟨m1, rfl⟩
              have hc2 := nx_lt l gr inner sz fz hm
              have HI2 := Lib.hid (inv_step (gr := gr) hn hi0 hi1 HOK.out hm HI.out)
              have HR2 := Lib.hid (show R = iter l gr inner m1 (nxS l gr inner sz fz) (nxF l gr inner sz fz) from by rw [HRI.out]; simp only [iter, if_pos hm])
              clear hm HI HRI HS
              go_wp2_with (go_at_call 34; (with_reducible refine HT.out.mono ?_); rintro e wn ⟨rfl, hS⟩; have HS2 := Lib.hid hS; clear hS)
              go_roundg (m1 + 1)
              case measure => omega
              case rel => exact ⟨m1, _, _, by omega, by omega, HR2, HI2, HS2⟩
            | false =>
              rw [hm] at HT
              have HR2 := Lib.hid (show R = sz from by rw [HRI.out]; exact iter_done hm m)
              have Hm := Lib.hid hm
              clear hm HI HRI HS hcm hmk
              go_wp2_with (go_at_call 34; (with_reducible refine HT.out.mono ?_); rintro e wn ⟨rfl, hS⟩; have HS2 := Lib.hid hS; clear hS; obtain ⟨q0, q1, q2, q3⟩ := HS2.out.slv.cells)
              go_ret
              refine ⟨_, rfl, ?_, HS2.out.below⟩
              have e1 : rslv l inner = lst l.length R := by unfold rslv; rw [HGR.out, HRR.out]
              rw [e1, HR2.out]
              exact r_of_row (HS2.out.size.congr (fun j hj => by simp [nxS, newS, fz_all Hm.out hj])) HS2.out.cap HS2.out.loG HC1.out HC2.out
end Go.Proofs.Ytlcghlcpngafgaa.PFree
