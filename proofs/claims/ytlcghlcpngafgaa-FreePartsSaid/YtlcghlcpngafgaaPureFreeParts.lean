/- FreeParts: items without bounds that grow have their base and the part of the free space that their factor is of all, but for a unit; in any room all of it comes to the room, or beyond it where they shrink; in a room that is just their bases they have these: up to ten items of any bases up to 4095, factors 1 to 8, Arounds up to 15; any room up to 65535. -/
import Derived.Test.YtlcghlcpngafgaaPFreePartsx1
import Derived.Test.YtlcghlcpngafgaaFPl
import Derived.Test.YtlcghlcpngafgaaFAwk
namespace Go.Proofs.Ytlcghlcpngafgaa.Pure
open Go.RowKit Go.Proofs.Ytlcghlcpngafgaa.PFreeParts Go.Proofs.YtlcghlcpngafgaaW.PrintWords Go.Proofs.YtlcghlcpngafgaaW.PrintLast
open PFree
set_option linter.unusedVariables false

def mkP (x : Int) : S39 := ⟨x % 4096, 0, -1, x / 4096 % 8 + 1, x / 65536 % 8 + 1, x / 1048576 % 16⟩
theorem mkP_bd (x : Int) : 0 ≤ (mkP x).f0 ∧ (mkP x).f0 ≤ 4095 ∧ 1 ≤ (mkP x).f3 ∧ (mkP x).f3 ≤ 8 ∧ 1 ≤ (mkP x).f4 ∧ (mkP x).f4 ≤ 8 ∧ 0 ≤ (mkP x).f5 ∧ (mkP x).f5 ≤ 15 := by
  unfold mkP; simp only; omega
theorem mkP_ok (x : Int) : OkX (mkP x) := by
  have := mkP_bd x
  refine ⟨by omega, by omega, ?_, ?_, ?_, ?_, by omega, by omega, by omega, by omega, by omega, by omega⟩ <;> (unfold mkP; simp)
def itsP (l : List Int) (n : Nat) : List S39 := lst n (fun j => mkP (l.getD j 0))
theorem itsP_length (l : List Int) (n : Nat) : (itsP l n).length = n := lst_length _ _
theorem itsP_itm (l : List Int) {n i : Nat} (h : i < n) : itm (itsP l n) i = mkP (l.getD i 0) := lst_getD _ _ h
theorem itsP_ok (l : List Int) (n : Nat) : ∀ x ∈ itsP l n, OkX x := by
  intro x hx
  simp only [itsP, lst, List.mem_map, List.mem_range] at hx
  obtain ⟨j, _, rfl⟩ := hx
  exact mkP_ok _
theorem itsP_nb (l : List Int) (n : Nat) : NB (itsP l n) := by
  intro x hx
  simp only [itsP, lst, List.mem_map, List.mem_range] at hx
  obtain ⟨j, _, rfl⟩ := hx
  exact ⟨rfl, rfl⟩
/-- A sum over items. -/
def sP (g : S39 → Int) (l : List Int) : Nat → Int
  | 0 => 0
  | i + 1 => sP g l i + g (mkP (l.getD i 0))
def gB (x : S39) : Int := x.f0 + x.f5
def gG (x : S39) : Int := x.f3
def gW (x : S39) : Int := x.f0 * x.f4
theorem gW_bd (x : Int) : 0 ≤ gW (mkP x) ∧ gW (mkP x) ≤ 32760 := by
  have := mkP_bd x
  have e0 : 0 ≤ (mkP x).f0 * (mkP x).f4 := Int.mul_nonneg (by omega) (by omega)
  have e1 : (mkP x).f0 * (mkP x).f4 ≤ 4095 * 8 := Int.mul_le_mul (by omega) (by omega) (by omega) (by decide)
  unfold gW; omega
theorem sP_bd (l : List Int) : ∀ i : Nat, 0 ≤ sP gB l i ∧ sP gB l i ≤ (i : Int) * 4110 ∧ (i : Int) ≤ sP gG l i ∧ sP gG l i ≤ (i : Int) * 8 ∧ 0 ≤ sP gW l i ∧ sP gW l i ≤ (i : Int) * 32760 := by
  intro i
  induction i with
  | zero => simp [sP]
  | succ i ih =>
    have h := mkP_bd (l.getD i 0)
    have h2 := gW_bd (l.getD i 0)
    simp only [sP, gB, gG] at ih ⊢
    omega
theorem sumB_P (l : List Int) (n : Nat) : ∀ i, i ≤ n → sumB (itsP l n) i = sP gB l i := by
  intro i
  induction i with
  | zero => intro _; rfl
  | succ i ih => intro hi; simp only [sumB, sP, ih (by omega), itsP_itm l (show i < n by omega), gB]
theorem total_gr (l : List Int) (n : Nat) : ∀ i, i ≤ n → U.total ((wsN (itsP l n) true).take i) = sP gG l i := by
  intro i
  induction i with
  | zero => intro _; simp [U.total, sP]
  | succ i ih =>
    intro hi
    have hlt : i < (wsN (itsP l n) true).length := by rw [wsN_length, itsP_length]; omega
    rw [U.total_take_succ _ i hlt, ih (by omega), wsN_get (itsP_ok l n) (itsP_nb l n) true i (by rw [itsP_length]; omega)]
    simp only [sP, wgt, itsP_itm l (show i < n by omega), gG, if_true]
theorem total_gr' (l : List Int) (n : Nat) : U.total (wsN (itsP l n) true) = sP gG l n := by
  have := total_gr l n n (Nat.le_refl _)
  rwa [List.take_of_length_le (by rw [wsN_length, itsP_length]; exact Nat.le_refl _)] at this

theorem pl0 (l : List Int) (a1 : Int) (m : Nat) (hm : m = min l.length 10) : ∀ (d i : Nat) (k : Nat), m - i = d → i ≤ m → quoinlaw18_FreeParts.l0 (d + 1 + k) l a1 (itsP l i) (sP gB l i) (sP gG l i) (sP gW l i) (i : Int) = quoinlaw18_FreeParts.j1 k a1 (itsP l m) (sP gB l m) (sP gG l m) (sP gW l m) := by
  intro d
  induction d with
  | zero =>
    intro i k hd hi
    obtain rfl : i = m := by omega
    rw [Nat.zero_add, Nat.add_comm, quoinlaw18_FreeParts.l0]
    by_cases h : (i : Int) < l.length
    · rw [if_pos h, if_neg (by omega)]
    · rw [if_neg h]
  | succ d ih =>
    intro i k hd hi
    have hb := sP_bd l i
    have hx := mkP_bd (l.getD i 0)
    have hw := gW_bd (l.getD i 0)
    have e1 : Go.bits .and .i64 (l.getD i 0) 4095 = (mkP (l.getD i 0)).f0 := U.and_mask (l.getD i 0) 12 (by decide)
    have e2 : Go.bits .and .i64 (l.getD i 0 / 4096) 7 + 1 = (mkP (l.getD i 0)).f3 := by rw [show Go.bits .and .i64 (l.getD i 0 / 4096) 7 = l.getD i 0 / 4096 % 8 from U.and_mask (l.getD i 0 / 4096) 3 (by decide)]; rfl
    have e3 : Go.bits .and .i64 (l.getD i 0 / 65536) 7 + 1 = (mkP (l.getD i 0)).f4 := by rw [show Go.bits .and .i64 (l.getD i 0 / 65536) 7 = l.getD i 0 / 65536 % 8 from U.and_mask (l.getD i 0 / 65536) 3 (by decide)]; rfl
    have e4 : Go.bits .and .i64 (l.getD i 0 / 1048576) 15 = (mkP (l.getD i 0)).f5 := U.and_mask (l.getD i 0 / 1048576) 4 (by decide)
    rw [show d + 1 + 1 + k = (d + 1 + k) + 1 from by omega, quoinlaw18_FreeParts.l0, if_pos (by omega), if_pos (by omega), if_pos (by omega), if_pos (by rw [itsP_length]; omega), U.rd_nat, e1, e2, e3, e4]
    rw [w64 (x := (mkP (l.getD i 0)).f3) (by omega) (by omega), w64 (x := (mkP (l.getD i 0)).f4) (by omega) (by omega)]
    have e5 : (mkP (l.getD i 0)).f0 * (mkP (l.getD i 0)).f4 = gW (mkP (l.getD i 0)) := rfl
    rw [e5, w64 (x := gW (mkP (l.getD i 0))) (by omega) (by omega), w64 (x := sP gB l i + (mkP (l.getD i 0)).f0) (by omega) (by omega), w64 (x := sP gB l i + (mkP (l.getD i 0)).f0 + (mkP (l.getD i 0)).f5) (by omega) (by omega), w64 (x := sP gG l i + (mkP (l.getD i 0)).f3) (by omega) (by omega), w64 (x := sP gW l i + gW (mkP (l.getD i 0))) (by omega) (by omega), w64 (x := (i : Int) + 1) (by omega) (by omega), show ((i : Int) + 1) = ((i + 1 : Nat) : Int) from by omega]
    have e6 : itsP l i ++ [(⟨(mkP (l.getD i 0)).f0, 0, -1, (mkP (l.getD i 0)).f3, (mkP (l.getD i 0)).f4, (mkP (l.getD i 0)).f5⟩ : S39)] = itsP l (i + 1) := (lst_succ i (fun j => mkP (l.getD j 0))).symm
    have e7 : sP gB l i + (mkP (l.getD i 0)).f0 + (mkP (l.getD i 0)).f5 = sP gB l (i + 1) := by simp only [sP, gB]; omega
    rw [e6, e7]
    exact ih (i + 1) k (by omega) (by omega)
/-- Sizes and Arounds together. -/
def sR (its : List S39) (R : List Int) : Nat → Int
  | 0 => 0
  | i + 1 => sR its R i + R.getD i 0 + (itm its i).f5
theorem pl1 (l : List Int) (inner : Int) (n : Nat) (hn : n ≤ 10) (hi0 : 0 ≤ inner) (hi1 : inner ≤ 65535) (B G W : Int) (hB : 0 ≤ B ∧ B ≤ 41100) (hG : 0 ≤ G ∧ G ≤ 80) (R : List Int) (hR : R.length = n) (hRb : ∀ i, i < n → 0 ≤ R.getD i 0 ∧ R.getD i 0 ≤ 288230376151711744)
    (hd : B < inner → ∀ i, i < n → R.getD i 0 ≤ 1000000 ∧ (inner - B) * (mkP (l.getD i 0)).f3 - G ≤ (R.getD i 0 - (mkP (l.getD i 0)).f0) * G ∧ (R.getD i 0 - (mkP (l.getD i 0)).f0) * G ≤ (inner - B) * (mkP (l.getD i 0)).f3 + G) (k : Nat) :
    ∀ (d i : Nat), n - i = d → i ≤ n → 0 ≤ sR (itsP l n) R i → sR (itsP l n) R i ≤ (i : Int) * 300000000000000000 →
      quoinlaw18_FreeParts.l1 (d + 1 + k) inner (itsP l n) B G W R (sR (itsP l n) R i) (i : Int) = (if n = 0 then (quoinlaw18_FreeParts.j3 k inner (itsP l n) B (sR (itsP l n) R n) true) else (if B ≥ inner then (quoinlaw18_FreeParts.j3 k inner (itsP l n) B (sR (itsP l n) R n) (W == 0)) else (quoinlaw18_FreeParts.j3 k inner (itsP l n) B (sR (itsP l n) R n) false))) := by
  intro d
  induction d with
  | zero =>
    intro i hd' hi _ _
    obtain rfl : i = n := by omega
    rw [Nat.zero_add, Nat.add_comm, quoinlaw18_FreeParts.l1, itsP_length, if_neg (by omega)]
    by_cases h : i = 0
    · rw [if_pos h, if_pos (by omega)]
    · rw [if_neg h, if_neg (by omega)]
  | succ d ih =>
    intro i hd' hi h0 h1
    have hRi := hRb i (by omega)
    have hx := mkP_bd (l.getD i 0)
    have hin := itsP_itm l (n := n) (i := i) (by omega)
    have hnext : sR (itsP l n) R (i + 1) = sR (itsP l n) R i + R.getD i 0 + (mkP (l.getD i 0)).f5 := by simp only [sR, hin]
    have ih' := ih (i + 1) (by omega) (by omega) (by rw [hnext]; omega) (by rw [hnext]; omega)
    rw [show d + 1 + 1 + k = (d + 1 + k) + 1 from by omega, quoinlaw18_FreeParts.l1, itsP_length, if_pos (by omega), if_pos (by omega), if_pos (by omega), U.rd_nat, itm_T, hin]
    rw [w64 (x := sR (itsP l n) R i + R.getD i 0) (by omega) (by omega), w64 (x := sR (itsP l n) R i + R.getD i 0 + (mkP (l.getD i 0)).f5) (by omega) (by omega), w64 (x := (i : Int) + 1) (by omega) (by omega), show ((i : Int) + 1) = ((i + 1 : Nat) : Int) from by omega, ← hnext]
    by_cases hlt : B < inner
    · obtain ⟨d0, d1, d2⟩ := hd hlt i (by omega)
      have p1 : 0 ≤ (inner - B) * (mkP (l.getD i 0)).f3 := Int.mul_nonneg (by omega) (by omega)
      have p2 : (inner - B) * (mkP (l.getD i 0)).f3 ≤ 65535 * 8 := Int.mul_le_mul (by omega) (by omega) (by omega) (by decide)
      rw [if_pos hlt, w64 (x := R.getD i 0 - (mkP (l.getD i 0)).f0) (by omega) (by omega), w64 (x := inner - B) (by omega) (by omega), w64 (x := (R.getD i 0 - (mkP (l.getD i 0)).f0) * G) (by omega) (by omega), w64 (x := (inner - B) * (mkP (l.getD i 0)).f3) (by omega) (by omega), w64 (x := (inner - B) * (mkP (l.getD i 0)).f3 - G) (by omega) (by omega), w64 (x := (inner - B) * (mkP (l.getD i 0)).f3 + G) (by omega) (by omega), if_neg (by omega), if_neg (by omega)]
      exact ih'
    · rw [if_neg hlt]
      exact ih'

theorem lst_ext {f g : Nat → Int} {n : Nat} (h : ∀ i, i < n → f i = g i) : lst n f = lst n g := by
  unfold lst
  exact List.map_congr_left (fun i hi => h i (List.mem_range.1 hi))
/-- In a room that is just what they have they stay. -/
theorem still (l : List Int) (n : Nat) : rslv (itsP l n) (sP gB l n) = lst n (fun j => (itm (itsP l n) j).f0) := by
  have hlen := itsP_length l n
  have hz : ∀ i, i < (itsP l n).length → prN (itsP l n) (sP gB l n) i = 0 := by
    intro i hi
    rw [prN_eq (itsP_ok l n) (itsP_nb l n) _ i hi, hlen, sumB_P l n n (Nat.le_refl _), Int.sub_self]
    simp [ahd]
  have hv := nb_val (itsP_ok l n) (itsP_nb l n) (sP gB l n) (fun i hi => by rw [hz i hi]; have := (okx_itm (itsP_ok l n) hi).1; omega)
  unfold rslv
  rw [hlen]
  refine lst_ext (fun i hi => ?_)
  have h1 := hv i (by rw [hlen]; exact hi)
  rw [hz i (by rw [hlen]; exact hi), rslv_get _ _ (by rw [hlen]; exact hi), hlen, Int.add_zero] at h1
  exact h1
theorem sR_rst (its : List S39) (R : List Int) (inner : Int) : ∀ i, rst its inner (fun j => R.getD j 0) i = inner - sR its R i := by
  intro i
  induction i with
  | zero => simp [rst, sR]
  | succ i ih => simp only [rst, sR, ih]; omega
theorem okR_P (l : List Int) (n : Nat) (hn : n ≤ 10) (hn0 : 0 < n) (inner : Int) (h0 : 0 ≤ inner) (h1 : inner ≤ 1000000) : okR (itsP l n) inner = true := by
  simp only [okR, okL, Bool.and_eq_true, decide_eq_true_eq]
  rw [itsP_length]
  exact ⟨⟨⟨⟨itsP_ok l n, by omega⟩, by omega⟩, by omega⟩, hn0⟩
/-- All is shared, or more. -/
theorem comes (l : List Int) (n : Nat) (hn : n ≤ 10) (hn0 : 0 < n) (inner : Int) (h0 : 0 ≤ inner) (h1 : inner ≤ 65535) :
    (sP gB l n < inner → sR (itsP l n) (rslv (itsP l n) inner) n = inner) ∧ (inner ≤ sP gB l n → inner ≤ sR (itsP l n) (rslv (itsP l n) inner) n) := by
  have hlen := itsP_length l n
  have hgr := grw_nb (itsP_ok l n) (itsP_nb l n) inner
  rw [hlen, sumB_P l n n (Nat.le_refl _)] at hgr
  have he : ∀ R : Nat → Int, (∀ i, i < n → (rslv (itsP l n) inner).getD i 0 = R i) → rst (itsP l n) inner R n = inner - sR (itsP l n) (rslv (itsP l n) inner) n := by
    intro R hR
    rw [← sR_rst]
    exact (rst_congr n hR).symm
  have hget := fun i (hi : i < n) => rslv_get (itsP l n) inner (i := i) (by rw [hlen]; exact hi)
  constructor
  · intro hb
    rw [decide_eq_true hb] at hgr
    rw [hgr] at hget
    have := grow_end (inner := inner) (itsP_ok l n) (itsP l n).length _ _ (cnt_le _ _) (start_G (itsP_ok l n) inner hgr)
    rcases this with h | ⟨_, h⟩
    · rw [hlen] at h
      have := he _ (fun i hi => by rw [hget i hi, hlen])
      omega
    · have h2 := h 0 (by rw [hlen]; exact hn0) (by rw [itsP_itm l hn0]; have := mkP_bd (l.getD 0 0); omega)
      have h3 := (nb_itm (itsP_nb l n) (i := 0) (by rw [hlen]; exact hn0)).2
      omega
  · intro hb
    rw [decide_eq_false (by omega)] at hgr
    rw [hgr] at hget
    have := shrink_end (inner := inner) (itsP_ok l n) (itsP l n).length _ _ (cnt_le _ _) (start_S (itsP_ok l n) inner hgr)
    have h2 := he _ (fun i hi => by rw [hget i hi])
    rcases this with h | ⟨h, _⟩
    · rw [hlen] at h h2; omega
    · rw [hlen] at h h2; omega
/-- A part of what is free. -/
theorem grow_part (l : List Int) (n : Nat) (hn : n ≤ 10) (inner : Int) (h1 : inner ≤ 65535) (hb : sP gB l n < inner) (i : Nat) (hi : i < n) :
    (rslv (itsP l n) inner).getD i 0 ≤ 1000000 ∧ (inner - sP gB l n) * (mkP (l.getD i 0)).f3 - sP gG l n ≤ ((rslv (itsP l n) inner).getD i 0 - (mkP (l.getD i 0)).f0) * sP gG l n ∧ ((rslv (itsP l n) inner).getD i 0 - (mkP (l.getD i 0)).f0) * sP gG l n ≤ (inner - sP gB l n) * (mkP (l.getD i 0)).f3 + sP gG l n := by
  have hlen := itsP_length l n
  have hil : i < (itsP l n).length := by rw [hlen]; exact hi
  have hsb : sumB (itsP l n) (itsP l n).length = sP gB l n := by rw [hlen, sumB_P l n n (Nat.le_refl _)]
  have hg := fun j (hj : j < (itsP l n).length) => nb_grow (itsP_ok l n) (itsP_nb l n) inner (by rw [hsb]; exact hb) j hj
  have hv := nb_val (itsP_ok l n) (itsP_nb l n) inner (fun j hj => by have := hg j hj; have := (okx_itm (itsP_ok l n) hj).1; omega) i hil
  have hgr : grw (itsP l n) inner = true := by rw [grw_nb (itsP_ok l n) (itsP_nb l n), hsb]; exact decide_eq_true hb
  have hG := sP_bd l n
  have hW : 0 < U.total (wsN (itsP l n) true) := by rw [total_gr']; omega
  have hp := part_near (inner - sP gB l n) hW (i := i) (by rw [wsN_length]; exact hil)
  have hpe := prN_eq (itsP_ok l n) (itsP_nb l n) inner i hil
  rw [hsb, hgr] at hpe
  rw [wsN_get (itsP_ok l n) (itsP_nb l n) true i hil, total_gr', ← hpe] at hp
  rw [total_gr'] at hW
  have hw : wgt true (itm (itsP l n) i) = (mkP (l.getD i 0)).f3 := by rw [itsP_itm l hi]; rfl
  have hf : (itm (itsP l n) i).f0 = (mkP (l.getD i 0)).f0 := by rw [itsP_itm l hi]
  rw [hw] at hp
  rw [hf] at hv
  have hx := mkP_bd (l.getD i 0)
  have p1 : 0 ≤ (inner - sP gB l n) * (mkP (l.getD i 0)).f3 := Int.mul_nonneg (by omega) (by omega)
  have p2 : (inner - sP gB l n) * (mkP (l.getD i 0)).f3 ≤ 65535 * 8 := Int.mul_le_mul (by omega) (by omega) (by omega) (by decide)
  have q1 := Int.mul_ediv_add_emod ((inner - sP gB l n) * (mkP (l.getD i 0)).f3) (sP gG l n)
  have q2 := Int.emod_nonneg ((inner - sP gB l n) * (mkP (l.getD i 0)).f3) (b := sP gG l n) (by omega)
  have q3 := Int.emod_lt_of_pos ((inner - sP gB l n) * (mkP (l.getD i 0)).f3) hW
  have hq : (inner - sP gB l n) * (mkP (l.getD i 0)).f3 / sP gG l n ≤ 65535 * 8 := Int.ediv_le_of_le_mul hW (by
    have : (65535 * 8 : Int) * 1 ≤ 65535 * 8 * sP gG l n := Int.mul_le_mul_of_nonneg_left (by omega) (by decide)
    omega)
  have hg0 := hg i hil
  rw [hv]
  have ed : (mkP (l.getD i 0)).f0 + prN (itsP l n) inner i - (mkP (l.getD i 0)).f0 = prN (itsP l n) inner i := by omega
  rw [ed]
  generalize (inner - sP gB l n) * (mkP (l.getD i 0)).f3 = E at *
  generalize prN (itsP l n) inner i = P at *
  generalize sP gG l n = G at *
  generalize hQ : E / G = Q at *
  have m1 : Q * G ≤ P * G := Int.mul_le_mul_of_nonneg_right hp.1 (by omega)
  have m2 : P * G ≤ (Q + 1) * G := Int.mul_le_mul_of_nonneg_right hp.2 (by omega)
  rw [Int.add_mul, Int.one_mul] at m2
  rw [Int.mul_comm G Q] at q1
  omega

theorem FreeParts : quoinlaw18_FreeParts.Pure := by
  intro l a1 _ _ hw w1
  obtain ⟨n, hn⟩ : ∃ n, n = min l.length 10 := ⟨_, rfl⟩
  have hn10 : n ≤ 10 := by omega
  refine ⟨n + 1 + ((n + 1 + ((n + 20) + 1)) + 1), ?_⟩
  unfold quoinlaw18_FreeParts.f
  have e0 : ([] : List S39) = itsP l 0 := rfl
  rw [e0]
  have := pl0 l a1 n hn n 0 (n + 1 + ((n + 20) + 1) + 1) (by omega) (by omega)
  simp only [sP, Int.natCast_zero] at this
  rw [this]
  clear this
  have m1 : Go.bits .and .i64 a1 65535 = a1 % 65536 := U.and_mask a1 16 (by decide)
  have b1 := Int.emod_nonneg a1 (b := 65536) (by decide)
  have b1' := Int.emod_lt_of_pos a1 (b := 65536) (by decide)
  rw [quoinlaw18_FreeParts.j1, m1]
  generalize a1 % 65536 = inner at *
  have hb := sP_bd l n
  have hlen := itsP_length l n
  rw [free_Resolve.eq]
  simp only [Option.bind_some]
  by_cases hz : n = 0
  · have q1 : okR (itsP l n) inner = false := by simp [okR, itsP_length, hz]
    rw [q1]
    simp only [Bool.false_eq_true, if_false, List.length_nil]
    rw [if_pos (by rw [hlen, hz])]
    have := pl1 l inner n hn10 (by omega) (by omega) (sP gB l n) (sP gG l n) (sP gW l n) (by omega) (by omega) [] (by simp [hz]) (fun i hi => by omega) (fun _ i hi => by omega) (n + 20 + 1) n 0 (by omega) (by omega) (by simp [sR]) (by simp [sR])
    simp only [sR, Int.natCast_zero] at this
    rw [this, if_pos hz, quoinlaw18_FreeParts.j3, if_pos rfl, awake_eq]
    rfl
  · rw [if_pos (okR_P l n hn10 (by omega) inner (by omega) (by omega)), if_pos (show ((rslv (itsP l n) inner).length : Int) = ((itsP l n).length : Int) from by rw [rslv_length])]
    obtain ⟨c1, c2⟩ := comes l n hn10 (by omega) inner (by omega) (by omega)
    have hRb : ∀ i, i < n → 0 ≤ (rslv (itsP l n) inner).getD i 0 ∧ (rslv (itsP l n) inner).getD i 0 ≤ 288230376151711744 := fun i hi => rslv_bd (by rw [hlen]; omega) (by omega) (by omega) (itsP_ok l n) (by rw [hlen]; exact hi)
    have := pl1 l inner n hn10 (by omega) (by omega) (sP gB l n) (sP gG l n) (sP gW l n) (by omega) (by omega) (rslv (itsP l n) inner) (by rw [rslv_length, hlen]) hRb (fun hlt i hi => grow_part l n hn10 inner (by omega) hlt i hi) (n + 20 + 1) n 0 (by omega) (by omega) (by simp [sR]) (by simp [sR])
    simp only [sR, Int.natCast_zero] at this
    rw [this, if_neg hz]
    generalize sR (itsP l n) (rslv (itsP l n) inner) n = S at *
    have tail : ((PFree.free_Resolve.f (itsP l n) (sP gB l n)).bind fun t118 => ((PFree.quoinlaw18_bases.f (n + 20) (itsP l n)).bind fun t121 => ((PFree.quoinlaw16_Same.f (n + 20) t118 t121).bind fun t124 => (if t124 = true then ((PFree.awk.f).bind fun t125 => (some t125)) else (some false))))) = some true := by
      rw [free_Resolve.eq, if_pos (okR_P l n hn10 (by omega) (sP gB l n) (by omega) (by omega)), bases_eq _ (by rw [hlen]; omega) _ (by rw [hlen]; omega)]
      simp only [Option.bind_some]
      rw [still, hlen, same_refl _ (by rw [lst_length]; omega) _ (by rw [lst_length]; omega)]
      simp only [Option.bind_some, if_true, awake_eq]
    by_cases hge : sP gB l n ≥ inner
    · rw [if_pos hge]
      by_cases hW : sP gW l n = 0
      · rw [quoinlaw18_FreeParts.j3, if_pos (by simp [hW]), awake_eq]; rfl
      · rw [quoinlaw18_FreeParts.j3, if_neg (by simp [hW]), if_neg (by omega), if_pos hge, if_pos (by have := c2 (by omega); omega)]
        exact tail
    · rw [if_neg hge, quoinlaw18_FreeParts.j3, if_neg (by decide), if_pos (by omega), if_pos (c1 (by omega))]
      exact tail

end Go.Proofs.Ytlcghlcpngafgaa.Pure
