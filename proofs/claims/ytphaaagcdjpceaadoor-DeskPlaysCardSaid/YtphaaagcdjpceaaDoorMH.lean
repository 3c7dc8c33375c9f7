import Derived.Test.YtphaaagcdjpceaaDoorMF
import Derived.Test.YtphaaagcdjpceaaDoorME
import Derived.Test.YtphaaagcdjpceaaDoorMD
namespace Go.Proofs.YtphaaagcdjpceaaDoor
open Go.RowKit Go.Extern.Stop Go.Stop Go.Extern Go.Proofs.YtphaaagcdjpceaaDoorW.PrintWords Go.Proofs.YtphaaagcdjpceaaDoorW.PrintLast Go.Proofs.YtphaaagcdjpceaaDoorW.PrintMore
set_option linter.unusedVariables false
theorem filter_none {n : Nat} {P : Nat → Bool} (h : ∀ a, a < n → P a = false) : (List.range n).filter P = [] := by
  rw [List.filter_eq_nil_iff]
  intro a ha
  rw [h a (List.mem_range.1 ha)]; simp
theorem filter_one {n j : Nat} {P : Nat → Bool} (hj : j < n) (hp : P j = true) (h : ∀ a, a < n → P a = true → a = j) : (List.range n).filter P = [j] := by
  induction n with
  | zero => omega
  | succ n ih =>
    rw [List.range_succ, List.filter_append]
    rcases Nat.lt_or_ge j n with h1 | h1
    · rw [ih h1 (fun a ha hpa => h a (by omega) hpa)]
      have : P n = false := by
        cases hn : P n
        · rfl
        · have := h n (by omega) hn; omega
      simp [this]
    · obtain rfl : j = n := by omega
      rw [filter_none (fun a ha => by
        cases hn : P a
        · rfl
        · have := h a (by omega) hn; omega)]
      simp [hp]
def rowAt (hs : List S40) (rs : List Int) (pl j : Nat) : List Int := ((List.range j).filter (fun a => decide ((hat hs a).f0 = (pl : Int)))).map (fun a => rs.getD a 0)
theorem rowAt_zero (hs : List S40) (rs : List Int) (pl : Nat) : rowAt hs rs pl 0 = [] := rfl
theorem rowAt_yes {hs : List S40} {rs : List Int} {pl j : Nat} (h : (hat hs j).f0 = (pl : Int)) : rowAt hs rs pl (j + 1) = rowAt hs rs pl j ++ [rs.getD j 0] := by
  unfold rowAt
  rw [List.range_succ, List.filter_append, List.map_append]; simp [h]
theorem rowAt_no {hs : List S40} {rs : List Int} {pl j : Nat} (h : (hat hs j).f0 ≠ (pl : Int)) : rowAt hs rs pl (j + 1) = rowAt hs rs pl j := by
  unfold rowAt
  rw [List.range_succ, List.filter_append, List.map_append]; simp [h]
theorem rowAt_all {D : DataW Unit} {hs : List S40} {rs : List Int} (h : RH D hs rs) (pl : Nat) : restOf D pl ++ rowAt hs rs pl hs.length = restOf D (pl + 1) := by
  rw [restOf_succ]
  congr 1
  by_cases hh : hasI D (pl : Int)
  · rw [if_pos hh]
    obtain ⟨j, hj, e⟩ := (h.has _).1 hh
    unfold rowAt
    rw [filter_one (j := j) hj (by simp [e]) (fun a ha hp => by
      simp only [decide_eq_true_eq] at hp
      exact h.nd a j ha hj (by rw [hp, e]))]
    have := h.at_ j hj .nil
    rw [e] at this
    rw [this]; rfl
  · rw [if_neg hh]
    unfold rowAt
    rw [filter_none (fun a ha => by
      simp only [decide_eq_false_iff_not]
      exact fun e => hh ((h.has _).2 ⟨a, ha, e⟩))]
    rfl
theorem restOf_len (D : DataW Unit) (m : Nat) : (restOf D m).length ≤ m := by
  induction m with
  | zero => rw [restOf_zero]; simp
  | succ m ih =>
    rw [restOf_succ, List.length_append]
    split <;> simp <;> omega
theorem rowAt_len (hs : List S40) (rs : List Int) (pl j : Nat) : (rowAt hs rs pl j).length ≤ j := by
  unfold rowAt
  rw [List.length_map]
  exact Nat.le_trans (List.length_filter_le _ _) (by simp)
section
variable {w W W1 : World} {d pg M rp N Ns : Nat} {n : Int} {ps qs : List S108} {snaps : Int} {cap : Nat} {D : DataW Unit} {F : Int → Nat × Sn} {L : List Seat} {va vo : Value} {os : List S40} {c : Nat}
theorem dcloseS (h : DS w W d pg M (N : Int) n ps snaps cap D (Ns : Int) F) (hl : WL c N Ns ps os cap D F L) (hc : c ≤ 100) (hn : n = (cnt ps : Int)) {k : Nat} {s : Seat} (hk : ∃ h : k < L.length, L[k] = s) {i : Nat} {t : Int} (hx : s.x = (i : Int) ∧ s.t = t) (hil : i < ps.length) {m : Nat} (hm : s.ps.length ≤ m) :
    Calls Tryd.prog 43 #[.pointer (some ⟨d, 0, none⟩), .agg #[.int .i64 (i : Int), .int .i64 t]] W fun e w' => ∃ v, e = .returned (.tuple #[v, .nilIface]) ∧ Kd.R (Kd.int .i64) 3 w' W.heap.size (fun _ => True) v (restOf (F (i : Int)).2.D m) ∧ DS w w' d pg M (N : Int) (n - 1) (freed ps i) snaps cap (D.del (.int .i64 (i : Int))) (Ns : Int) F ∧ Keeps DT W w' := by
  obtain ⟨hj, rfl⟩ := hk
  obtain ⟨hx1, rfl⟩ := hx
  have h1 := hl.ply.lc
  have h2 := cnt_le ps
  exact dclose_all h hl.mt (by omega) hj hx1 hil (by omega) (by omega) (by omega) hm
theorem same_nil (W : World) : Calls Tryd.prog 44 #[.slice none 0 0, .slice none 0 0] W fun e w' => e = .returned (.bool true) ∧ Below W.heap.size W w' := same_yes none none 0 0 [] W (Kd.C_nil _ _) (Kd.C_nil _ _) (by decide)
theorem row_fe {W0 w2 w5 : World} {base : Nat} {qs : List S108} {v : Value} {xs : List Int} (hr : Kd.R (Kd.int .i64) 3 w2 W0.heap.size (fun _ => True) v xs) (hp : RP W0 base rp qs N) (hk : Keeps DT W0 w2) (hf : Fe base rp w2 w5) : Kd.R (Kd.int .i64) 3 w5 W0.heap.size (fun _ => True) v xs := by
  have hrp : w2.heap[rp]? = W0.heap[rp]? := by
    obtain ⟨cs, t, fr, hc, ht, _⟩ := hp.typed rp (.inl rfl)
    exact hk.2 _ _ _ _ hc (by rcases ht with rfl | rfl | rfl <;> decide)
  refine R_same hr rfl (fun k hk2 => hf.blk k (Kd.R_lt hr k hk2.symm) (fun e => ?_) (fun e => ?_))
  · rw [bk_same hrp] at e
    obtain ⟨cs, t, fr, hc, _⟩ := hp.typed k (.inr (.inl e))
    have := blk_lt hc
    have := Kd.R_base hr k hk2.symm
    omega
  · rw [bk_same hrp] at e
    obtain ⟨cs, t, fr, hc, _⟩ := hp.typed k (.inr (.inr e))
    have := blk_lt hc
    have := Kd.R_base hr k hk2.symm
    omega
theorem WM.erase (h : WM w W d pg M rp N Ns n ps qs snaps cap D F L va vo os) {k : Nat} {v : Value} (hv : PR W w.heap.size v ((L.eraseIdx k).map (fun s => s.bl))) : WM w W d pg M rp N Ns n ps qs snaps cap D F (L.eraseIdx k) v vo os :=
  ⟨h.ds, h.pool, h.sl.sub (List.eraseIdx_sublist _ _), hv, h.old, fun s hs => h.ap1 s (List.mem_of_mem_eraseIdx hs), fun s hs => h.ap2 s (List.mem_of_mem_eraseIdx hs), fun s hs => h.ap3 s (List.mem_of_mem_eraseIdx hs)⟩
end
theorem eraseIdx_map_bl (L : List Seat) (k : Nat) : (L.eraseIdx k).map (fun s => s.bl) = (L.map (fun s => s.bl)).take k ++ (L.map (fun s => s.bl)).drop (k + 1) := by
  rw [List.eraseIdx_eq_take_drop_succ, List.map_append, List.map_take, List.map_drop]
theorem R_empty94 {W : World} {H base : Nat} (h : W.heap[H]? = some (.cells #[] 94 (0, 0))) (hb : base ≤ H) : Kd.R kP 94 W base (fun _ => True) (.slice (some ⟨H, 0, none⟩) 0 0) [] :=
  ⟨fun _ _ => trivial, [], ⟨rfl, .inr ⟨H, 0, #[], rfl, hb, h, Nat.le_refl _, by unfold maxLen; omega, rfl, rfl⟩⟩, Reps.none _ _⟩
def deskD74.T74 : Bool × List (List Nat × List Nat) := (true, [([], []), ([], []), ([], []), ([1, 2], [1, 2]), ([0, 3], [0, 3]), ([], []), ([], []), ([6], [6]), ([5, 7], [5, 7]), ([4, 8, 4], [4, 8]), ([9, 9, 0, 1, 2, 3, 4, 5, 6, 7, 8, 9], [1, 5, 9])])
def deskD74.B74 : List Nat := [0, 0, 0, 6, 15, 0, 0, 64, 224, 511, 1023]
theorem deskD74.tab74 : rtab .any (opsOf Tryd.f11 74) = deskD74.T74 := by kernel_rfl
theorem deskD74.bits74 : waitsOk deskD74.T74.2 deskD74.B74 = true := by kernel_rfl
attribute [local go_sem high] eq40 ne40
section
variable {v0 v1 : Value} {A : Option Addr} {len cap : Nat} {B : Option Addr} {lenB capB : Nat} {v9 : Value} {d rp : Nat} {w W0 W : World} {va vo : Value} {i : Nat}
set_option maxHeartbeats 4000000 in
set_option maxRecDepth 100000 in
theorem p34c_n {a : Act} (hFD : FD a v0 v1 A len cap B lenB capB v9 d rp)
    {n : Int} {hb sb : Nat} {p t : Int} {M pg N Ns : Nat} {ps : List S108} {snaps : Int} {cp : Nat} {Dm : DataW Unit} {F : Int → Nat × Sn} {L : List Seat} {os : List S40} {v21 : Value} (hG : Good w) (h : WM w W d pg M rp N Ns (cnt ps : Int) ps ps snaps cp Dm F L va vo os) (hl : WL i N Ns ps os cp Dm F L) (hh : Hn W hb p t) (hpr : -9223372036854775808 ≤ p ∧ p ≤ 9223372036854775807) (hi : i < 50) (hf : ∀ s ∈ L, ¬ (s.x = p ∧ s.t = t)) (hn : n % 8 = 1) (h12 : sl a 12 = va) (h13 : sl a 13 = vo) (h14 : sl a 14 = .int .i64 (i : Int)) (h15 : sl a 15 = .int .i64 n) (h16 : sl a 16 = .pointer (some ⟨hb, 0, none⟩)) (h17 : sl a 17 = .pointer (some ⟨sb, 0, none⟩)) (h18 : sl a 18 = .pointer none) (h19 : sl a 19 = .int .i64 (-1)) (h21 : sl a 21 = v21) (h23 : sl a 23 = .int .i64 0) (h24 : sl a 24 = .int .i64 3) :
    Does (cpart [1, 1, 1, 1, 1, 1, 1, 1, 1, 1, 0] cD) (fun a' w' => FD a' v0 v1 A len cap B lenB capB v9 d rp ∧ sl a' 14 = .int .i64 (i : Int) ∧ ∃ va vo ec, sl a' 12 = va ∧ sl a' 13 = vo ∧ sl a' 23 = .int .i64 ec ∧ sl a' 24 = .int .i64 ec ∧ St11 w w' d pg M rp N Ns snaps (i + 1) va vo) a W := by
  obtain ⟨hf, g0, g1, g2, g3, g9, g10, g11⟩ := hFD
  obtain ⟨u, rfl⟩ := hf.open
  rw [sl_fr u 0 (by decide)] at g0
  rw [sl_fr u 1 (by decide)] at g1
  rw [sl_fr u 2 (by decide)] at g2
  rw [sl_fr u 3 (by decide)] at g3
  rw [sl_fr u 9 (by decide)] at g9
  rw [sl_fr u 10 (by decide)] at g10
  rw [sl_fr u 11 (by decide)] at g11
  rw [sl_fr u 12 (by decide)] at h12
  rw [sl_fr u 13 (by decide)] at h13
  rw [sl_fr u 14 (by decide)] at h14
  rw [sl_fr u 15 (by decide)] at h15
  rw [sl_fr u 16 (by decide)] at h16
  rw [sl_fr u 17 (by decide)] at h17
  rw [sl_fr u 18 (by decide)] at h18
  rw [sl_fr u 19 (by decide)] at h19
  rw [sl_fr u 21 (by decide)] at h21
  rw [sl_fr u 23 (by decide)] at h23
  rw [sl_fr u 24 (by decide)] at h24
  intro J Q hJ hQ
  unfold fr
  rw [g0, g1, g2, g3, g9, g10, g11, h12, h13, h14, h15, h16, h17, h18, h19, h21, h23, h24]
  clear hf g0 g1 g2 g3 g9 g10 g11 h12 h13 h14 h15 h16 h17 h18 h19 h21 h23 h24
  conv => arg 2; whnf
  have HG := Lib.hid hG
  have HM := Lib.hid h
  have HL := Lib.hid hl
  have HH := Lib.hid hh
  have HPR := Lib.hid hpr
  have HI := Lib.hid hi
  clear hG h hl hh hpr hi
  have HF := Lib.hid hf
  clear hf
  have q : Go.bits .and .i64 n 7 = n % 8 := and_mask n 3 (by decide)
  rw [hn] at q
  clear hn
  have q0 := (blk_cell HH.out 0).trans (show _ = some (Value.int .i64 p) from rfl)
  have q1 := (blk_cell HH.out 1).trans (show _ = some (Value.int .i64 t) from rfl)
  go_wp2_with (fail)
  clear q q0 q1
  go_at_call 43
  (with_reducible refine (dclose_no HM.out.ds HG.out HPR.out (HL.out.mt.none HF.out)).mono ?_)
  rintro e w2 ⟨k2, rfl, hj, _, hb2⟩
  have HM2 := Lib.hid (HM.out.below hb2)
  have HJ2 := Lib.hid hj
  clear hb2 hj HM HH
  go_wp2_with (fail)
  go_at_call 14
  (with_reducible refine (code_join k2 3 _ (good_et' (HM2.out.ds.good HG.out)) HJ2.out).mono ?_)
  rintro e w5 ⟨rfl, hb5⟩
  have HM5 := Lib.hid (HM2.out.below hb5)
  clear hb5 HM2 HJ2
  go_wp2_with (fail)
  go_at_call 44
  (with_reducible refine (same_nil _).mono ?_)
  rintro e w6 ⟨rfl, hb6⟩
  have HM6 := Lib.hid (HM5.out.below hb6)
  clear hb6 HM5
  go_wp2
  refine Met.intro (hJ _ _ ?_)
  exact ⟨⟨⟨rfl, rfl⟩, rfl, rfl, rfl, rfl, rfl, rfl, rfl⟩, rfl, _, _, _, rfl, rfl, rfl, rfl, ps, cp, Dm, F, L, os, HM6.out, HL.out.up⟩
set_option maxHeartbeats 4000000 in
set_option maxRecDepth 100000 in
theorem p34c_s {a : Act} (hFD : FD a v0 v1 A len cap B lenB capB v9 d rp)
    {A5 : Option Addr} {c5 m : Nat} {n : Int} {hb sb : Nat} {p t : Int} {M pg N Ns : Nat} {ps : List S108} {snaps : Int} {cp : Nat} {Dm : DataW Unit} {F : Int → Nat × Sn} {L : List Seat} {os : List S40} {v21 : Value} (hG : Good w) (h : WM w W d pg M rp N Ns (cnt ps : Int) ps ps snaps cp Dm F L (.slice A5 m c5) vo os) (hl : WL i N Ns ps os cp Dm F L) (hh : Hn W hb p t) (hpr : -9223372036854775808 ≤ p ∧ p ≤ 9223372036854775807) (hi : i < 50) {k : Nat} {s : Seat} {bl : Nat} (hk : k < L.length) (hs : L[k] = s) (hx : s.x = p ∧ s.t = t) (hbl : s.bl = bl) (hm : L.length = m) (hn : n % 8 = 1) (h12 : sl a 12 = (.slice A5 m c5)) (h13 : sl a 13 = vo) (h14 : sl a 14 = .int .i64 (i : Int)) (h15 : sl a 15 = .int .i64 n) (h16 : sl a 16 = .pointer (some ⟨hb, 0, none⟩)) (h17 : sl a 17 = .pointer (some ⟨sb, 0, none⟩)) (h18 : sl a 18 = .pointer (some ⟨bl, 0, none⟩)) (h19 : sl a 19 = .int .i64 (k : Int)) (h21 : sl a 21 = v21) (h23 : sl a 23 = .int .i64 0) (h24 : sl a 24 = .int .i64 3) :
    Does (cpart [1, 1, 1, 1, 1, 1, 1, 1, 1, 1, 0] cD) (fun a' w' => FD a' v0 v1 A len cap B lenB capB v9 d rp ∧ sl a' 14 = .int .i64 (i : Int) ∧ ∃ va vo ec, sl a' 12 = va ∧ sl a' 13 = vo ∧ sl a' 23 = .int .i64 ec ∧ sl a' 24 = .int .i64 ec ∧ St11 w w' d pg M rp N Ns snaps (i + 1) va vo) a W := by
  obtain ⟨hf, g0, g1, g2, g3, g9, g10, g11⟩ := hFD
  obtain ⟨u, rfl⟩ := hf.open
  rw [sl_fr u 0 (by decide)] at g0
  rw [sl_fr u 1 (by decide)] at g1
  rw [sl_fr u 2 (by decide)] at g2
  rw [sl_fr u 3 (by decide)] at g3
  rw [sl_fr u 9 (by decide)] at g9
  rw [sl_fr u 10 (by decide)] at g10
  rw [sl_fr u 11 (by decide)] at g11
  rw [sl_fr u 12 (by decide)] at h12
  rw [sl_fr u 13 (by decide)] at h13
  rw [sl_fr u 14 (by decide)] at h14
  rw [sl_fr u 15 (by decide)] at h15
  rw [sl_fr u 16 (by decide)] at h16
  rw [sl_fr u 17 (by decide)] at h17
  rw [sl_fr u 18 (by decide)] at h18
  rw [sl_fr u 19 (by decide)] at h19
  rw [sl_fr u 21 (by decide)] at h21
  rw [sl_fr u 23 (by decide)] at h23
  rw [sl_fr u 24 (by decide)] at h24
  intro J Q hJ hQ
  unfold fr
  rw [g0, g1, g2, g3, g9, g10, g11, h12, h13, h14, h15, h16, h17, h18, h19, h21, h23, h24]
  clear hf g0 g1 g2 g3 g9 g10 g11 h12 h13 h14 h15 h16 h17 h18 h19 h21 h23 h24
  conv => arg 2; whnf
  have HG := Lib.hid hG
  have HM := Lib.hid h
  have HL := Lib.hid hl
  have HH := Lib.hid hh
  have HPR := Lib.hid hpr
  have HI := Lib.hid hi
  clear hG h hl hh hpr hi
  have HSM := Lib.hid (show s ∈ L from hs ▸ List.getElem_mem hk)
  have HK := Lib.hid (show ∃ h : k < L.length, L[k] = s from ⟨hk, hs⟩)
  have HBL := Lib.hid hbl
  have HX := Lib.hid hx
  have hat := HL.out.atS (by have := HI.out; omega) HSM.out hx
  obtain ⟨ix, hix, hil, hB, hD, hMS, hwf⟩ := hat
  have HAT := Lib.hid (And.intro hB (And.intro hD hwf))
  have HIX := Lib.hid (And.intro hix hil)
  have HMS := Lib.hid hMS
  clear hbl hx hs hk hix hil hB hD hMS hwf
  have HLM := Lib.hid hm
  clear hm
  have HKm := Lib.hid (show k < m by rw [← HLM.out]; exact HK.out.1)
  have hix := HIX.out.1
  subst hix
  have HILT := Lib.hid HIX.out.2
  clear HIX
  have q : Go.bits .and .i64 n 7 = n % 8 := and_mask n 3 (by decide)
  rw [hn] at q
  clear hn
  have q0 := (blk_cell HH.out 0).trans (show _ = some (Value.int .i64 (ix : Int)) from rfl)
  have q1 := (blk_cell HH.out 1).trans (show _ = some (Value.int .i64 t) from rfl)
  go_wp2_with (fail)
  clear q q0 q1
  go_at_call 43
  obtain ⟨lh, hlh⟩ : ∃ lh, s.hs.length = lh := ⟨_, rfl⟩
  have HLH := Lib.hid hlh
  have hl9 : lh ≤ 1000 := by rw [← hlh]; have := HMS.out.hl; have := HI.out; omega
  have hpl : s.ps.length ≤ lh + 300 := by have := (HL.out.sps _ HSM.out).lc; have := HI.out; omega
  have HL9 := Lib.hid hl9
  clear hlh hl9
  (with_reducible refine (dcloseS HM.out.ds HL.out (by have := HI.out; omega) rfl HK.out HX.out HILT.out hpl).mono ?_)
  clear hpl
  rintro e w2 ⟨vr, rfl, hr2, hd2, hk2⟩
  obtain ⟨Ar, cr, rfl⟩ := Kd.R_slice hr2
  have HM2 := Lib.hid (HM.out.keeps hk2 hd2)
  have HH2 := Lib.hid (keeps_hn HH.out hk2)
  have HR2 := Lib.hid hr2
  have HPK := Lib.hid (And.intro HM.out.pool hk2)
  clear hr2 hd2 hk2 HM HH
  go_wp2_with (fail)
  go_at_call 14
  (with_reducible refine (code_nil _).mono ?_)
  rintro e w3 ⟨rfl, rfl⟩
  have q0 := (blk_cell HH2.out 0).trans (show _ = some (Value.int .i64 (ix : Int)) from rfl)
  have q1 := (blk_cell HH2.out 1).trans (show _ = some (Value.int .i64 t) from rfl)
  go_wp2_with (fail)
  clear q0 q1
  go_at_call 24
  (with_reducible refine (rfree_q rp w.heap.size N ps ix t _ HM2.out.pool HL.out.ply.lp HILT.out HAT.out.1).mono ?_)
  rintro e w5 ⟨rfl, hr5, hf5⟩
  have HM5 := Lib.hid (HM2.out.rpool hr5 hf5)
  have HR5 := Lib.hid (row_fe HR2.out HPK.out.1 HPK.out.2 hf5)
  clear hr5 hf5 HM2 HH2 HR2 HPK
  obtain ⟨DD, hDD⟩ : ∃ DD, (F (ix : Int)).2.D = DD := ⟨_, rfl⟩
  have HRH := Lib.hid (show RH DD s.hs s.rs from hDD ▸ HMS.out.rh)
  rw [hDD] at HR5 ⊢
  clear hDD
  have hSE := HM5.out.sl.all _ HSM.out
  have hbk := hSE.hd
  rw [HBL.out] at hbk
  obtain ⟨A8, c8, hv8⟩ := Kd.R_slice hSE.hr
  obtain ⟨A6, c6, hv6⟩ := Kd.R_slice hSE.rr
  obtain ⟨lr, hlr⟩ : ∃ lr, s.rs.length = lr := ⟨_, rfl⟩
  rw [HLH.out] at hv8
  rw [hlr] at hv6
  rw [hv8, hv6] at hbk
  have HBK := Lib.hid hbk
  have hrw := hSE.hr
  rw [hv8] at hrw
  have HROW := Lib.hid hrw
  have HCR : Hid (Kd.C (Kd.int .i64) w5 A6 lr s.rs) := Lib.hid (by
    have h := (Kd.R_reads' (show Kd.R (Kd.int .i64) 3 w5 w.heap.size (fun _ => True) (.slice A6 s.rs.length c6) s.rs from by rw [hlr, ← hv6]; exact hSE.rr)).2.2
    rwa [hlr] at h)
  have HLR := Lib.hid (show lr = lh by rw [← hlr, ← HMS.out.rh.len]; exact HLH.out)
  clear hSE hbk hv8 hv6 hlr hrw
  obtain ⟨MM, hM⟩ : ∃ MM, lh + 300 = MM := ⟨_, rfl⟩
  have HMM := Lib.hid hM
  rw [hM] at HR5 ⊢
  clear hM
  go_wp2_with (fail)
  go_loopg [31, 32] MM (fun gk v31 v32 wq => ∃ pl : Nat, v32 = .int .i64 (pl : Int) ∧ pl ≤ MM ∧ MM - pl ≤ gk ∧ Hid (Kd.R (Kd.int .i64) 3 wq w5.heap.size (fun _ => True) v31 (restOf DD pl)) ∧ Hid (Below w5.heap.size w5 wq))
  case atStart => exact ⟨0, rfl, by omega, by omega, Lib.hid (by rw [restOf_zero]; exact Kd.R_nil _ _ _ _ _), Lib.hid (Below.refl _ _)⟩
  case round =>
    obtain ⟨pl, rfl, hpl, hplk, HO, HB⟩ := hrel
    have cl9 : (lh : Int) ≤ 1000 := by have := HL9.out; omega
    have cp9 : (pl : Int) ≤ 1300 := by have := HMM.out; omega
    have cp0 : (0 : Int) ≤ (pl : Int) := by omega
    have cpt : (pl : Int) < 10000 := by have := HMM.out; omega
    have k5 := (HB.out.cell (cell_lt ((blk_cell HBK.out 5).trans (show _ = some (Value.slice A8 lh c8) from rfl)))).trans ((blk_cell HBK.out 5).trans (show _ = some (Value.slice A8 lh c8) from rfl))
    by_cases hpm : pl < MM
    · have cpm : (pl : Int) < (lh : Int) + 300 := by have := HMM.out; omega
      have HPL := Lib.hid (And.intro hpm hplk)
      clear hpl hplk hpm
      go_wp2_with (fail)
      clear k5
      go_loopg [31, 33] lh (fun gk v31 v33 wq => ∃ j : Nat, v33 = .int .i64 (j : Int) ∧ j ≤ lh ∧ lh - j ≤ gk ∧ Hid (Kd.R (Kd.int .i64) 3 wq w5.heap.size (fun _ => True) v31 (restOf DD pl ++ rowAt s.hs s.rs pl j)) ∧ Hid (Below w5.heap.size w5 wq))
      case atStart => exact ⟨0, rfl, by omega, by omega, Lib.hid (by rw [rowAt_zero, List.append_nil]; exact HO.out), HB⟩
      case round =>
        clear HO HB
        obtain ⟨j, rfl, hj, hjk, HO, HB⟩ := hrel
        have k5 := (HB.out.cell (cell_lt ((blk_cell HBK.out 5).trans (show _ = some (Value.slice A8 lh c8) from rfl)))).trans ((blk_cell HBK.out 5).trans (show _ = some (Value.slice A8 lh c8) from rfl))
        by_cases hjm : j < lh
        · have cj : (j : Int) < (lh : Int) := by omega
          have cj0 : (0 : Int) ≤ (j : Int) := by omega
          have cj9 : (j : Int) ≤ 1000 := by omega
          have hv := HROW.out
          obtain ⟨ad, c8', hv5⟩ := HR.form (by rw [← HLH.out] at hv; exact hv) (by have := HLH.out; omega)
          injection hv5 with e1 _ e2
          subst e1 e2
          have oj := HR.op (show HR w5 w.heap.size (.slice (some ad) s.hs.length c8) s.hs from by rw [HLH.out]; exact hv) j (by rw [HLH.out]; exact hjm)
          have x0 := (HB.out.cell (cell_lt oj.x0)).trans oj.x0
          obtain ⟨ar, hAr, kr⟩ := Kd.at_int HCR.out (j : Int) (by omega) (by have := HLR.out; omega)
          obtain ⟨rj, hrj⟩ : ∃ rj, s.rs.getD j 0 = rj := ⟨_, rfl⟩
          rw [Int.toNat_natCast, show rd s.rs (j : Int) = rj by rw [← hrj]; simp [rd]] at kr
          have kr2 := (HB.out.cell (cell_lt kr)).trans kr
          have k6 := (HB.out.cell (cell_lt ((blk_cell HBK.out 6).trans (show _ = some (Value.slice A6 lr c6) from rfl)))).trans ((blk_cell HBK.out 6).trans (show _ = some (Value.slice A6 lr c6) from rfl))
          rw [hAr] at k6
          have cjr : (j : Int) < (lr : Int) := by have := HLR.out; omega
          have HJ := Lib.hid (And.intro hjm hjk)
          have HXL := Lib.hid (show (restOf DD pl ++ rowAt s.hs s.rs pl j).length ≤ 2300 by rw [List.length_append]; have h1 := restOf_len DD pl; have h2 := rowAt_len s.hs s.rs pl j; have := HL9.out; omega)
          obtain ⟨xx, hxx⟩ : ∃ xx, (hat s.hs j).f0 = xx := ⟨_, rfl⟩
          rw [hxx] at x0
          obtain ⟨Aw, cw, hvw⟩ := Kd.R_slice HO.out
          by_cases hxp : xx = (pl : Int)
          · have HN := Lib.hid (rowAt_yes (rs := s.rs) (hxx.trans hxp))
            rw [hrj] at HN
            have HN2 := Lib.hid (show (restOf DD pl ++ rowAt s.hs s.rs pl j) ++ [rj] = restOf DD pl ++ rowAt s.hs s.rs pl (j + 1) by rw [HN.out, List.append_assoc])
            subst hxp
            clear hv oj kr hAr hrj hxx hj hjk HN
            subst hvw
            generalize restOf DD pl ++ rowAt s.hs s.rs pl j = X at *
            go_wp2_with (((with_reducible refine gate_builtin (b := .append) (xs := #[.tmp 366, .tmp 374]) rfl ?_); at_builtin; refine Kd.R_append (Kd.int .i64) (w0 := w5) w5.heap.size rfl (.tmp 366) (.tmp 374) 35 3 (.int .i64 0) 8 rfl Tryd.underlying35 info3 rfl (by decide) (by decide) (.slice Aw X.length cw) X rj [.int .i64 rj] (fun _ => True) (fun _ => False) rfl ?aX ?aP (fun _ hk => hk.elim) ?aF ?aO ?aB ?aS ?aL ?_; (case aX => first | rfl | (go_simp; done) | (go_simp; rfl)); (case aP => exact rfl); (case aB => exact HB.out); (case aF => exact (fun _ _ => trivial)); (case aO => exact HO.out); (case aS => exact HB.out.size); (case aL => (have := HXL.out; omega)); intro v8 w8 ho hb hg hat; have HO9 := Lib.hid ho; have HB9 := Lib.hid hb; clear ho hb hg hat))
            go_roundg (lh - (j + 1))
            case measure => have := HJ.out.1; have := HJ.out.2; omega
            case rel => exact ⟨j + 1, by simp, by have := HJ.out.1; omega, by omega, Lib.hid (by rw [← HN2.out]; exact HO9.out), HB9⟩
          · have HN := Lib.hid (rowAt_no (rs := s.rs) (pl := pl) (by rw [hxx]; exact hxp))
            have hxp2 : (xx == (pl : Int)) = false := by simpa using hxp
            clear hv oj kr hAr hrj hxx hj hjk hxp hvw
            go_wp2_with (fail)
            go_roundg (lh - (j + 1))
            case measure => have := HJ.out.1; have := HJ.out.2; omega
            case rel => exact ⟨j + 1, by simp, by have := HJ.out.1; omega, by omega, Lib.hid (by rw [HN.out]; exact HO.out), HB⟩
        · obtain rfl : lh = j := by omega
          have HN := Lib.hid (rowAt_all HRH.out pl)
          clear hjm hj hjk
          go_wp2_with (fail)
          go_roundg (MM - (pl + 1))
          case measure => have := HPL.out.1; have := HPL.out.2; omega
          case rel => exact ⟨pl + 1, by simp, by have := HPL.out.1; omega, by omega, Lib.hid (by rw [← HN.out, HLH.out]; exact HO.out), HB⟩
    · obtain rfl : MM = pl := by omega
      clear hpm hpl hplk
      have cpn : ¬ ((MM : Int) < (lh : Int) + 300) := by have := HMM.out; omega
      go_upto_region 74 with (fail)
      clear k5 cpn cl9 cp9 cp0 cpt
      have HMF := Lib.hid (HM5.out.below HB.out)
      have HRF := Lib.hid (Kd.R_below HR5.out HB.out)
      have HWF := Lib.hid (show w.heap.size ≤ wr.heap.size from HMF.out.size)
      obtain ⟨Aw, cw, hvw⟩ := Kd.R_slice HO.out
      subst hvw
      have HXL := Lib.hid (restOf_len DD MM)
      have HO2 := Lib.hid (HO.out)
      clear HO HB HR5 HM5 HROW HCR HLR HBK HRH
      generalize restOf DD MM = X at *
      generalize wr = wF at *
      have hrw := HMF.out.all
      have hlm : (L.map (fun s => s.bl)).length = m := by rw [List.length_map]; exact HLM.out
      have hrd := Kd.R_reads' hrw
      rw [hlm] at hrd
      have hkm := HKm.out
      have HJL2 := Lib.hid (show m ≤ 1000 by rw [← HLM.out]; have := HL.out.mt.len; have := HI.out; omega)
      have HCT : Hid (Kd.C kP wF A5 k ((L.map (fun s => s.bl)).take k)) := Lib.hid (by
        have h := Kd.C_take (m := k) (by rw [← hlm] at hrd; exact hrd.2.2) (by omega)
        have e : ((L.map (fun s => s.bl)).take k).length = k := by rw [List.length_take]; omega
        rwa [e] at h)
      obtain ⟨A9, hA9⟩ : ∃ A9, (if c5 = k + 1 then A5 else A5.map (·.add ((k + 1) * 1))) = A9 := ⟨_, rfl⟩
      have HCD : Hid (Kd.C kP wF A9 (m - (k + 1)) ((L.map (fun s => s.bl)).drop (k + 1))) := Lib.hid (by
        have h := Kd.C_drop (m := k + 1) (c := c5) (by rw [← hlm] at hrd; exact hrd.2.2) (by omega) (by have := hrd.2.1; omega)
        have e : ((L.map (fun s => s.bl)).drop (k + 1)).length = m - (k + 1) := by rw [List.length_drop, hlm]
        rw [e] at h
        rw [← hA9]; exact h)
      obtain ⟨i94, hi94, hz94, hs94, _⟩ := info_parts info94
      have cut1 := cut_to (P := Tryd.prog) 93 94 .i64 Tryd.underlying93 hi94 A5 m c5 (k : Int) (by omega) (by omega) hrd.2.1
      have cut2 := cut_from (P := Tryd.prog) 93 94 .i64 Tryd.underlying93 hi94 1 hs94 A5 m c5 ((k : Int) + 1) (by omega) (by omega)
      rw [show ((k : Int) + 1).toNat = k + 1 by omega, hA9] at cut2
      rw [Int.toNat_natCast] at cut1
      have cj9 : (k : Int) ≤ 1000 := by have := HJL2.out; omega
      have cj0 : (0 : Int) ≤ (k : Int) := by omega
      have cjn : (k : Int) + 1 ≤ (m : Int) := by omega
      have w1 : IntKind.i64.wrap ((k : Int) + 1) = (k : Int) + 1 := IntWalk.i64_in _ (by omega)
      clear hrw hlm hrd hkm hA9
      go_cut [12] from 376 to 385 (fun v12 wc => ∃ Ay ly cy, v12 = .slice Ay ly cy ∧ Hid (WM w wc d pg M rp N Ns ((cnt ps : Int) - 1) (freed ps ix) (freed ps ix) snaps cp (Dm.del (.int .i64 (ix : Int))) F (L.eraseIdx k) (.slice Ay ly cy) vo os) ∧ Below wF.heap.size wF wc)
      case first =>
        as_aux_lemma =>
          refine wp_region_noPanic ?_
          refine start_ (n := 11) (S := fun w' => True) (ds := []) #[false, false, false, false, false, false, false, false, false, false, false] (by kernel_rfl) rfl rfl trivial (fun hHeld => ?_)
          refine with_tabW deskD74.tab74 deskD74.bits74 (fun HT_ HW_ => ?_)
          refine pure_ (i := 1) (N := some 377) (v := ?_) (a' := ?_) #[false, true, false, false, false, false, false, false, false, false, false] rfl rfl (any_of HT_.out (by kernel_rfl)) (fun _ _ _ h => h) (Or.inl ⟨by rfl, ?_⟩) ?_ ?_
          rotate_left
          · intro w'
            go_simp
            with_reducible rfl
          rotate_left
          · simp only [Act.put, List.setIfInBounds_toArray, List.set_cons_zero, List.set_cons_succ]
            rfl
          refine pure_ (i := 2) (N := some 378) (v := ?_) (a' := ?_) #[false, true, true, false, false, false, false, false, false, false, false] rfl rfl (any_of HT_.out (by kernel_rfl)) (fun _ _ _ h => h) (Or.inl ⟨by rfl, ?_⟩) ?_ ?_
          rotate_left
          · intro w'
            go_simp
            with_reducible rfl
          rotate_left
          · simp only [Act.put, List.setIfInBounds_toArray, List.set_cons_zero, List.set_cons_succ]
            rfl
          refine pure_ (i := 3) (N := some 379) (v := ?_) (a' := ?_) #[false, true, true, true, false, false, false, false, false, false, false] rfl rfl (any_of HT_.out (by kernel_rfl)) (fun _ _ _ h => h) (Or.inl ⟨by rfl, ?_⟩) ?_ ?_
          rotate_left
          · intro w'
            go_simp
            with_reducible rfl
          rotate_left
          · simp only [Act.put, List.setIfInBounds_toArray, List.set_cons_zero, List.set_cons_succ]
            rfl
          refine pure_ (i := 5) (N := some 381) (v := ?_) (a' := ?_) #[false, true, true, true, false, true, false, false, false, false, false] rfl rfl (any_of HT_.out (by kernel_rfl)) (fun _ _ _ h => h) (Or.inl ⟨by rfl, ?_⟩) ?_ ?_
          rotate_left
          · intro w'
            go_simp
            with_reducible rfl
          rotate_left
          · simp only [Act.put, List.setIfInBounds_toArray, List.set_cons_zero, List.set_cons_succ]
            rfl
          refine pure_ (i := 6) (N := some 382) (v := ?_) (a' := ?_) #[false, true, true, true, false, true, true, false, false, false, false] rfl rfl (any_of HT_.out (by kernel_rfl)) (fun _ _ _ h => h) (Or.inl ⟨by rfl, ?_⟩) ?_ ?_
          rotate_left
          · intro w'
            go_simp
            with_reducible rfl
          rotate_left
          · simp only [Act.put, List.setIfInBounds_toArray, List.set_cons_zero, List.set_cons_succ]
            rfl
          refine pure_ (i := 7) (N := some 383) (v := ?_) (a' := ?_) #[false, true, true, true, false, true, true, true, false, false, false] rfl rfl (any_of HT_.out (by kernel_rfl)) (fun _ _ _ h => h) (Or.inl ⟨by rfl, ?_⟩) ?_ ?_
          rotate_left
          · intro w'
            go_simp
            with_reducible rfl
          rotate_left
          · simp only [Act.put, List.setIfInBounds_toArray, List.set_cons_zero, List.set_cons_succ]
            rfl
          refine pure_ (i := 8) (N := some 384) (v := ?_) (a' := ?_) #[false, true, true, true, false, true, true, true, true, false, false] rfl rfl (any_of HT_.out (by kernel_rfl)) (fun _ _ _ h => h) (Or.inl ⟨by rfl, ?_⟩) ?_ ?_
          rotate_left
          · intro w'
            go_simp
            with_reducible rfl
          rotate_left
          · simp only [Act.put, List.setIfInBounds_toArray, List.set_cons_zero, List.set_cons_succ]
            rfl
          refine one_ (i := 0) (N := some 376) #[true, true, true, true, false, true, true, true, true, false, false] rfl rfl (one_of HT_.out (by kernel_rfl)) (by decide) (fun K hK => ?_)
          refine value_ (w1 := ?_) (v := ?_) (by rfl) rfl ?_ ?_
          rotate_left 2
          · go_simp
            constructor
            · rfl
            · rfl
          refine hK.out _ _ trivial (fun hHeld => ?_)
          clear hK K
          refine norm_ (a' := ?_) ?_ ?_
          rotate_left
          · show Act.put _ (some 376) _ = _
            simp only [Act.put, List.setIfInBounds_toArray, List.set_cons_zero, List.set_cons_succ]
            rfl
          refine one_ (i := 4) (N := some 380) #[true, true, true, true, true, true, true, true, true, false, false] rfl rfl (one_of HT_.out (by kernel_rfl)) (by decide) (fun K hK => ?_)
          refine Kd.R_append_rows_step kP (Rr := kP.K _) (w0 := wF) wF.heap.size (by rfl) (.tmp 376) (.tmp 379) 93 94 (.pointer none) 8 (by rfl) Tryd.underlying93 info94 rfl (by decide) (by decide) (.slice (some ⟨wF.heap.size, 0, none⟩) 0 0) [] ((L.map (fun s => s.bl)).take k) A5 k c5 (fun _ => True) (fun _ => False) (by rfl) (by rfl) (R_empty94 (by first | exact heap_alloc_new _ _ | exact heap_at2 (by simp) | exact (Below.heap_alloc _ _ _ (by simp)).trans (heap_alloc_new _ _)) (Nat.le_refl _)) (Kd.C_below HCT.out (by repeat (first | (with_reducible first | exact Below.refl _ _ | apply below_alloc | apply pw_below_drewN | apply below_drew1) | exact Below.refl _ _))) (fun _ _ h => h) (fun _ h => h.elim) (fun _ _ => trivial) (by repeat (first | (with_reducible first | exact Below.refl _ _ | apply below_alloc | apply pw_below_drewN | apply below_drew1) | exact Below.refl _ _)) (below_size (by repeat (first | (with_reducible first | exact Below.refl _ _ | apply below_alloc | apply pw_below_drewN | apply below_drew1) | exact Below.refl _ _))) (by have := HJL2.out; simp only [List.length_nil]; omega) ?_
          intro v1 w1 ho hb hg hat
          obtain ⟨Ax, lx, cx, rfl⟩ := R_sl2 ho
          have HO1 := Lib.hid ho
          have HB1 := Lib.hid hb
          clear ho hb hg hat
          refine hK.out _ _ trivial (fun hHeld => ?_)
          clear hK K
          refine norm_ (a' := ?_) ?_ ?_
          rotate_left
          · show Act.put _ (some 380) _ = _
            simp only [Act.put, List.setIfInBounds_toArray, List.set_cons_zero, List.set_cons_succ]
            rfl
          refine one_ (i := 9) (N := some 385) #[true, true, true, true, true, true, true, true, true, true, false] rfl rfl (one_of HT_.out (by kernel_rfl)) (by decide) (fun K hK => ?_)
          refine Kd.R_append_rows_step kP (Rr := kP.K _) (w0 := wF) wF.heap.size (by rfl) (.tmp 380) (.tmp 384) 93 94 (.pointer none) 8 (by rfl) Tryd.underlying93 info94 rfl (by decide) (by decide) (.slice Ax lx cx) ((L.map (fun s => s.bl)).take k) ((L.map (fun s => s.bl)).drop (k + 1)) A9 (m - (k + 1)) (c5 - (k + 1)) (fun _ => True) (fun _ => False) (by rfl) (by rfl) HO1.out (Kd.C_below HCD.out HB1.out) (fun _ _ h => h) (fun _ h => h.elim) (fun _ _ => trivial) HB1.out (below_size HB1.out) (by have := HJL2.out; rw [List.length_take]; omega) ?_
          intro v2 w2 ho hb hg hat
          obtain ⟨Ay, ly, cy, rfl⟩ := R_sl2 ho
          have HO2 := Lib.hid ho
          have HB2 := Lib.hid hb
          clear ho hb hg hat
          refine hK.out _ _ trivial (fun hHeld => ?_)
          clear hK K
          refine norm_ (a' := ?_) ?_ ?_
          rotate_left
          · show Act.put _ (some 385) _ = _
            simp only [Act.put, List.setIfInBounds_toArray, List.set_cons_zero, List.set_cons_succ]
            rfl
          refine pure_ (i := 10) (N := some 12) (v := ?_) (a' := ?_) #[true, true, true, true, true, true, true, true, true, true, true] rfl rfl (any_of HT_.out (by kernel_rfl)) (fun _ _ _ h => h) (Or.inl ⟨by rfl, ?_⟩) ?_ ?_
          rotate_left
          · intro w'
            go_simp
            with_reducible rfl
          rotate_left
          · simp only [Act.put, List.setIfInBounds_toArray, List.set_cons_zero, List.set_cons_succ]
            rfl
          refine done_ (done_of HT_.out (by kernel_rfl)) ?_
          refine NoPanic.normal ?_
          go_wp2
          go_meet
          case rel => exact ⟨Ay, ly, cy, rfl, Lib.hid ((HMF.out.below HB2.out).erase (k := k) (by rw [eraseIdx_map_bl]; exact Kd.R_lower HO2.out HWF.out)), HB2⟩
      case rest =>
        obtain ⟨Ay, ly, cy, rfl, HMG, HBG⟩ := hcut
        have HRG := Lib.hid (Kd.R_below HRF.out HBG)
        have HOG := Lib.hid (Kd.R_below HO2.out HBG)
        clear HBG HRF HO2 HMF HCT HCD cut1 cut2 w1 cjn cj9 cj0 hi94 hz94 hs94
        generalize wc = wG at *
        go_wp2_with (fail)
        go_at_call 44
        (with_reducible refine (same_yes Ar Aw cr cw X _ (Kd.R_reads' HRG.out).2.2 (Kd.R_reads' HOG.out).2.2 (by have := HXL.out; have := HMM.out; have := HL9.out; omega)).mono ?_)
        rintro e w8 ⟨rfl, hb8⟩
        have HM8 := Lib.hid (HMG.out.below hb8)
        clear hb8 HMG HRG HOG
        go_wp2
        have HLF := Lib.hid (HL.out.close (j := k) HK.out.1 (by rw [HK.out.2]; exact HX.out.1) HILT.out)
        have he : (cnt ps : Int) - 1 = ((cnt (freed ps ix) : Nat) : Int) := by
          obtain ⟨i2, e2, h2, h3⟩ := hasB_lt HAT.out.1
          obtain rfl : ix = i2 := by omega
          rw [cnt_freed h2 h3]
          have := cnt_pos h2 h3
          omega
        refine Met.intro (hJ _ _ ?_)
        exact ⟨⟨⟨rfl, rfl⟩, rfl, rfl, rfl, rfl, rfl, rfl, rfl⟩, rfl, _, _, _, rfl, rfl, rfl, rfl, _, _, _, _, _, os, by have h := HM8.out; rw [he] at h; exact h, HLF.out⟩
end
end Go.Proofs.YtphaaagcdjpceaaDoor
namespace Go.Proofs.YtphaaagcdjpceaaDoor
open Go.RowKit Go.Extern.Stop Go.Stop Go.Extern Go.Proofs.YtphaaagcdjpceaaDoorW.PrintWords Go.Proofs.YtphaaagcdjpceaaDoorW.PrintLast Go.Proofs.YtphaaagcdjpceaaDoorW.PrintMore
set_option linter.unusedVariables false
theorem E94 : ∀ q, q ∈ 94 :: kP.E → q = 94 := fun q hq => by simpa [kP, Kd.scalar] using hq
theorem RP.lower {W : World} {base b2 r N : Nat} {ps : List S108} (h : RP W base r ps N) (hb : b2 ≤ base) : RP W b2 r ps N := by
  obtain ⟨h0, A1, c1, A2, c2, ts, bs, h1, h2, h3, h4⟩ := h
  exact ⟨Nat.le_trans hb h0, A1, c1, A2, c2, ts, bs, h1, Kd.R_lower h2 hb, Kd.R_lower h3 hb, h4⟩
theorem keeps_app94 {W W1 : World} {base : Nat} {ok : Nat → Prop} {v : Value} {bs : List Nat} (hr : Kd.R kP 94 W base ok v bs) (hg : W.grownBy W1 v.ownBlock) : Keeps [94] W W1 := ⟨hg.size, fun k cs t fr hk ht => hg.block k (blk_lt hk) (fun e => by
  obtain ⟨cells, hc⟩ := Kd.R_typed hr k e.symm
  rw [hk] at hc
  injection hc with hc; injection hc with _ hc _
  subst hc
  exact ht (by decide))⟩
theorem C_one94 {W : World} {H b : Nat} (h : W.heap[H]? = some (.cells #[.pointer (some ⟨b, 0, none⟩)] 94 (0, 0))) : Kd.C kP W (some ⟨H, 0, none⟩) 1 [b] := by
  refine Kd.C_of_reads (d := (0 : Nat)) ⟨rfl, by simp, fun _ => ⟨⟨H, 0, none⟩, rfl, fun i hi => ?_⟩⟩
  obtain rfl : i = 0 := by omega
  show W.cell? ⟨H, 0, none⟩ = some (.pointer (some ⟨b, 0, none⟩))
  exact (blk_cell h 0).trans rfl
theorem RP.kinds {W : World} {base r N : Nat} {ps : List S108} (h : RP W base r ps N) (k : Nat) (hk : k = r ∨ some k = bk W r 0 ∨ some k = bk W r 1) {cs : Array Value} {t : Nat} {fr : Nat × Nat} (e : W.heap[k]? = some (Obj.cells cs t fr)) : t = 111 ∨ t = 3 ∨ t = 4 := by
  obtain ⟨cs2, t2, fr2, hc, ht, _⟩ := h.typed k hk
  rw [e] at hc; injection hc with hc; injection hc with _ hc _
  subst hc; exact ht
theorem SE.kinds {W : World} {base N : Nat} {s : Seat} (h : SE W base N s) (k : Nat) (hk : sfoot W s k) {cs : Array Value} {t : Nat} {fr : Nat × Nat} (e : W.heap[k]? = some (Obj.cells cs t fr)) : t = 96 ∨ t = 111 ∨ t = 3 ∨ t = 4 ∨ t = 40 := by
  obtain ⟨cs2, t2, fr2, hc, ht, _⟩ := h.typed k hk
  rw [e] at hc; injection hc with hc; injection hc with _ hc _
  subst hc; exact ht
theorem open_mem {w W W1 : World} {d pg M rp N Ns : Nat} {n : Int} {ps qs : List S108} {snaps : Int} {cap : Nat} {D : DataW Unit} {F : Int → Nat × Sn} {L : List Seat} {va vo va' vo' : Value} {os : List S40} {z bl r : Nat} {x t : Int}
    (h : WM w W d pg M rp N Ns n ps qs snaps cap D F L va vo os) (hz : z = W.heap.size) (hT : Tch W W1 (fun k => va.ownBlock = some k ∨ vo.ownBlock = some k)) (hb : Below w.heap.size w W1)
    (hs : W1.heap[bl]? = some (.cells #[.int .i64 x, .int .i64 t, .bool false, .string (ByteArray.mk #[]), .pointer (some ⟨r, 0, none⟩), .slice none 0 0, .slice none 0 0] 96 (0, 0))) (hr : RP W1 z r [] Ns) (hl : z ≤ bl)
    (hva : Kd.R kP 94 W1 w.heap.size (fun _ => True) va' (L.map (fun s => s.bl) ++ [bl])) (hvo : HR W1 w.heap.size vo' (os ++ [⟨x, t⟩])) (hat : ∀ k, vo'.ownBlock = some k → vo.ownBlock = some k ∨ z ≤ k) :
    WM w W1 d pg M rp N Ns n ps qs snaps cap D F (L ++ [⟨bl, x, t, false, ByteArray.mk #[], r, [], .slice none 0 0, [], .slice none 0 0, []⟩]) va' vo' (os ++ [⟨x, t⟩]) := by
  subst hz
  have hkT : ∀ k, (va.ownBlock = some k ∨ vo.ownBlock = some k) → ∃ cells t, W.heap[k]? = some (.cells cells t (0, 0)) ∧ (t = 94 ∨ t = 40) := fun k hk => by
    rcases hk with e | e
    · obtain ⟨cells, hc⟩ := Kd.R_typed h.all k e; exact ⟨cells, 94, hc, .inl rfl⟩
    · obtain ⟨cells, hc⟩ := Kd.R_typed h.old k e; exact ⟨cells, 40, hc, .inr rfl⟩
  have hrp : ∀ k, (k = rp ∨ some k = bk W rp 0 ∨ some k = bk W rp 1) → W1.heap[k]? = W.heap[k]? := fun k hk => by
    obtain ⟨cs, t, fr, hc, ht, _⟩ := h.pool.typed k hk
    refine hT.blk k (blk_lt hc) (fun e => ?_)
    obtain ⟨cells, t2, hc2, ht2⟩ := hkT k e
    have := h.pool.kinds k hk hc2
    rcases ht2 with rfl | rfl <;> rcases this with e | e | e <;> exact absurd e (by decide)
  have hse : ∀ s ∈ L, ∀ k, sfoot W s k → W1.heap[k]? = W.heap[k]? := fun s hm k hk => by
    refine hT.blk k ((h.sl.all s hm).lt k hk) (fun e => ?_)
    rcases e with e | e
    · obtain ⟨cells, hc⟩ := Kd.R_typed h.all k e
      rcases (h.sl.all s hm).kinds k hk hc with e | e | e | e | e <;> exact absurd e (by decide)
    · exact h.ap2 s hm k hk e.symm
  have hsf : ∀ s ∈ L, ∀ k, sfoot W1 s k → sfoot W s k := fun s hm k hk => (sfoot_same (hse s hm _ (.inr (.inl (.inl rfl)))) k).1 hk
  have hnew : ∀ k, sfoot W1 (⟨bl, x, t, false, ByteArray.mk #[], r, [], .slice none 0 0, [], .slice none 0 0, []⟩ : Seat) k → W.heap.size ≤ k := fun k hk => by
    rcases hk with e | e | e | e
    · rw [e]; exact hl
    · obtain ⟨_, _, _, _, _, h5⟩ := hr.typed k e; exact h5
    · simp [Value.ownBlock] at e
    · simp [Value.ownBlock] at e
  have hSE : SE W1 w.heap.size Ns ⟨bl, x, t, false, ByteArray.mk #[], r, [], .slice none 0 0, [], .slice none 0 0, []⟩ := ⟨hs, hr.lower h.size, Kd.R_nil _ _ _ _ _, Kd.R_nil _ _ _ _ _, Nat.le_trans h.size hl⟩
  have hsl : SL W1 w.heap.size Ns L := h.sl.same hse
  refine ⟨h.ds.butT (S := fun k => va.ownBlock = some k ∨ vo.ownBlock = some k) (fun k hk => ?_) (fun k hk hn => hT.blk k hk hn) hb, h.pool.same hrp, hsl.snoc hSE (fun s hm k hk hk2 => ?_), ?_, hvo, fun s hm k hk => ?_, fun s hm k hk => ?_, fun s hm k hk => ?_⟩
  · obtain ⟨cells, t2, hc2, ht2⟩ := hkT k hk
    exact ⟨cells, t2, _, hc2, by rcases ht2 with rfl | rfl <;> decide⟩
  · have h1 := (h.sl.all s hm).lt k (hsf s hm k hk)
    have h2 := hnew k hk2
    omega
  · rw [List.map_append]; exact hva
  · rw [bk_same (hrp _ (.inl rfl)), bk_same (hrp _ (.inl rfl))]
    rcases List.mem_append.1 hm with hm | hm
    · exact h.ap1 s hm k (hsf s hm k hk)
    · simp at hm; subst hm
      have h1 := hnew k hk
      refine ⟨fun e => ?_, fun e => ?_, fun e => ?_⟩
      · obtain ⟨cs, t, fr, hc, _⟩ := h.pool.typed k (.inl e); have := blk_lt hc; omega
      · obtain ⟨cs, t, fr, hc, _⟩ := h.pool.typed k (.inr (.inl e)); have := blk_lt hc; omega
      · obtain ⟨cs, t, fr, hc, _⟩ := h.pool.typed k (.inr (.inr e)); have := blk_lt hc; omega
  · intro e
    rcases List.mem_append.1 hm with hm | hm
    · have h1 := hsf s hm k hk
      rcases hat k e.symm with e2 | e2
      · exact h.ap2 s hm k h1 e2.symm
      · have := (h.sl.all s hm).lt k h1; omega
    · simp at hm; subst hm
      obtain ⟨cells, hc⟩ := Kd.R_typed hvo k e.symm
      rcases hk with e2 | e2 | e2 | e2
      · have e3 : k = bl := e2
        subst e3
        rw [hs] at hc; injection hc with hc; injection hc with _ hc _
        exact absurd hc (by decide)
      · rcases hr.kinds k e2 hc with e3 | e3 | e3 <;> exact absurd e3 (by decide)
      · simp [Value.ownBlock] at e2
      · simp [Value.ownBlock] at e2
  · rcases List.mem_append.1 hm with hm | hm
    · rw [bk_same (hse s hm _ (.inr (.inl (.inl rfl))))]
      exact h.ap3 s hm k hk
    · simp at hm; subst hm
      simp [Value.ownBlock] at hk
def deskO.T56 : Bool × List (List Nat × List Nat) := (true, [([], []), ([], []), ([], []), ([2], [2]), ([1, 3], [1, 3]), ([4], [4]), ([5], [5]), ([0, 6, 3], [0, 6]), ([], []), ([], []), ([9], [9]), ([8, 10, 7], [8, 10]), ([7, 11, 0, 1, 2, 3, 4, 5, 6, 7], [0, 7]), ([11, 12, 0, 1, 2, 3, 4, 5, 6, 7, 8, 9, 10, 11, 12], [8, 11])])
def deskO.B56 : List Nat := [0, 0, 0, 4, 14, 30, 62, 127, 0, 0, 512, 2047, 4095, 8191]
theorem deskO.tab56 : rtab .any (opsOf Tryd.f11 56) = deskO.T56 := by kernel_rfl
theorem deskO.bits56 : waitsOk deskO.T56.2 deskO.B56 = true := by kernel_rfl
attribute [local go_sem high] eq40 ne40
section
variable {v0 v1 : Value} {A : Option Addr} {len cap : Nat} {B : Option Addr} {lenB capB : Nat} {v9 : Value} {d rp : Nat} {w W0 W : World} {va vo : Value} {i : Nat}
set_option maxHeartbeats 4000000 in
set_option maxRecDepth 100000 in
theorem p34o_f {a : Act} (hFD : FD a v0 v1 A len cap B lenB capB v9 d rp)
    {n : Int} {hb sb : Nat} {p t : Int} {M pg N Ns : Nat} {ps : List S108} {snaps : Int} {cp : Nat} {Dm : DataW Unit} {F : Int → Nat × Sn} {L : List Seat} {os : List S40} {v18 v19 v21 : Value} (hG : Good w) (h : WM w W d pg M rp N Ns (cnt ps : Int) ps ps snaps cp Dm F L va vo os) (hl : WL i N Ns ps os cp Dm F L) (hh : Hn W hb p t) (hpr : -9223372036854775808 ≤ p ∧ p ≤ 9223372036854775807) (hi : i < 50) (hN9 : N ≤ 10000) (hNs : Ns ≤ 10000) (hful : ff ps = N) (hn : n % 8 = 0) (h12 : sl a 12 = va) (h13 : sl a 13 = vo) (h14 : sl a 14 = .int .i64 (i : Int)) (h15 : sl a 15 = .int .i64 n) (h16 : sl a 16 = .pointer (some ⟨hb, 0, none⟩)) (h17 : sl a 17 = .pointer (some ⟨sb, 0, none⟩)) (h18 : sl a 18 = v18) (h19 : sl a 19 = v19) (h21 : sl a 21 = v21) (h23 : sl a 23 = .int .i64 0) (h24 : sl a 24 = .int .i64 3) :
    Does (cpart [1, 1, 1, 1, 1, 1, 1, 1, 1, 1, 0] cD) (fun a' w' => FD a' v0 v1 A len cap B lenB capB v9 d rp ∧ sl a' 14 = .int .i64 (i : Int) ∧ ∃ va vo ec, sl a' 12 = va ∧ sl a' 13 = vo ∧ sl a' 23 = .int .i64 ec ∧ sl a' 24 = .int .i64 ec ∧ St11 w w' d pg M rp N Ns snaps (i + 1) va vo) a W := by
  obtain ⟨hf, g0, g1, g2, g3, g9, g10, g11⟩ := hFD
  obtain ⟨u, rfl⟩ := hf.open
  rw [sl_fr u 0 (by decide)] at g0
  rw [sl_fr u 1 (by decide)] at g1
  rw [sl_fr u 2 (by decide)] at g2
  rw [sl_fr u 3 (by decide)] at g3
  rw [sl_fr u 9 (by decide)] at g9
  rw [sl_fr u 10 (by decide)] at g10
  rw [sl_fr u 11 (by decide)] at g11
  rw [sl_fr u 12 (by decide)] at h12
  rw [sl_fr u 13 (by decide)] at h13
  rw [sl_fr u 14 (by decide)] at h14
  rw [sl_fr u 15 (by decide)] at h15
  rw [sl_fr u 16 (by decide)] at h16
  rw [sl_fr u 17 (by decide)] at h17
  rw [sl_fr u 18 (by decide)] at h18
  rw [sl_fr u 19 (by decide)] at h19
  rw [sl_fr u 21 (by decide)] at h21
  rw [sl_fr u 23 (by decide)] at h23
  rw [sl_fr u 24 (by decide)] at h24
  intro J Q hJ hQ
  unfold fr
  rw [g0, g1, g2, g3, g9, g10, g11, h12, h13, h14, h15, h16, h17, h18, h19, h21, h23, h24]
  clear hf g0 g1 g2 g3 g9 g10 g11 h12 h13 h14 h15 h16 h17 h18 h19 h21 h23 h24
  conv => arg 2; whnf
  have HG := Lib.hid hG
  have HM := Lib.hid h
  have HL := Lib.hid hl
  have HH := Lib.hid hh
  have HPR := Lib.hid hpr
  have HI := Lib.hid hi
  clear hG h hl hh hpr hi
  have HNS := Lib.hid hNs
  have HN9 := Lib.hid hN9
  have HFU := Lib.hid hful
  clear hNs hN9 hful
  have q : Go.bits .and .i64 n 7 = n % 8 := and_mask n 3 (by decide)
  rw [hn] at q
  clear hn
  have hfu := HFU.out
  have hl1 : ps.length ≤ 1000 := by have := HL.out.ply.lc; have := HI.out; omega
  have HDF := Lib.hid (show DS w W d pg M ((ff ps : Nat) : Int) (cnt ps : Int) ps snaps cp Dm (Ns : Int) F by rw [hfu]; exact HM.out.ds)
  clear hfu
  go_wp2_with (fail)
  clear q
  go_at_call 40
  (with_reducible refine (dopen_full HDF.out HG.out (ff_le ps) (fun j hj => ff_tk hj) (fun h => ff_no h) hl1).mono ?_)
  rintro e w2 ⟨k2, rfl, hj, _, hb2⟩
  have B2 := below_alloc (Below.refl w2.heap.size w2) (.cells #[.int .i64 0, .int .i64 0] 40)
  have HM2 := Lib.hid ((HM.out.below hb2).below B2)
  have HJ2 := Lib.hid (hj.below B2)
  have HA2 := Lib.hid (show Hn (w2.alloc (.cells #[.int .i64 0, .int .i64 0] 40)) w2.heap.size 0 0 from heap_alloc_new w2 _)
  clear hb2 hj B2 HM HH HDF hl1
  go_wp2_with (fail)
  generalize w2.alloc (.cells #[.int .i64 0, .int .i64 0] 40) = w3 at *
  generalize w2.heap.size = ab at *
  go_at_call 21
  (with_reducible refine (rtake_full rp w.heap.size N ps _ HM2.out.pool HN9.out (fun j hj => ff_tk (by rw [HFU.out]; exact hj))).mono ?_)
  rintro e w6 ⟨rfl, hb6⟩
  have B6 := below_alloc (Below.refl w6.heap.size w6) (.cells #[.int .i64 0, .int .i64 0] 40)
  have HM6 := Lib.hid ((HM2.out.below hb6).below B6)
  have HJ6 := Lib.hid ((HJ2.out.below hb6).below B6)
  have HA6 := Lib.hid (show Hn _ _ _ _ from blk_below (blk_below HA2.out hb6) B6)
  have HB6 := Lib.hid (show Hn (w6.alloc (.cells #[.int .i64 0, .int .i64 0] 40)) w6.heap.size 0 0 from heap_alloc_new w6 _)
  clear hb6 B6 HM2 HA2 HJ2
  go_upto_region 53 with (fail)
  generalize w6.alloc (.cells #[.int .i64 0, .int .i64 0] 40) = w7 at *
  generalize w6.heap.size = bb at *
  go_wp2_with (fail)
  go_at_call 14
  (with_reducible refine (code_join k2 2 _ (good_et' (HM6.out.ds.good HG.out)) HJ6.out).mono ?_)
  rintro e w8 ⟨rfl, hb8⟩
  have HM8 := Lib.hid (HM6.out.below hb8)
  have HA8 := Lib.hid (show Hn _ _ _ _ from blk_below HA6.out hb8)
  have HB8 := Lib.hid (show Hn _ _ _ _ from blk_below HB6.out hb8)
  clear hb8 HM6 HJ6 HA6 HB6
  have a0 := (blk_cell HA8.out 0).trans (show _ = some (Value.int .i64 0) from rfl)
  have a1 := (blk_cell HA8.out 1).trans (show _ = some (Value.int .i64 0) from rfl)
  have b0 := (blk_cell HB8.out 0).trans (show _ = some (Value.int .i64 0) from rfl)
  have b1 := (blk_cell HB8.out 1).trans (show _ = some (Value.int .i64 0) from rfl)
  go_wp2
  refine Met.intro (hJ _ _ ?_)
  exact ⟨⟨⟨rfl, rfl⟩, rfl, rfl, rfl, rfl, rfl, rfl, rfl⟩, rfl, _, _, _, rfl, rfl, rfl, rfl, ps, cp, Dm, F, L, os, HM8.out, HL.out.up⟩
set_option maxHeartbeats 4000000 in
set_option maxRecDepth 100000 in
theorem p34o_y {a : Act} (hFD : FD a v0 v1 A len cap B lenB capB v9 d rp)
    {A5 A7 : Option Addr} {c5 m c7 lo : Nat} {n : Int} {hb sb : Nat} {p t : Int} {M pg N Ns : Nat} {ps : List S108} {snaps : Int} {cp : Nat} {Dm : DataW Unit} {F : Int → Nat × Sn} {L : List Seat} {os : List S40} {v18 v19 v21 : Value} (hG : Good w) (h : WM w W d pg M rp N Ns (cnt ps : Int) ps ps snaps cp Dm F L (.slice A5 m c5) (.slice A7 lo c7) os) (hl : WL i N Ns ps os cp Dm F L) (hh : Hn W hb p t) (hpr : -9223372036854775808 ≤ p ∧ p ≤ 9223372036854775807) (hi : i < 50) (hN9 : N ≤ 10000) (hNs : min (max snaps 0) 10000 = (Ns : Int)) (hful : ff ps < N) (hn : n % 8 = 0) (hv1 : v1 = .int .i64 snaps) (h12 : sl a 12 = (.slice A5 m c5)) (h13 : sl a 13 = (.slice A7 lo c7)) (h14 : sl a 14 = .int .i64 (i : Int)) (h15 : sl a 15 = .int .i64 n) (h16 : sl a 16 = .pointer (some ⟨hb, 0, none⟩)) (h17 : sl a 17 = .pointer (some ⟨sb, 0, none⟩)) (h18 : sl a 18 = v18) (h19 : sl a 19 = v19) (h21 : sl a 21 = v21) (h23 : sl a 23 = .int .i64 0) (h24 : sl a 24 = .int .i64 3) :
    Does (cpart [1, 1, 1, 1, 1, 1, 1, 1, 1, 1, 0] cD) (fun a' w' => FD a' v0 v1 A len cap B lenB capB v9 d rp ∧ sl a' 14 = .int .i64 (i : Int) ∧ ∃ va vo ec, sl a' 12 = va ∧ sl a' 13 = vo ∧ sl a' 23 = .int .i64 ec ∧ sl a' 24 = .int .i64 ec ∧ St11 w w' d pg M rp N Ns snaps (i + 1) va vo) a W := by
  subst hv1
  obtain ⟨hf, g0, g1, g2, g3, g9, g10, g11⟩ := hFD
  obtain ⟨u, rfl⟩ := hf.open
  rw [sl_fr u 0 (by decide)] at g0
  rw [sl_fr u 1 (by decide)] at g1
  rw [sl_fr u 2 (by decide)] at g2
  rw [sl_fr u 3 (by decide)] at g3
  rw [sl_fr u 9 (by decide)] at g9
  rw [sl_fr u 10 (by decide)] at g10
  rw [sl_fr u 11 (by decide)] at g11
  rw [sl_fr u 12 (by decide)] at h12
  rw [sl_fr u 13 (by decide)] at h13
  rw [sl_fr u 14 (by decide)] at h14
  rw [sl_fr u 15 (by decide)] at h15
  rw [sl_fr u 16 (by decide)] at h16
  rw [sl_fr u 17 (by decide)] at h17
  rw [sl_fr u 18 (by decide)] at h18
  rw [sl_fr u 19 (by decide)] at h19
  rw [sl_fr u 21 (by decide)] at h21
  rw [sl_fr u 23 (by decide)] at h23
  rw [sl_fr u 24 (by decide)] at h24
  intro J Q hJ hQ
  unfold fr
  rw [g0, g1, g2, g3, g9, g10, g11, h12, h13, h14, h15, h16, h17, h18, h19, h21, h23, h24]
  clear hf g0 g1 g2 g3 g9 g10 g11 h12 h13 h14 h15 h16 h17 h18 h19 h21 h23 h24
  conv => arg 2; whnf
  have HG := Lib.hid hG
  have HM := Lib.hid h
  have HL := Lib.hid hl
  have HH := Lib.hid hh
  have HPR := Lib.hid hpr
  have HI := Lib.hid hi
  clear hG h hl hh hpr hi
  have HNS := Lib.hid hNs
  have HN9 := Lib.hid hN9
  have HFU := Lib.hid hful
  clear hNs hN9 hful
  have q : Go.bits .and .i64 n 7 = n % 8 := and_mask n 3 (by decide)
  rw [hn] at q
  clear hn
  have HTB := Lib.hid (HL.out.ply.bound (ff_le ps))
  have HIL := Lib.hid (ff_le ps)
  have HTK := Lib.hid (fun (j : Nat) (hj : j < ff ps) => ff_tk (ps := ps) hj)
  have HNO := Lib.hid (fun (h : ff ps < ps.length) => ff_no (ps := ps) h)
  obtain ⟨i0, hi0⟩ : ∃ i0, ff ps = i0 := ⟨_, rfl⟩
  rw [hi0] at HFU HTB HIL HTK HNO
  have HI0 := Lib.hid hi0
  clear hi0
  obtain ⟨t0, ht0⟩ : ∃ t0, turnOf ps i0 = t0 := ⟨_, rfl⟩
  have HT0 := Lib.hid ht0
  have HIM := Lib.hid HM.out.ds.ds.dk.mp.isMap
  have hno := HL.out.mt.free HNO.out
  have hcap : cp < 1000 := by have := HL.out.cap; have := HI.out; omega
  have hmo : (i0 : Int) ≠ (N : Int) := by have := HFU.out; omega
  have hl1 : ps.length ≤ 1000 := by have := HL.out.ply.lc; have := HI.out; omega
  have hb0 : 0 ≤ turnOf ps i0 := HTB.out.1
  have hb1 : turnOf ps i0 ≤ 1000000 := by have := HTB.out.2; have := HI.out; omega
  have hc0 : -1000000 ≤ (cnt ps : Int) := by omega
  have hc1 : (cnt ps : Int) ≤ 1000000 := by have := cnt_le ps; have := HL.out.ply.lc; have := HI.out; omega
  have HBB0 := Lib.hid (And.intro hb0 hb1)
  go_wp2_with (fail)
  clear q
  go_at_call 40
  (with_reducible refine (dopen HM.out.ds HNS.out.symm i0 hno hcap HIL.out HTK.out HNO.out hmo hl1 hb0 hb1 hc0 hc1).mono ?_)
  rw [ht0]
  clear hno hcap hmo hl1 hb0 hb1 hc0 hc1 ht0
  rintro e w2 ⟨sb2, sg, mb, rfl, hd2, hk2⟩
  have HM2a := HM.out.keeps hk2 hd2
  have B2 := below_alloc (Below.refl w2.heap.size w2) (.cells #[.int .i64 (i0 : Int), .int .i64 t0] 40)
  have HM2 := Lib.hid (HM2a.below B2)
  have HA2 := Lib.hid (show Hn (w2.alloc (.cells #[.int .i64 (i0 : Int), .int .i64 t0] 40)) w2.heap.size (i0 : Int) t0 from heap_alloc_new w2 _)
  have HVL := Lib.hid (show ∀ k, (Value.slice A7 lo c7).ownBlock = some k → k < w2.heap.size from Kd.R_lt HM2a.old)
  clear hd2 hk2 B2 HM HH HM2a
  go_wp2_with (fail)
  generalize w2.alloc (.cells #[.int .i64 (i0 : Int), .int .i64 t0] 40) = w3 at *
  generalize w2.heap.size = ab at *
  go_at_call 21
  (with_reducible refine (rtake_q rp w.heap.size N ps i0 _ HM2.out.pool HN9.out HIL.out HFU.out HTK.out HNO.out HBB0.out.1 HBB0.out.2).mono ?_)
  rw [HT0.out]
  rintro e w6 ⟨rfl, hr6, hf6⟩
  have B6 := below_alloc (Below.refl w6.heap.size w6) (.cells #[.int .i64 (i0 : Int), .int .i64 t0] 40)
  have HM6 := Lib.hid ((HM2.out.rpool hr6 hf6).below B6)
  have HA6 := Lib.hid (show Hn _ _ _ _ from blk_below (HA2.out.fd hf6.fd) B6)
  have HB6 := Lib.hid (show Hn (w6.alloc (.cells #[.int .i64 (i0 : Int), .int .i64 t0] 40)) w6.heap.size (i0 : Int) t0 from heap_alloc_new w6 _)
  have HAB := Lib.hid (show ab < w6.heap.size from Nat.lt_of_lt_of_le (blk_lt HA2.out) hf6.fd.1.size)
  clear hr6 hf6 B6 HM2 HA2
  go_upto_region 53 with (fail)
  generalize w6.alloc (.cells #[.int .i64 (i0 : Int), .int .i64 t0] 40) = w7 at *
  generalize w6.heap.size = bb at *
  go_wp2_with (fail)
  go_at_call 14
  (with_reducible refine (code_nil _).mono ?_)
  rintro e w8 ⟨rfl, rfl⟩
  go_upto_region 56 with (fail)
  have HNE := Lib.hid (show some ab ≠ (Value.slice A7 lo c7).ownBlock ∧ some bb ≠ (Value.slice A7 lo c7).ownBlock from ⟨fun e => by have := HVL.out _ e.symm; omega, fun e => by have := HVL.out _ e.symm; have := HAB.out; omega⟩)
  have HMD := Lib.hid (HM6.out.below (below_drew1 (Below.refl w8.heap.size w8)))
  have HA := Lib.hid (show Hn w8.drew ab (i0 : Int) t0 from HA6.out)
  have HB := Lib.hid (show Hn w8.drew bb (i0 : Int) t0 from HB6.out)
  have b0 : w8.drew.cell? ⟨bb, 0, none⟩ = some (.int .i64 (i0 : Int)) := (blk_cell HB6.out 0).trans rfl
  have b1 : w8.drew.cell? ⟨bb, 1, none⟩ = some (.int .i64 t0) := (blk_cell HB6.out 1).trans rfl
  have HLN := Lib.hid (show L.length ≤ 1000 by have := HL.out.mt.len; have := HI.out; omega)
  have HLO := Lib.hid (show os.length ≤ 1000 by have := HL.out.ply.lh; have := HI.out; omega)
  have HVA := Lib.hid HMD.out.all
  have HVO := Lib.hid HMD.out.old
  have HBW := Lib.hid HMD.out.ds.bl
  have HT := Lib.hid (Tch.refl w8.drew (fun k => (Value.slice A5 m c5).ownBlock = some k ∨ (Value.slice A7 lo c7).ownBlock = some k))
  have HLV := Lib.hid trivial
  obtain ⟨z7, hz7⟩ : ∃ z7, z7 = w8.drew.heap.size := ⟨_, rfl⟩
  have HZE := Lib.hid hz7
  have HZ := Lib.hid (Nat.le_of_eq hz7)
  clear hz7 HM6 HA6 HB6
  go_cut [12, 13] from 303 to 314 (fun v12 v13 wc => ∃ Ax lx cx Ay ly cy, v12 = .slice Ax lx cx ∧ v13 = .slice Ay ly cy ∧ ∃ bl r1, Hid (WM w wc d pg M rp N Ns ((cnt ps : Int) + 1) (tookL ps i0) (tookL ps i0) snaps (cp + 1) (Dm.put (.int .i64 (i0 : Int)) (.lit (.int .i64 (sb2 : Int)))) (upF F (i0 : Int) (sb2, newS sg mb)) (L ++ [⟨bl, (i0 : Int), t0, false, ByteArray.mk #[], r1, [], .slice none 0 0, [], .slice none 0 0, []⟩]) (.slice Ax lx cx) (.slice Ay ly cy) (os ++ [⟨(i0 : Int), t0⟩])) ∧ Hid (Hn wc ab (i0 : Int) t0) ∧ Hid (Hn wc bb (i0 : Int) t0))
  case first =>
    as_aux_lemma =>
      refine wp_region_noPanic ?_
      refine start_ (n := 14) (S := fun w' => w'.cell? ⟨bb, 0, none⟩ = some (.int .i64 (i0 : Int)) ∧ w'.cell? ⟨bb, 1, none⟩ = some (.int .i64 t0)) (ds := []) #[false, false, false, false, false, false, false, false, false, false, false, false, false, false] (by kernel_rfl) rfl rfl ⟨b0, b1⟩ (fun hHeld => ?_)
      refine with_tabW deskO.tab56 deskO.bits56 (fun HT_ HW_ => ?_)
      generalize w8.drew = wd at *
      refine pure_ (i := 0) (N := some 303) (v := ?_) (a' := ?_) #[true, false, false, false, false, false, false, false, false, false, false, false, false, false] rfl rfl (any_of HT_.out (by kernel_rfl)) (fun _ _ _ h => h) (Or.inl ⟨by rfl, ?_⟩) ?_ ?_
      rotate_left
      · intro w'
        go_simp
        with_reducible rfl
      rotate_left
      · simp only [Act.put, List.setIfInBounds_toArray, List.set_cons_zero, List.set_cons_succ]
        rfl
      refine pure_ (i := 2) (N := some 305) (v := ?_) (a' := ?_) #[true, false, true, false, false, false, false, false, false, false, false, false, false, false] rfl rfl (any_of HT_.out (by kernel_rfl)) (fun _ _ _ h => h) (Or.inl ⟨by rfl, ?_⟩) ?_ ?_
      rotate_left
      · intro w'
        go_simp
        with_reducible rfl
      rotate_left
      · simp only [Act.put, List.setIfInBounds_toArray, List.set_cons_zero, List.set_cons_succ]
        rfl
      refine pure_ (i := 8) (N := some 311) (v := ?_) (a' := ?_) #[true, false, true, false, false, false, false, false, true, false, false, false, false, false] rfl rfl (any_of HT_.out (by kernel_rfl)) (fun _ _ _ h => h) (Or.inl ⟨by rfl, ?_⟩) ?_ ?_
      rotate_left
      · intro w'
        go_simp
        with_reducible rfl
      rotate_left
      · simp only [Act.put, List.setIfInBounds_toArray, List.set_cons_zero, List.set_cons_succ]
        rfl
      refine take_ (i := 1) (N := some 304) (v := ?_) (a' := ?_) #[true, true, true, false, false, false, false, false, true, false, false, false, false, false] rfl rfl (take_ofW HT_.out HW_.out (by kernel_rfl)) (fun _ _ _ h => h) (Or.inl ⟨by rfl, ?_⟩) hHeld ?_ ?_
      rotate_left
      · rintro w' ⟨s0, s1⟩
        go_simp
        with_reducible rfl
      rotate_left
      · simp only [Act.put, List.setIfInBounds_toArray, List.set_cons_zero, List.set_cons_succ]
        rfl
      refine take_ (i := 9) (N := some 312) (v := ?_) (a' := ?_) #[true, true, true, false, false, false, false, false, true, true, false, false, false, false] rfl rfl (take_ofW HT_.out HW_.out (by kernel_rfl)) (fun _ _ _ h => h) (Or.inl ⟨by rfl, ?_⟩) hHeld ?_ ?_
      rotate_left
      · rintro w' ⟨s0, s1⟩
        go_simp
        with_reducible rfl
      rotate_left
      · simp only [Act.put, List.setIfInBounds_toArray, List.set_cons_zero, List.set_cons_succ]
        rfl
      refine two_ (i := 3) (j := 10) (Ni := some 306) (Nj := some 313) #[true, true, true, true, false, false, false, false, true, true, false, false, false, false] #[true, true, true, false, false, false, false, false, true, true, true, false, false, false] rfl rfl rfl rfl (two_of HT_.out (by kernel_rfl)) (by decide) (by decide) (fun K hK => ?_) (fun K hK => ?_)
      · skip
        refine goes_ Tryd.func20 (by kernel_rfl) rfl #[.int .i64 snaps] (by rfl) rfl rfl (by simp only [List.map_toArray, List.map_cons, List.map_nil]; rfl) ?_
        with_reducible refine (newref_calls snaps Ns HNS.out _).mono ?_
        rintro e x3 ⟨r1, rfl, hr1, hbl⟩
        refine ⟨_, rfl, ?_⟩
        have hk : Keeps [] wd x3 := Keeps.below hbl
        replace HA := Lib.hid (show Hn x3 ab (i0 : Int) t0 from (hk.2 ab _ _ _ HA.out (by decide)).trans HA.out)
        replace HB := Lib.hid (show Hn x3 bb (i0 : Int) t0 from (hk.2 bb _ _ _ HB.out (by decide)).trans HB.out)
        have HR := Lib.hid (hr1.lower (show z7 ≤ wd.heap.size from Nat.le_trans HZ.out HT.out.sz))
        replace HT := Lib.hid (HT.out.below hbl)
        replace HBW := Lib.hid (below_step HBW.out hbl)
        replace HVA := Lib.hid (Kd.R_below HVA.out hbl)
        replace HVO := Lib.hid (Kd.R_below HVO.out hbl)
        clear hr1 hbl hk
        refine hK.out _ _ ⟨(blk_cell HB.out 0).trans rfl, (blk_cell HB.out 1).trans rfl⟩ (fun hHeld => ?_)
        clear hK K
        refine norm_ (a' := ?_) ?_ ?_
        rotate_left
        · show Act.put _ (some 306) _ = _
          simp only [Act.put, List.setIfInBounds_toArray, List.set_cons_zero, List.set_cons_succ]
          rfl
        refine pure_ (i := 4) (N := some 307) (v := ?_) (a' := ?_) #[true, true, true, true, true, false, false, false, true, true, false, false, false, false] rfl rfl (any_of HT_.out (by kernel_rfl)) (fun _ _ _ h => h) (Or.inl ⟨by rfl, ?_⟩) ?_ ?_
        rotate_left
        · intro w'
          go_simp
          with_reducible rfl
        rotate_left
        · simp only [Act.put, List.setIfInBounds_toArray, List.set_cons_zero, List.set_cons_succ]
          rfl
        refine two_ (i := 5) (j := 10) (Ni := some 308) (Nj := some 313) #[true, true, true, true, true, true, false, false, true, true, false, false, false, false] #[true, true, true, true, true, false, false, false, true, true, true, false, false, false] rfl rfl rfl rfl (two_of HT_.out (by kernel_rfl)) (by decide) (by decide) (fun K hK => ?_) (fun K hK => ?_)
        · skip
          refine value_ (w1 := x3.alloc (.cells #[.int .i64 (i0 : Int), .int .i64 t0, .bool false, .string (ByteArray.mk #[]), .pointer (some ⟨r1, 0, none⟩), .slice none 0 0, .slice none 0 0] 96)) (v := .pointer (some ⟨x3.heap.size, 0, none⟩)) (by rfl) rfl ?_ ?_
          · first | (go_simp; done) | (go_simp; rfl)
          have hnew := heap_alloc_new x3 (.cells #[.int .i64 (i0 : Int), .int .i64 t0, .bool false, .string (ByteArray.mk #[]), .pointer (some ⟨r1, 0, none⟩), .slice none 0 0, .slice none 0 0] 96)
          have hbl := below_alloc (Below.refl x3.heap.size x3) (.cells #[.int .i64 (i0 : Int), .int .i64 t0, .bool false, .string (ByteArray.mk #[]), .pointer (some ⟨r1, 0, none⟩), .slice none 0 0, .slice none 0 0] 96)
          have hk : Keeps [] x3 (x3.alloc (.cells #[.int .i64 (i0 : Int), .int .i64 t0, .bool false, .string (ByteArray.mk #[]), .pointer (some ⟨r1, 0, none⟩), .slice none 0 0, .slice none 0 0] 96)) := Keeps.below hbl
          replace HA := Lib.hid (show Hn (x3.alloc (.cells #[.int .i64 (i0 : Int), .int .i64 t0, .bool false, .string (ByteArray.mk #[]), .pointer (some ⟨r1, 0, none⟩), .slice none 0 0, .slice none 0 0] 96)) ab (i0 : Int) t0 from (hk.2 ab _ _ _ HA.out (by decide)).trans HA.out)
          replace HB := Lib.hid (show Hn (x3.alloc (.cells #[.int .i64 (i0 : Int), .int .i64 t0, .bool false, .string (ByteArray.mk #[]), .pointer (some ⟨r1, 0, none⟩), .slice none 0 0, .slice none 0 0] 96)) bb (i0 : Int) t0 from (hk.2 bb _ _ _ HB.out (by decide)).trans HB.out)
          replace HR := Lib.hid (HR.out.keeps hk (by decide))
          have HTS := Lib.hid HT.out.sz
          replace HT := Lib.hid (HT.out.below hbl)
          replace HBW := Lib.hid (below_step HBW.out hbl)
          replace HVA := Lib.hid (Kd.R_below HVA.out hbl)
          replace HVO := Lib.hid (Kd.R_below HVO.out hbl)
          have HS := Lib.hid hnew
          have HLB := Lib.hid (show z7 ≤ x3.heap.size from Nat.le_trans HZ.out HTS.out)
          clear hnew hbl hk HTS
          generalize x3.alloc (.cells #[.int .i64 (i0 : Int), .int .i64 t0, .bool false, .string (ByteArray.mk #[]), .pointer (some ⟨r1, 0, none⟩), .slice none 0 0, .slice none 0 0] 96) = x3_5 at *
          generalize x3.heap.size = bl at HS HLB ⊢
          refine hK.out _ _ ⟨(blk_cell HB.out 0).trans rfl, (blk_cell HB.out 1).trans rfl⟩ (fun hHeld => ?_)
          clear hK K
          refine norm_ (a' := ?_) ?_ ?_
          rotate_left
          · show Act.put _ (some 308) _ = _
            simp only [Act.put, List.setIfInBounds_toArray, List.set_cons_zero, List.set_cons_succ]
            rfl
          refine two_ (i := 6) (j := 10) (Ni := some 309) (Nj := some 313) #[true, true, true, true, true, true, true, false, true, true, false, false, false, false] #[true, true, true, true, true, true, false, false, true, true, true, false, false, false] rfl rfl rfl rfl (two_of HT_.out (by kernel_rfl)) (by decide) (by decide) (fun K hK => ?_) (fun K hK => ?_)
          · skip
            refine value_ (w1 := x3_5.alloc (.cells #[.pointer (some ⟨bl, 0, none⟩)] 94)) (v := .slice (some ⟨x3_5.heap.size, 0, none⟩) 1 1) (by rfl) rfl ?_ ?_
            · first | (go_simp; done) | (go_simp; rfl)
            have hnew := heap_alloc_new x3_5 (.cells #[.pointer (some ⟨bl, 0, none⟩)] 94)
            have hbl := below_alloc (Below.refl x3_5.heap.size x3_5) (.cells #[.pointer (some ⟨bl, 0, none⟩)] 94)
            have hk : Keeps [] x3_5 (x3_5.alloc (.cells #[.pointer (some ⟨bl, 0, none⟩)] 94)) := Keeps.below hbl
            replace HA := Lib.hid (show Hn (x3_5.alloc (.cells #[.pointer (some ⟨bl, 0, none⟩)] 94)) ab (i0 : Int) t0 from (hk.2 ab _ _ _ HA.out (by decide)).trans HA.out)
            replace HB := Lib.hid (show Hn (x3_5.alloc (.cells #[.pointer (some ⟨bl, 0, none⟩)] 94)) bb (i0 : Int) t0 from (hk.2 bb _ _ _ HB.out (by decide)).trans HB.out)
            replace HR := Lib.hid (HR.out.keeps hk (by decide))
            replace HS := Lib.hid ((hk.2 bl _ _ _ HS.out (by decide)).trans HS.out)
            have HTS := Lib.hid HT.out.sz
            replace HT := Lib.hid (HT.out.below hbl)
            replace HBW := Lib.hid (below_step HBW.out hbl)
            replace HVA := Lib.hid (Kd.R_below HVA.out hbl)
            replace HVO := Lib.hid (Kd.R_below HVO.out hbl)
            have HP := Lib.hid hnew
            have HLP := Lib.hid (show z7 ≤ x3_5.heap.size from Nat.le_trans HZ.out HTS.out)
            clear hnew hbl hk HTS
            generalize x3_5.alloc (.cells #[.pointer (some ⟨bl, 0, none⟩)] 94) = x3_5_6 at *
            generalize x3_5.heap.size = p6 at HP HLP ⊢
            refine hK.out _ _ ⟨(blk_cell HB.out 0).trans rfl, (blk_cell HB.out 1).trans rfl⟩ (fun hHeld => ?_)
            clear hK K
            refine norm_ (a' := ?_) ?_ ?_
            rotate_left
            · show Act.put _ (some 309) _ = _
              simp only [Act.put, List.setIfInBounds_toArray, List.set_cons_zero, List.set_cons_succ]
              rfl
            refine two_ (i := 7) (j := 10) (Ni := some 310) (Nj := some 313) #[true, true, true, true, true, true, true, true, true, true, false, false, false, false] #[true, true, true, true, true, true, true, false, true, true, true, false, false, false] rfl rfl rfl rfl (two_of HT_.out (by kernel_rfl)) (by decide) (by decide) (fun K hK => ?_) (fun K hK => ?_)
            · skip
              refine Kd.R_append_rows_step kP (Rr := kP.K _) (w0 := w) w.heap.size (by rfl) (.tmp 303) (.tmp 309) 93 94 (.pointer none) 8 (by rfl) Tryd.underlying93 info94 rfl (by decide) (by decide) (.slice A5 m c5) (L.map (fun s => s.bl)) [bl] (some ⟨p6, 0, none⟩) 1 1 (fun _ => True) (fun _ => False) (by rfl) (by rfl) HVA.out (C_one94 HP.out) (fun _ _ h => h) (fun _ h => h.elim) (fun _ _ => trivial) HBW.out HBW.out.size (by rw [List.length_map]; have := HLN.out; omega) ?_
              intro vx x3_5_6_7 ho hb hg hat
              obtain ⟨Ax, lx, cx, rfl⟩ := R_sl2 ho
              have hk := keeps_app94 HVA.out hg
              replace HA := Lib.hid (show Hn x3_5_6_7 ab (i0 : Int) t0 from (hk.2 ab _ _ _ HA.out (by decide)).trans HA.out)
              replace HB := Lib.hid (show Hn x3_5_6_7 bb (i0 : Int) t0 from (hk.2 bb _ _ _ HB.out (by decide)).trans HB.out)
              replace HR := Lib.hid (HR.out.keeps hk (by decide))
              replace HS := Lib.hid ((hk.2 bl _ _ _ HS.out (by decide)).trans HS.out)
              replace HT := Lib.hid (HT.out.grown hg (fun k hk => .inl (.inl hk)))
              replace HVO := Lib.hid (R_keeps HVO.out hk (fun q hq => by rw [E40 q hq]; decide))
              replace HVA := Lib.hid ho
              replace HBW := Lib.hid hb
              clear ho hb hg hat hk HP
              refine hK.out _ _ ⟨(blk_cell HB.out 0).trans rfl, (blk_cell HB.out 1).trans rfl⟩ (fun hHeld => ?_)
              clear hK K
              refine norm_ (a' := ?_) ?_ ?_
              rotate_left
              · show Act.put _ (some 310) _ = _
                simp only [Act.put, List.setIfInBounds_toArray, List.set_cons_zero, List.set_cons_succ]
                rfl
              refine one_ (i := 10) (N := some 313) #[true, true, true, true, true, true, true, true, true, true, true, false, false, false] rfl rfl (one_of HT_.out (by kernel_rfl)) (by decide) (fun K hK => ?_)
              refine value_ (w1 := x3_5_6_7.alloc (.cells #[.int .i64 (i0 : Int), .int .i64 t0] 40)) (v := .slice (some ⟨x3_5_6_7.heap.size, 0, none⟩) 1 1) (by rfl) rfl ?_ ?_
              · first | (go_simp; done) | (go_simp; rfl)
              have hnew := heap_alloc_new x3_5_6_7 (.cells #[.int .i64 (i0 : Int), .int .i64 t0] 40)
              have hbl := below_alloc (Below.refl x3_5_6_7.heap.size x3_5_6_7) (.cells #[.int .i64 (i0 : Int), .int .i64 t0] 40)
              have hk : Keeps [] x3_5_6_7 (x3_5_6_7.alloc (.cells #[.int .i64 (i0 : Int), .int .i64 t0] 40)) := Keeps.below hbl
              replace HA := Lib.hid (show Hn (x3_5_6_7.alloc (.cells #[.int .i64 (i0 : Int), .int .i64 t0] 40)) ab (i0 : Int) t0 from (hk.2 ab _ _ _ HA.out (by decide)).trans HA.out)
              replace HB := Lib.hid (show Hn (x3_5_6_7.alloc (.cells #[.int .i64 (i0 : Int), .int .i64 t0] 40)) bb (i0 : Int) t0 from (hk.2 bb _ _ _ HB.out (by decide)).trans HB.out)
              replace HR := Lib.hid (HR.out.keeps hk (by decide))
              replace HS := Lib.hid ((hk.2 bl _ _ _ HS.out (by decide)).trans HS.out)
              have HTS := Lib.hid HT.out.sz
              replace HT := Lib.hid (HT.out.below hbl)
              replace HBW := Lib.hid (below_step HBW.out hbl)
              replace HVA := Lib.hid (Kd.R_below HVA.out hbl)
              replace HVO := Lib.hid (Kd.R_below HVO.out hbl)
              have HE := Lib.hid (show Hn (x3_5_6_7.alloc (.cells #[.int .i64 (i0 : Int), .int .i64 t0] 40)) x3_5_6_7.heap.size (i0 : Int) t0 from hnew)
              have HLE := Lib.hid (show z7 ≤ x3_5_6_7.heap.size from Nat.le_trans HZ.out HTS.out)
              clear hnew hbl hk HTS
              generalize x3_5_6_7.alloc (.cells #[.int .i64 (i0 : Int), .int .i64 t0] 40) = x3_5_6_7_10 at *
              generalize x3_5_6_7.heap.size = e10 at HE HLE ⊢
              refine hK.out _ _ ⟨(blk_cell HB.out 0).trans rfl, (blk_cell HB.out 1).trans rfl⟩ (fun hHeld => ?_)
              clear hK K
              refine norm_ (a' := ?_) ?_ ?_
              rotate_left
              · show Act.put _ (some 313) _ = _
                simp only [Act.put, List.setIfInBounds_toArray, List.set_cons_zero, List.set_cons_succ]
                rfl
              refine one_ (i := 11) (N := some 314) #[true, true, true, true, true, true, true, true, true, true, true, true, false, false] rfl rfl (one_of HT_.out (by kernel_rfl)) (by decide) (fun K hK => ?_)
              refine Kd.R_append_rows_step k40 (Rr := k40.K _) (w0 := w) w.heap.size (by rfl) (.tmp 311) (.tmp 313) 38 40 (.agg #[(.int .i64 0), (.int .i64 0)]) 16 (by rfl) Tryd.underlying38 info40 rfl (by decide) (by decide) (.slice A7 lo c7) os [⟨(i0 : Int), t0⟩] (some ⟨e10, 0, none⟩) 1 1 (fun _ => True) (fun _ => False) (by rfl) (by rfl) HVO.out (C_one40 HE.out) (fun _ _ h => h) (fun _ h => h.elim) (fun _ _ => trivial) HBW.out HBW.out.size (by have := HLO.out; omega) ?_
              intro vx x3_5_6_7_10_11 ho hb hg hat
              obtain ⟨Ay, ly, cy, rfl⟩ := R_sl2 ho
              have hk := keeps_app40 HVO.out hg
              replace HR := Lib.hid (HR.out.keeps hk (by decide))
              replace HS := Lib.hid ((hk.2 bl _ _ _ HS.out (by decide)).trans HS.out)
              replace HA := Lib.hid (show Hn x3_5_6_7_10_11 ab (i0 : Int) t0 from (hg.block ab (blk_lt HA.out) HNE.out.1).trans HA.out)
              replace HB := Lib.hid (show Hn x3_5_6_7_10_11 bb (i0 : Int) t0 from (hg.block bb (blk_lt HB.out) HNE.out.2).trans HB.out)
              have HAT := Lib.hid (own_new (b := z7) hat (Nat.le_trans HZ.out HT.out.sz))
              replace HT := Lib.hid (HT.out.grown hg (fun k hk => .inl (.inr hk)))
              replace HVA := Lib.hid (R_keeps HVA.out hk (fun q hq => by rw [E94 q hq]; decide))
              replace HVO := Lib.hid ho
              replace HBW := Lib.hid hb
              clear ho hb hg hat hk HE
              refine hK.out _ _ ⟨(blk_cell HB.out 0).trans rfl, (blk_cell HB.out 1).trans rfl⟩ (fun hHeld => ?_)
              clear hK K
              refine norm_ (a' := ?_) ?_ ?_
              rotate_left
              · show Act.put _ (some 314) _ = _
                simp only [Act.put, List.setIfInBounds_toArray, List.set_cons_zero, List.set_cons_succ]
                rfl
              refine pure_ (i := 12) (N := some 12) (v := ?_) (a' := ?_) #[true, true, true, true, true, true, true, true, true, true, true, true, true, false] rfl rfl (any_of HT_.out (by kernel_rfl)) (fun _ _ _ h => h) (Or.inl ⟨by rfl, ?_⟩) ?_ ?_
              rotate_left
              · intro w'
                go_simp
                with_reducible rfl
              rotate_left
              · simp only [Act.put, List.setIfInBounds_toArray, List.set_cons_zero, List.set_cons_succ]
                rfl
              refine pure_ (i := 13) (N := some 13) (v := ?_) (a' := ?_) #[true, true, true, true, true, true, true, true, true, true, true, true, true, true] rfl rfl (any_of HT_.out (by kernel_rfl)) (fun _ _ _ h => h) (Or.inl ⟨by rfl, ?_⟩) ?_ ?_
              rotate_left
              · intro w'
                go_simp
                with_reducible rfl
              rotate_left
              · simp only [Act.put, List.setIfInBounds_toArray, List.set_cons_zero, List.set_cons_succ]
                rfl
              refine done_ (done_of HT_.out (by kernel_rfl)) ?_
              refine NoPanic.normal ?_
              go_wp2
              go_meet
              case rel => exact ⟨Ax, lx, cx, Ay, ly, cy, rfl, rfl, bl, r1, Lib.hid (open_mem HMD.out HZE.out HT.out HBW.out HS.out HR.out HLB.out HVA.out HVO.out HAT.out), HA, HB⟩
            · skip
              refine value_ (w1 := x3_5_6.alloc (.cells #[.int .i64 (i0 : Int), .int .i64 t0] 40)) (v := .slice (some ⟨x3_5_6.heap.size, 0, none⟩) 1 1) (by rfl) rfl ?_ ?_
              · first | (go_simp; done) | (go_simp; rfl)
              have hnew := heap_alloc_new x3_5_6 (.cells #[.int .i64 (i0 : Int), .int .i64 t0] 40)
              have hbl := below_alloc (Below.refl x3_5_6.heap.size x3_5_6) (.cells #[.int .i64 (i0 : Int), .int .i64 t0] 40)
              have hk : Keeps [] x3_5_6 (x3_5_6.alloc (.cells #[.int .i64 (i0 : Int), .int .i64 t0] 40)) := Keeps.below hbl
              replace HA := Lib.hid (show Hn (x3_5_6.alloc (.cells #[.int .i64 (i0 : Int), .int .i64 t0] 40)) ab (i0 : Int) t0 from (hk.2 ab _ _ _ HA.out (by decide)).trans HA.out)
              replace HB := Lib.hid (show Hn (x3_5_6.alloc (.cells #[.int .i64 (i0 : Int), .int .i64 t0] 40)) bb (i0 : Int) t0 from (hk.2 bb _ _ _ HB.out (by decide)).trans HB.out)
              replace HR := Lib.hid (HR.out.keeps hk (by decide))
              replace HS := Lib.hid ((hk.2 bl _ _ _ HS.out (by decide)).trans HS.out)
              replace HP := Lib.hid ((hk.2 p6 _ _ _ HP.out (by decide)).trans HP.out)
              have HTS := Lib.hid HT.out.sz
              replace HT := Lib.hid (HT.out.below hbl)
              replace HBW := Lib.hid (below_step HBW.out hbl)
              replace HVA := Lib.hid (Kd.R_below HVA.out hbl)
              replace HVO := Lib.hid (Kd.R_below HVO.out hbl)
              have HE := Lib.hid (show Hn (x3_5_6.alloc (.cells #[.int .i64 (i0 : Int), .int .i64 t0] 40)) x3_5_6.heap.size (i0 : Int) t0 from hnew)
              have HLE := Lib.hid (show z7 ≤ x3_5_6.heap.size from Nat.le_trans HZ.out HTS.out)
              clear hnew hbl hk HTS
              generalize x3_5_6.alloc (.cells #[.int .i64 (i0 : Int), .int .i64 t0] 40) = x3_5_6_10 at *
              generalize x3_5_6.heap.size = e10 at HE HLE ⊢
              refine hK.out _ _ ⟨(blk_cell HB.out 0).trans rfl, (blk_cell HB.out 1).trans rfl⟩ (fun hHeld => ?_)
              clear hK K
              refine norm_ (a' := ?_) ?_ ?_
              rotate_left
              · show Act.put _ (some 313) _ = _
                simp only [Act.put, List.setIfInBounds_toArray, List.set_cons_zero, List.set_cons_succ]
                rfl
              refine one_ (i := 7) (N := some 310) #[true, true, true, true, true, true, true, true, true, true, true, false, false, false] rfl rfl (one_of HT_.out (by kernel_rfl)) (by decide) (fun K hK => ?_)
              refine Kd.R_append_rows_step kP (Rr := kP.K _) (w0 := w) w.heap.size (by rfl) (.tmp 303) (.tmp 309) 93 94 (.pointer none) 8 (by rfl) Tryd.underlying93 info94 rfl (by decide) (by decide) (.slice A5 m c5) (L.map (fun s => s.bl)) [bl] (some ⟨p6, 0, none⟩) 1 1 (fun _ => True) (fun _ => False) (by rfl) (by rfl) HVA.out (C_one94 HP.out) (fun _ _ h => h) (fun _ h => h.elim) (fun _ _ => trivial) HBW.out HBW.out.size (by rw [List.length_map]; have := HLN.out; omega) ?_
              intro vx x3_5_6_10_7 ho hb hg hat
              obtain ⟨Ax, lx, cx, rfl⟩ := R_sl2 ho
              have hk := keeps_app94 HVA.out hg
              replace HA := Lib.hid (show Hn x3_5_6_10_7 ab (i0 : Int) t0 from (hk.2 ab _ _ _ HA.out (by decide)).trans HA.out)
              replace HB := Lib.hid (show Hn x3_5_6_10_7 bb (i0 : Int) t0 from (hk.2 bb _ _ _ HB.out (by decide)).trans HB.out)
              replace HE := Lib.hid (show Hn x3_5_6_10_7 e10 (i0 : Int) t0 from (hk.2 e10 _ _ _ HE.out (by decide)).trans HE.out)
              replace HR := Lib.hid (HR.out.keeps hk (by decide))
              replace HS := Lib.hid ((hk.2 bl _ _ _ HS.out (by decide)).trans HS.out)
              replace HT := Lib.hid (HT.out.grown hg (fun k hk => .inl (.inl hk)))
              replace HVO := Lib.hid (R_keeps HVO.out hk (fun q hq => by rw [E40 q hq]; decide))
              replace HVA := Lib.hid ho
              replace HBW := Lib.hid hb
              clear ho hb hg hat hk HP
              refine hK.out _ _ ⟨(blk_cell HB.out 0).trans rfl, (blk_cell HB.out 1).trans rfl⟩ (fun hHeld => ?_)
              clear hK K
              refine norm_ (a' := ?_) ?_ ?_
              rotate_left
              · show Act.put _ (some 310) _ = _
                simp only [Act.put, List.setIfInBounds_toArray, List.set_cons_zero, List.set_cons_succ]
                rfl
              refine one_ (i := 11) (N := some 314) #[true, true, true, true, true, true, true, true, true, true, true, true, false, false] rfl rfl (one_of HT_.out (by kernel_rfl)) (by decide) (fun K hK => ?_)
              refine Kd.R_append_rows_step k40 (Rr := k40.K _) (w0 := w) w.heap.size (by rfl) (.tmp 311) (.tmp 313) 38 40 (.agg #[(.int .i64 0), (.int .i64 0)]) 16 (by rfl) Tryd.underlying38 info40 rfl (by decide) (by decide) (.slice A7 lo c7) os [⟨(i0 : Int), t0⟩] (some ⟨e10, 0, none⟩) 1 1 (fun _ => True) (fun _ => False) (by rfl) (by rfl) HVO.out (C_one40 HE.out) (fun _ _ h => h) (fun _ h => h.elim) (fun _ _ => trivial) HBW.out HBW.out.size (by have := HLO.out; omega) ?_
              intro vx x3_5_6_10_7_11 ho hb hg hat
              obtain ⟨Ay, ly, cy, rfl⟩ := R_sl2 ho
              have hk := keeps_app40 HVO.out hg
              replace HR := Lib.hid (HR.out.keeps hk (by decide))
              replace HS := Lib.hid ((hk.2 bl _ _ _ HS.out (by decide)).trans HS.out)
              replace HA := Lib.hid (show Hn x3_5_6_10_7_11 ab (i0 : Int) t0 from (hg.block ab (blk_lt HA.out) HNE.out.1).trans HA.out)
              replace HB := Lib.hid (show Hn x3_5_6_10_7_11 bb (i0 : Int) t0 from (hg.block bb (blk_lt HB.out) HNE.out.2).trans HB.out)
              have HAT := Lib.hid (own_new (b := z7) hat (Nat.le_trans HZ.out HT.out.sz))
              replace HT := Lib.hid (HT.out.grown hg (fun k hk => .inl (.inr hk)))
              replace HVA := Lib.hid (R_keeps HVA.out hk (fun q hq => by rw [E94 q hq]; decide))
              replace HVO := Lib.hid ho
              replace HBW := Lib.hid hb
              clear ho hb hg hat hk HE
              refine hK.out _ _ ⟨(blk_cell HB.out 0).trans rfl, (blk_cell HB.out 1).trans rfl⟩ (fun hHeld => ?_)
              clear hK K
              refine norm_ (a' := ?_) ?_ ?_
              rotate_left
              · show Act.put _ (some 314) _ = _
                simp only [Act.put, List.setIfInBounds_toArray, List.set_cons_zero, List.set_cons_succ]
                rfl
              refine pure_ (i := 12) (N := some 12) (v := ?_) (a' := ?_) #[true, true, true, true, true, true, true, true, true, true, true, true, true, false] rfl rfl (any_of HT_.out (by kernel_rfl)) (fun _ _ _ h => h) (Or.inl ⟨by rfl, ?_⟩) ?_ ?_
              rotate_left
              · intro w'
                go_simp
                with_reducible rfl
              rotate_left
              · simp only [Act.put, List.setIfInBounds_toArray, List.set_cons_zero, List.set_cons_succ]
                rfl
              refine pure_ (i := 13) (N := some 13) (v := ?_) (a' := ?_) #[true, true, true, true, true, true, true, true, true, true, true, true, true, true] rfl rfl (any_of HT_.out (by kernel_rfl)) (fun _ _ _ h => h) (Or.inl ⟨by rfl, ?_⟩) ?_ ?_
              rotate_left
              · intro w'
                go_simp
                with_reducible rfl
              rotate_left
              · simp only [Act.put, List.setIfInBounds_toArray, List.set_cons_zero, List.set_cons_succ]
                rfl
              refine done_ (done_of HT_.out (by kernel_rfl)) ?_
              refine NoPanic.normal ?_
              go_wp2
              go_meet
              case rel => exact ⟨Ax, lx, cx, Ay, ly, cy, rfl, rfl, bl, r1, Lib.hid (open_mem HMD.out HZE.out HT.out HBW.out HS.out HR.out HLB.out HVA.out HVO.out HAT.out), HA, HB⟩
          · skip
            refine value_ (w1 := x3_5.alloc (.cells #[.int .i64 (i0 : Int), .int .i64 t0] 40)) (v := .slice (some ⟨x3_5.heap.size, 0, none⟩) 1 1) (by rfl) rfl ?_ ?_
            · first | (go_simp; done) | (go_simp; rfl)
            have hnew := heap_alloc_new x3_5 (.cells #[.int .i64 (i0 : Int), .int .i64 t0] 40)
            have hbl := below_alloc (Below.refl x3_5.heap.size x3_5) (.cells #[.int .i64 (i0 : Int), .int .i64 t0] 40)
            have hk : Keeps [] x3_5 (x3_5.alloc (.cells #[.int .i64 (i0 : Int), .int .i64 t0] 40)) := Keeps.below hbl
            replace HA := Lib.hid (show Hn (x3_5.alloc (.cells #[.int .i64 (i0 : Int), .int .i64 t0] 40)) ab (i0 : Int) t0 from (hk.2 ab _ _ _ HA.out (by decide)).trans HA.out)
            replace HB := Lib.hid (show Hn (x3_5.alloc (.cells #[.int .i64 (i0 : Int), .int .i64 t0] 40)) bb (i0 : Int) t0 from (hk.2 bb _ _ _ HB.out (by decide)).trans HB.out)
            replace HR := Lib.hid (HR.out.keeps hk (by decide))
            replace HS := Lib.hid ((hk.2 bl _ _ _ HS.out (by decide)).trans HS.out)
            have HTS := Lib.hid HT.out.sz
            replace HT := Lib.hid (HT.out.below hbl)
            replace HBW := Lib.hid (below_step HBW.out hbl)
            replace HVA := Lib.hid (Kd.R_below HVA.out hbl)
            replace HVO := Lib.hid (Kd.R_below HVO.out hbl)
            have HE := Lib.hid (show Hn (x3_5.alloc (.cells #[.int .i64 (i0 : Int), .int .i64 t0] 40)) x3_5.heap.size (i0 : Int) t0 from hnew)
            have HLE := Lib.hid (show z7 ≤ x3_5.heap.size from Nat.le_trans HZ.out HTS.out)
            clear hnew hbl hk HTS
            generalize x3_5.alloc (.cells #[.int .i64 (i0 : Int), .int .i64 t0] 40) = x3_5_10 at *
            generalize x3_5.heap.size = e10 at HE HLE ⊢
            refine hK.out _ _ ⟨(blk_cell HB.out 0).trans rfl, (blk_cell HB.out 1).trans rfl⟩ (fun hHeld => ?_)
            clear hK K
            refine norm_ (a' := ?_) ?_ ?_
            rotate_left
            · show Act.put _ (some 313) _ = _
              simp only [Act.put, List.setIfInBounds_toArray, List.set_cons_zero, List.set_cons_succ]
              rfl
            refine one_ (i := 6) (N := some 309) #[true, true, true, true, true, true, true, false, true, true, true, false, false, false] rfl rfl (one_of HT_.out (by kernel_rfl)) (by decide) (fun K hK => ?_)
            refine value_ (w1 := x3_5_10.alloc (.cells #[.pointer (some ⟨bl, 0, none⟩)] 94)) (v := .slice (some ⟨x3_5_10.heap.size, 0, none⟩) 1 1) (by rfl) rfl ?_ ?_
            · first | (go_simp; done) | (go_simp; rfl)
            have hnew := heap_alloc_new x3_5_10 (.cells #[.pointer (some ⟨bl, 0, none⟩)] 94)
            have hbl := below_alloc (Below.refl x3_5_10.heap.size x3_5_10) (.cells #[.pointer (some ⟨bl, 0, none⟩)] 94)
            have hk : Keeps [] x3_5_10 (x3_5_10.alloc (.cells #[.pointer (some ⟨bl, 0, none⟩)] 94)) := Keeps.below hbl
            replace HA := Lib.hid (show Hn (x3_5_10.alloc (.cells #[.pointer (some ⟨bl, 0, none⟩)] 94)) ab (i0 : Int) t0 from (hk.2 ab _ _ _ HA.out (by decide)).trans HA.out)
            replace HB := Lib.hid (show Hn (x3_5_10.alloc (.cells #[.pointer (some ⟨bl, 0, none⟩)] 94)) bb (i0 : Int) t0 from (hk.2 bb _ _ _ HB.out (by decide)).trans HB.out)
            replace HE := Lib.hid (show Hn (x3_5_10.alloc (.cells #[.pointer (some ⟨bl, 0, none⟩)] 94)) e10 (i0 : Int) t0 from (hk.2 e10 _ _ _ HE.out (by decide)).trans HE.out)
            replace HR := Lib.hid (HR.out.keeps hk (by decide))
            replace HS := Lib.hid ((hk.2 bl _ _ _ HS.out (by decide)).trans HS.out)
            have HTS := Lib.hid HT.out.sz
            replace HT := Lib.hid (HT.out.below hbl)
            replace HBW := Lib.hid (below_step HBW.out hbl)
            replace HVA := Lib.hid (Kd.R_below HVA.out hbl)
            replace HVO := Lib.hid (Kd.R_below HVO.out hbl)
            have HP := Lib.hid hnew
            have HLP := Lib.hid (show z7 ≤ x3_5_10.heap.size from Nat.le_trans HZ.out HTS.out)
            clear hnew hbl hk HTS
            generalize x3_5_10.alloc (.cells #[.pointer (some ⟨bl, 0, none⟩)] 94) = x3_5_10_6 at *
            generalize x3_5_10.heap.size = p6 at HP HLP ⊢
            refine hK.out _ _ ⟨(blk_cell HB.out 0).trans rfl, (blk_cell HB.out 1).trans rfl⟩ (fun hHeld => ?_)
            clear hK K
            refine norm_ (a' := ?_) ?_ ?_
            rotate_left
            · show Act.put _ (some 309) _ = _
              simp only [Act.put, List.setIfInBounds_toArray, List.set_cons_zero, List.set_cons_succ]
              rfl
            refine one_ (i := 7) (N := some 310) #[true, true, true, true, true, true, true, true, true, true, true, false, false, false] rfl rfl (one_of HT_.out (by kernel_rfl)) (by decide) (fun K hK => ?_)
            refine Kd.R_append_rows_step kP (Rr := kP.K _) (w0 := w) w.heap.size (by rfl) (.tmp 303) (.tmp 309) 93 94 (.pointer none) 8 (by rfl) Tryd.underlying93 info94 rfl (by decide) (by decide) (.slice A5 m c5) (L.map (fun s => s.bl)) [bl] (some ⟨p6, 0, none⟩) 1 1 (fun _ => True) (fun _ => False) (by rfl) (by rfl) HVA.out (C_one94 HP.out) (fun _ _ h => h) (fun _ h => h.elim) (fun _ _ => trivial) HBW.out HBW.out.size (by rw [List.length_map]; have := HLN.out; omega) ?_
            intro vx x3_5_10_6_7 ho hb hg hat
            obtain ⟨Ax, lx, cx, rfl⟩ := R_sl2 ho
            have hk := keeps_app94 HVA.out hg
            replace HA := Lib.hid (show Hn x3_5_10_6_7 ab (i0 : Int) t0 from (hk.2 ab _ _ _ HA.out (by decide)).trans HA.out)
            replace HB := Lib.hid (show Hn x3_5_10_6_7 bb (i0 : Int) t0 from (hk.2 bb _ _ _ HB.out (by decide)).trans HB.out)
            replace HE := Lib.hid (show Hn x3_5_10_6_7 e10 (i0 : Int) t0 from (hk.2 e10 _ _ _ HE.out (by decide)).trans HE.out)
            replace HR := Lib.hid (HR.out.keeps hk (by decide))
            replace HS := Lib.hid ((hk.2 bl _ _ _ HS.out (by decide)).trans HS.out)
            replace HT := Lib.hid (HT.out.grown hg (fun k hk => .inl (.inl hk)))
            replace HVO := Lib.hid (R_keeps HVO.out hk (fun q hq => by rw [E40 q hq]; decide))
            replace HVA := Lib.hid ho
            replace HBW := Lib.hid hb
            clear ho hb hg hat hk HP
            refine hK.out _ _ ⟨(blk_cell HB.out 0).trans rfl, (blk_cell HB.out 1).trans rfl⟩ (fun hHeld => ?_)
            clear hK K
            refine norm_ (a' := ?_) ?_ ?_
            rotate_left
            · show Act.put _ (some 310) _ = _
              simp only [Act.put, List.setIfInBounds_toArray, List.set_cons_zero, List.set_cons_succ]
              rfl
            refine one_ (i := 11) (N := some 314) #[true, true, true, true, true, true, true, true, true, true, true, true, false, false] rfl rfl (one_of HT_.out (by kernel_rfl)) (by decide) (fun K hK => ?_)
            refine Kd.R_append_rows_step k40 (Rr := k40.K _) (w0 := w) w.heap.size (by rfl) (.tmp 311) (.tmp 313) 38 40 (.agg #[(.int .i64 0), (.int .i64 0)]) 16 (by rfl) Tryd.underlying38 info40 rfl (by decide) (by decide) (.slice A7 lo c7) os [⟨(i0 : Int), t0⟩] (some ⟨e10, 0, none⟩) 1 1 (fun _ => True) (fun _ => False) (by rfl) (by rfl) HVO.out (C_one40 HE.out) (fun _ _ h => h) (fun _ h => h.elim) (fun _ _ => trivial) HBW.out HBW.out.size (by have := HLO.out; omega) ?_
            intro vx x3_5_10_6_7_11 ho hb hg hat
            obtain ⟨Ay, ly, cy, rfl⟩ := R_sl2 ho
            have hk := keeps_app40 HVO.out hg
            replace HR := Lib.hid (HR.out.keeps hk (by decide))
            replace HS := Lib.hid ((hk.2 bl _ _ _ HS.out (by decide)).trans HS.out)
            replace HA := Lib.hid (show Hn x3_5_10_6_7_11 ab (i0 : Int) t0 from (hg.block ab (blk_lt HA.out) HNE.out.1).trans HA.out)
            replace HB := Lib.hid (show Hn x3_5_10_6_7_11 bb (i0 : Int) t0 from (hg.block bb (blk_lt HB.out) HNE.out.2).trans HB.out)
            have HAT := Lib.hid (own_new (b := z7) hat (Nat.le_trans HZ.out HT.out.sz))
            replace HT := Lib.hid (HT.out.grown hg (fun k hk => .inl (.inr hk)))
            replace HVA := Lib.hid (R_keeps HVA.out hk (fun q hq => by rw [E94 q hq]; decide))
            replace HVO := Lib.hid ho
            replace HBW := Lib.hid hb
            clear ho hb hg hat hk HE
            refine hK.out _ _ ⟨(blk_cell HB.out 0).trans rfl, (blk_cell HB.out 1).trans rfl⟩ (fun hHeld => ?_)
            clear hK K
            refine norm_ (a' := ?_) ?_ ?_
            rotate_left
            · show Act.put _ (some 314) _ = _
              simp only [Act.put, List.setIfInBounds_toArray, List.set_cons_zero, List.set_cons_succ]
              rfl
            refine pure_ (i := 12) (N := some 12) (v := ?_) (a' := ?_) #[true, true, true, true, true, true, true, true, true, true, true, true, true, false] rfl rfl (any_of HT_.out (by kernel_rfl)) (fun _ _ _ h => h) (Or.inl ⟨by rfl, ?_⟩) ?_ ?_
            rotate_left
            · intro w'
              go_simp
              with_reducible rfl
            rotate_left
            · simp only [Act.put, List.setIfInBounds_toArray, List.set_cons_zero, List.set_cons_succ]
              rfl
            refine pure_ (i := 13) (N := some 13) (v := ?_) (a' := ?_) #[true, true, true, true, true, true, true, true, true, true, true, true, true, true] rfl rfl (any_of HT_.out (by kernel_rfl)) (fun _ _ _ h => h) (Or.inl ⟨by rfl, ?_⟩) ?_ ?_
            rotate_left
            · intro w'
              go_simp
              with_reducible rfl
            rotate_left
            · simp only [Act.put, List.setIfInBounds_toArray, List.set_cons_zero, List.set_cons_succ]
              rfl
            refine done_ (done_of HT_.out (by kernel_rfl)) ?_
            refine NoPanic.normal ?_
            go_wp2
            go_meet
            case rel => exact ⟨Ax, lx, cx, Ay, ly, cy, rfl, rfl, bl, r1, Lib.hid (open_mem HMD.out HZE.out HT.out HBW.out HS.out HR.out HLB.out HVA.out HVO.out HAT.out), HA, HB⟩
        · skip
          refine value_ (w1 := x3.alloc (.cells #[.int .i64 (i0 : Int), .int .i64 t0] 40)) (v := .slice (some ⟨x3.heap.size, 0, none⟩) 1 1) (by rfl) rfl ?_ ?_
          · first | (go_simp; done) | (go_simp; rfl)
          have hnew := heap_alloc_new x3 (.cells #[.int .i64 (i0 : Int), .int .i64 t0] 40)
          have hbl := below_alloc (Below.refl x3.heap.size x3) (.cells #[.int .i64 (i0 : Int), .int .i64 t0] 40)
          have hk : Keeps [] x3 (x3.alloc (.cells #[.int .i64 (i0 : Int), .int .i64 t0] 40)) := Keeps.below hbl
          replace HA := Lib.hid (show Hn (x3.alloc (.cells #[.int .i64 (i0 : Int), .int .i64 t0] 40)) ab (i0 : Int) t0 from (hk.2 ab _ _ _ HA.out (by decide)).trans HA.out)
          replace HB := Lib.hid (show Hn (x3.alloc (.cells #[.int .i64 (i0 : Int), .int .i64 t0] 40)) bb (i0 : Int) t0 from (hk.2 bb _ _ _ HB.out (by decide)).trans HB.out)
          replace HR := Lib.hid (HR.out.keeps hk (by decide))
          have HTS := Lib.hid HT.out.sz
          replace HT := Lib.hid (HT.out.below hbl)
          replace HBW := Lib.hid (below_step HBW.out hbl)
          replace HVA := Lib.hid (Kd.R_below HVA.out hbl)
          replace HVO := Lib.hid (Kd.R_below HVO.out hbl)
          have HE := Lib.hid (show Hn (x3.alloc (.cells #[.int .i64 (i0 : Int), .int .i64 t0] 40)) x3.heap.size (i0 : Int) t0 from hnew)
          have HLE := Lib.hid (show z7 ≤ x3.heap.size from Nat.le_trans HZ.out HTS.out)
          clear hnew hbl hk HTS
          generalize x3.alloc (.cells #[.int .i64 (i0 : Int), .int .i64 t0] 40) = x3_10 at *
          generalize x3.heap.size = e10 at HE HLE ⊢
          refine hK.out _ _ ⟨(blk_cell HB.out 0).trans rfl, (blk_cell HB.out 1).trans rfl⟩ (fun hHeld => ?_)
          clear hK K
          refine norm_ (a' := ?_) ?_ ?_
          rotate_left
          · show Act.put _ (some 313) _ = _
            simp only [Act.put, List.setIfInBounds_toArray, List.set_cons_zero, List.set_cons_succ]
            rfl
          refine one_ (i := 5) (N := some 308) #[true, true, true, true, true, true, false, false, true, true, true, false, false, false] rfl rfl (one_of HT_.out (by kernel_rfl)) (by decide) (fun K hK => ?_)
          refine value_ (w1 := x3_10.alloc (.cells #[.int .i64 (i0 : Int), .int .i64 t0, .bool false, .string (ByteArray.mk #[]), .pointer (some ⟨r1, 0, none⟩), .slice none 0 0, .slice none 0 0] 96)) (v := .pointer (some ⟨x3_10.heap.size, 0, none⟩)) (by rfl) rfl ?_ ?_
          · first | (go_simp; done) | (go_simp; rfl)
          have hnew := heap_alloc_new x3_10 (.cells #[.int .i64 (i0 : Int), .int .i64 t0, .bool false, .string (ByteArray.mk #[]), .pointer (some ⟨r1, 0, none⟩), .slice none 0 0, .slice none 0 0] 96)
          have hbl := below_alloc (Below.refl x3_10.heap.size x3_10) (.cells #[.int .i64 (i0 : Int), .int .i64 t0, .bool false, .string (ByteArray.mk #[]), .pointer (some ⟨r1, 0, none⟩), .slice none 0 0, .slice none 0 0] 96)
          have hk : Keeps [] x3_10 (x3_10.alloc (.cells #[.int .i64 (i0 : Int), .int .i64 t0, .bool false, .string (ByteArray.mk #[]), .pointer (some ⟨r1, 0, none⟩), .slice none 0 0, .slice none 0 0] 96)) := Keeps.below hbl
          replace HA := Lib.hid (show Hn (x3_10.alloc (.cells #[.int .i64 (i0 : Int), .int .i64 t0, .bool false, .string (ByteArray.mk #[]), .pointer (some ⟨r1, 0, none⟩), .slice none 0 0, .slice none 0 0] 96)) ab (i0 : Int) t0 from (hk.2 ab _ _ _ HA.out (by decide)).trans HA.out)
          replace HB := Lib.hid (show Hn (x3_10.alloc (.cells #[.int .i64 (i0 : Int), .int .i64 t0, .bool false, .string (ByteArray.mk #[]), .pointer (some ⟨r1, 0, none⟩), .slice none 0 0, .slice none 0 0] 96)) bb (i0 : Int) t0 from (hk.2 bb _ _ _ HB.out (by decide)).trans HB.out)
          replace HE := Lib.hid (show Hn (x3_10.alloc (.cells #[.int .i64 (i0 : Int), .int .i64 t0, .bool false, .string (ByteArray.mk #[]), .pointer (some ⟨r1, 0, none⟩), .slice none 0 0, .slice none 0 0] 96)) e10 (i0 : Int) t0 from (hk.2 e10 _ _ _ HE.out (by decide)).trans HE.out)
          replace HR := Lib.hid (HR.out.keeps hk (by decide))
          have HTS := Lib.hid HT.out.sz
          replace HT := Lib.hid (HT.out.below hbl)
          replace HBW := Lib.hid (below_step HBW.out hbl)
          replace HVA := Lib.hid (Kd.R_below HVA.out hbl)
          replace HVO := Lib.hid (Kd.R_below HVO.out hbl)
          have HS := Lib.hid hnew
          have HLB := Lib.hid (show z7 ≤ x3_10.heap.size from Nat.le_trans HZ.out HTS.out)
          clear hnew hbl hk HTS
          generalize x3_10.alloc (.cells #[.int .i64 (i0 : Int), .int .i64 t0, .bool false, .string (ByteArray.mk #[]), .pointer (some ⟨r1, 0, none⟩), .slice none 0 0, .slice none 0 0] 96) = x3_10_5 at *
          generalize x3_10.heap.size = bl at HS HLB ⊢
          refine hK.out _ _ ⟨(blk_cell HB.out 0).trans rfl, (blk_cell HB.out 1).trans rfl⟩ (fun hHeld => ?_)
          clear hK K
          refine norm_ (a' := ?_) ?_ ?_
          rotate_left
          · show Act.put _ (some 308) _ = _
            simp only [Act.put, List.setIfInBounds_toArray, List.set_cons_zero, List.set_cons_succ]
            rfl
          refine one_ (i := 6) (N := some 309) #[true, true, true, true, true, true, true, false, true, true, true, false, false, false] rfl rfl (one_of HT_.out (by kernel_rfl)) (by decide) (fun K hK => ?_)
          refine value_ (w1 := x3_10_5.alloc (.cells #[.pointer (some ⟨bl, 0, none⟩)] 94)) (v := .slice (some ⟨x3_10_5.heap.size, 0, none⟩) 1 1) (by rfl) rfl ?_ ?_
          · first | (go_simp; done) | (go_simp; rfl)
          have hnew := heap_alloc_new x3_10_5 (.cells #[.pointer (some ⟨bl, 0, none⟩)] 94)
          have hbl := below_alloc (Below.refl x3_10_5.heap.size x3_10_5) (.cells #[.pointer (some ⟨bl, 0, none⟩)] 94)
          have hk : Keeps [] x3_10_5 (x3_10_5.alloc (.cells #[.pointer (some ⟨bl, 0, none⟩)] 94)) := Keeps.below hbl
          replace HA := Lib.hid (show Hn (x3_10_5.alloc (.cells #[.pointer (some ⟨bl, 0, none⟩)] 94)) ab (i0 : Int) t0 from (hk.2 ab _ _ _ HA.out (by decide)).trans HA.out)
          replace HB := Lib.hid (show Hn (x3_10_5.alloc (.cells #[.pointer (some ⟨bl, 0, none⟩)] 94)) bb (i0 : Int) t0 from (hk.2 bb _ _ _ HB.out (by decide)).trans HB.out)
          replace HE := Lib.hid (show Hn (x3_10_5.alloc (.cells #[.pointer (some ⟨bl, 0, none⟩)] 94)) e10 (i0 : Int) t0 from (hk.2 e10 _ _ _ HE.out (by decide)).trans HE.out)
          replace HR := Lib.hid (HR.out.keeps hk (by decide))
          replace HS := Lib.hid ((hk.2 bl _ _ _ HS.out (by decide)).trans HS.out)
          have HTS := Lib.hid HT.out.sz
          replace HT := Lib.hid (HT.out.below hbl)
          replace HBW := Lib.hid (below_step HBW.out hbl)
          replace HVA := Lib.hid (Kd.R_below HVA.out hbl)
          replace HVO := Lib.hid (Kd.R_below HVO.out hbl)
          have HP := Lib.hid hnew
          have HLP := Lib.hid (show z7 ≤ x3_10_5.heap.size from Nat.le_trans HZ.out HTS.out)
          clear hnew hbl hk HTS
          generalize x3_10_5.alloc (.cells #[.pointer (some ⟨bl, 0, none⟩)] 94) = x3_10_5_6 at *
          generalize x3_10_5.heap.size = p6 at HP HLP ⊢
          refine hK.out _ _ ⟨(blk_cell HB.out 0).trans rfl, (blk_cell HB.out 1).trans rfl⟩ (fun hHeld => ?_)
          clear hK K
          refine norm_ (a' := ?_) ?_ ?_
          rotate_left
          · show Act.put _ (some 309) _ = _
            simp only [Act.put, List.setIfInBounds_toArray, List.set_cons_zero, List.set_cons_succ]
            rfl
          refine one_ (i := 7) (N := some 310) #[true, true, true, true, true, true, true, true, true, true, true, false, false, false] rfl rfl (one_of HT_.out (by kernel_rfl)) (by decide) (fun K hK => ?_)
          refine Kd.R_append_rows_step kP (Rr := kP.K _) (w0 := w) w.heap.size (by rfl) (.tmp 303) (.tmp 309) 93 94 (.pointer none) 8 (by rfl) Tryd.underlying93 info94 rfl (by decide) (by decide) (.slice A5 m c5) (L.map (fun s => s.bl)) [bl] (some ⟨p6, 0, none⟩) 1 1 (fun _ => True) (fun _ => False) (by rfl) (by rfl) HVA.out (C_one94 HP.out) (fun _ _ h => h) (fun _ h => h.elim) (fun _ _ => trivial) HBW.out HBW.out.size (by rw [List.length_map]; have := HLN.out; omega) ?_
          intro vx x3_10_5_6_7 ho hb hg hat
          obtain ⟨Ax, lx, cx, rfl⟩ := R_sl2 ho
          have hk := keeps_app94 HVA.out hg
          replace HA := Lib.hid (show Hn x3_10_5_6_7 ab (i0 : Int) t0 from (hk.2 ab _ _ _ HA.out (by decide)).trans HA.out)
          replace HB := Lib.hid (show Hn x3_10_5_6_7 bb (i0 : Int) t0 from (hk.2 bb _ _ _ HB.out (by decide)).trans HB.out)
          replace HE := Lib.hid (show Hn x3_10_5_6_7 e10 (i0 : Int) t0 from (hk.2 e10 _ _ _ HE.out (by decide)).trans HE.out)
          replace HR := Lib.hid (HR.out.keeps hk (by decide))
          replace HS := Lib.hid ((hk.2 bl _ _ _ HS.out (by decide)).trans HS.out)
          replace HT := Lib.hid (HT.out.grown hg (fun k hk => .inl (.inl hk)))
          replace HVO := Lib.hid (R_keeps HVO.out hk (fun q hq => by rw [E40 q hq]; decide))
          replace HVA := Lib.hid ho
          replace HBW := Lib.hid hb
          clear ho hb hg hat hk HP
          refine hK.out _ _ ⟨(blk_cell HB.out 0).trans rfl, (blk_cell HB.out 1).trans rfl⟩ (fun hHeld => ?_)
          clear hK K
          refine norm_ (a' := ?_) ?_ ?_
          rotate_left
          · show Act.put _ (some 310) _ = _
            simp only [Act.put, List.setIfInBounds_toArray, List.set_cons_zero, List.set_cons_succ]
            rfl
          refine one_ (i := 11) (N := some 314) #[true, true, true, true, true, true, true, true, true, true, true, true, false, false] rfl rfl (one_of HT_.out (by kernel_rfl)) (by decide) (fun K hK => ?_)
          refine Kd.R_append_rows_step k40 (Rr := k40.K _) (w0 := w) w.heap.size (by rfl) (.tmp 311) (.tmp 313) 38 40 (.agg #[(.int .i64 0), (.int .i64 0)]) 16 (by rfl) Tryd.underlying38 info40 rfl (by decide) (by decide) (.slice A7 lo c7) os [⟨(i0 : Int), t0⟩] (some ⟨e10, 0, none⟩) 1 1 (fun _ => True) (fun _ => False) (by rfl) (by rfl) HVO.out (C_one40 HE.out) (fun _ _ h => h) (fun _ h => h.elim) (fun _ _ => trivial) HBW.out HBW.out.size (by have := HLO.out; omega) ?_
          intro vx x3_10_5_6_7_11 ho hb hg hat
          obtain ⟨Ay, ly, cy, rfl⟩ := R_sl2 ho
          have hk := keeps_app40 HVO.out hg
          replace HR := Lib.hid (HR.out.keeps hk (by decide))
          replace HS := Lib.hid ((hk.2 bl _ _ _ HS.out (by decide)).trans HS.out)
          replace HA := Lib.hid (show Hn x3_10_5_6_7_11 ab (i0 : Int) t0 from (hg.block ab (blk_lt HA.out) HNE.out.1).trans HA.out)
          replace HB := Lib.hid (show Hn x3_10_5_6_7_11 bb (i0 : Int) t0 from (hg.block bb (blk_lt HB.out) HNE.out.2).trans HB.out)
          have HAT := Lib.hid (own_new (b := z7) hat (Nat.le_trans HZ.out HT.out.sz))
          replace HT := Lib.hid (HT.out.grown hg (fun k hk => .inl (.inr hk)))
          replace HVA := Lib.hid (R_keeps HVA.out hk (fun q hq => by rw [E94 q hq]; decide))
          replace HVO := Lib.hid ho
          replace HBW := Lib.hid hb
          clear ho hb hg hat hk HE
          refine hK.out _ _ ⟨(blk_cell HB.out 0).trans rfl, (blk_cell HB.out 1).trans rfl⟩ (fun hHeld => ?_)
          clear hK K
          refine norm_ (a' := ?_) ?_ ?_
          rotate_left
          · show Act.put _ (some 314) _ = _
            simp only [Act.put, List.setIfInBounds_toArray, List.set_cons_zero, List.set_cons_succ]
            rfl
          refine pure_ (i := 12) (N := some 12) (v := ?_) (a' := ?_) #[true, true, true, true, true, true, true, true, true, true, true, true, true, false] rfl rfl (any_of HT_.out (by kernel_rfl)) (fun _ _ _ h => h) (Or.inl ⟨by rfl, ?_⟩) ?_ ?_
          rotate_left
          · intro w'
            go_simp
            with_reducible rfl
          rotate_left
          · simp only [Act.put, List.setIfInBounds_toArray, List.set_cons_zero, List.set_cons_succ]
            rfl
          refine pure_ (i := 13) (N := some 13) (v := ?_) (a' := ?_) #[true, true, true, true, true, true, true, true, true, true, true, true, true, true] rfl rfl (any_of HT_.out (by kernel_rfl)) (fun _ _ _ h => h) (Or.inl ⟨by rfl, ?_⟩) ?_ ?_
          rotate_left
          · intro w'
            go_simp
            with_reducible rfl
          rotate_left
          · simp only [Act.put, List.setIfInBounds_toArray, List.set_cons_zero, List.set_cons_succ]
            rfl
          refine done_ (done_of HT_.out (by kernel_rfl)) ?_
          refine NoPanic.normal ?_
          go_wp2
          go_meet
          case rel => exact ⟨Ax, lx, cx, Ay, ly, cy, rfl, rfl, bl, r1, Lib.hid (open_mem HMD.out HZE.out HT.out HBW.out HS.out HR.out HLB.out HVA.out HVO.out HAT.out), HA, HB⟩
      · skip
        refine value_ (w1 := wd.alloc (.cells #[.int .i64 (i0 : Int), .int .i64 t0] 40)) (v := .slice (some ⟨wd.heap.size, 0, none⟩) 1 1) (by rfl) rfl ?_ ?_
        · first | (go_simp; done) | (go_simp; rfl)
        have hnew := heap_alloc_new wd (.cells #[.int .i64 (i0 : Int), .int .i64 t0] 40)
        have hbl := below_alloc (Below.refl wd.heap.size wd) (.cells #[.int .i64 (i0 : Int), .int .i64 t0] 40)
        have hk : Keeps [] wd (wd.alloc (.cells #[.int .i64 (i0 : Int), .int .i64 t0] 40)) := Keeps.below hbl
        replace HA := Lib.hid (show Hn (wd.alloc (.cells #[.int .i64 (i0 : Int), .int .i64 t0] 40)) ab (i0 : Int) t0 from (hk.2 ab _ _ _ HA.out (by decide)).trans HA.out)
        replace HB := Lib.hid (show Hn (wd.alloc (.cells #[.int .i64 (i0 : Int), .int .i64 t0] 40)) bb (i0 : Int) t0 from (hk.2 bb _ _ _ HB.out (by decide)).trans HB.out)
        have HTS := Lib.hid HT.out.sz
        replace HT := Lib.hid (HT.out.below hbl)
        replace HBW := Lib.hid (below_step HBW.out hbl)
        replace HVA := Lib.hid (Kd.R_below HVA.out hbl)
        replace HVO := Lib.hid (Kd.R_below HVO.out hbl)
        have HE := Lib.hid (show Hn (wd.alloc (.cells #[.int .i64 (i0 : Int), .int .i64 t0] 40)) wd.heap.size (i0 : Int) t0 from hnew)
        have HLE := Lib.hid (show z7 ≤ wd.heap.size from Nat.le_trans HZ.out HTS.out)
        clear hnew hbl hk HTS
        generalize wd.alloc (.cells #[.int .i64 (i0 : Int), .int .i64 t0] 40) = x10 at *
        generalize wd.heap.size = e10 at HE HLE ⊢
        refine hK.out _ _ ⟨(blk_cell HB.out 0).trans rfl, (blk_cell HB.out 1).trans rfl⟩ (fun hHeld => ?_)
        clear hK K
        refine norm_ (a' := ?_) ?_ ?_
        rotate_left
        · show Act.put _ (some 313) _ = _
          simp only [Act.put, List.setIfInBounds_toArray, List.set_cons_zero, List.set_cons_succ]
          rfl
        refine one_ (i := 3) (N := some 306) #[true, true, true, true, false, false, false, false, true, true, true, false, false, false] rfl rfl (one_of HT_.out (by kernel_rfl)) (by decide) (fun K hK => ?_)
        refine goes_ Tryd.func20 (by kernel_rfl) rfl #[.int .i64 snaps] (by rfl) rfl rfl (by simp only [List.map_toArray, List.map_cons, List.map_nil]; rfl) ?_
        with_reducible refine (newref_calls snaps Ns HNS.out _).mono ?_
        rintro e x10_3 ⟨r1, rfl, hr1, hbl⟩
        refine ⟨_, rfl, ?_⟩
        have hk : Keeps [] x10 x10_3 := Keeps.below hbl
        replace HA := Lib.hid (show Hn x10_3 ab (i0 : Int) t0 from (hk.2 ab _ _ _ HA.out (by decide)).trans HA.out)
        replace HB := Lib.hid (show Hn x10_3 bb (i0 : Int) t0 from (hk.2 bb _ _ _ HB.out (by decide)).trans HB.out)
        replace HE := Lib.hid (show Hn x10_3 e10 (i0 : Int) t0 from (hk.2 e10 _ _ _ HE.out (by decide)).trans HE.out)
        have HR := Lib.hid (hr1.lower (show z7 ≤ x10.heap.size from Nat.le_trans HZ.out HT.out.sz))
        replace HT := Lib.hid (HT.out.below hbl)
        replace HBW := Lib.hid (below_step HBW.out hbl)
        replace HVA := Lib.hid (Kd.R_below HVA.out hbl)
        replace HVO := Lib.hid (Kd.R_below HVO.out hbl)
        clear hr1 hbl hk
        refine hK.out _ _ ⟨(blk_cell HB.out 0).trans rfl, (blk_cell HB.out 1).trans rfl⟩ (fun hHeld => ?_)
        clear hK K
        refine norm_ (a' := ?_) ?_ ?_
        rotate_left
        · show Act.put _ (some 306) _ = _
          simp only [Act.put, List.setIfInBounds_toArray, List.set_cons_zero, List.set_cons_succ]
          rfl
        refine pure_ (i := 4) (N := some 307) (v := ?_) (a' := ?_) #[true, true, true, true, true, false, false, false, true, true, true, false, false, false] rfl rfl (any_of HT_.out (by kernel_rfl)) (fun _ _ _ h => h) (Or.inl ⟨by rfl, ?_⟩) ?_ ?_
        rotate_left
        · intro w'
          go_simp
          with_reducible rfl
        rotate_left
        · simp only [Act.put, List.setIfInBounds_toArray, List.set_cons_zero, List.set_cons_succ]
          rfl
        refine one_ (i := 5) (N := some 308) #[true, true, true, true, true, true, false, false, true, true, true, false, false, false] rfl rfl (one_of HT_.out (by kernel_rfl)) (by decide) (fun K hK => ?_)
        refine value_ (w1 := x10_3.alloc (.cells #[.int .i64 (i0 : Int), .int .i64 t0, .bool false, .string (ByteArray.mk #[]), .pointer (some ⟨r1, 0, none⟩), .slice none 0 0, .slice none 0 0] 96)) (v := .pointer (some ⟨x10_3.heap.size, 0, none⟩)) (by rfl) rfl ?_ ?_
        · first | (go_simp; done) | (go_simp; rfl)
        have hnew := heap_alloc_new x10_3 (.cells #[.int .i64 (i0 : Int), .int .i64 t0, .bool false, .string (ByteArray.mk #[]), .pointer (some ⟨r1, 0, none⟩), .slice none 0 0, .slice none 0 0] 96)
        have hbl := below_alloc (Below.refl x10_3.heap.size x10_3) (.cells #[.int .i64 (i0 : Int), .int .i64 t0, .bool false, .string (ByteArray.mk #[]), .pointer (some ⟨r1, 0, none⟩), .slice none 0 0, .slice none 0 0] 96)
        have hk : Keeps [] x10_3 (x10_3.alloc (.cells #[.int .i64 (i0 : Int), .int .i64 t0, .bool false, .string (ByteArray.mk #[]), .pointer (some ⟨r1, 0, none⟩), .slice none 0 0, .slice none 0 0] 96)) := Keeps.below hbl
        replace HA := Lib.hid (show Hn (x10_3.alloc (.cells #[.int .i64 (i0 : Int), .int .i64 t0, .bool false, .string (ByteArray.mk #[]), .pointer (some ⟨r1, 0, none⟩), .slice none 0 0, .slice none 0 0] 96)) ab (i0 : Int) t0 from (hk.2 ab _ _ _ HA.out (by decide)).trans HA.out)
        replace HB := Lib.hid (show Hn (x10_3.alloc (.cells #[.int .i64 (i0 : Int), .int .i64 t0, .bool false, .string (ByteArray.mk #[]), .pointer (some ⟨r1, 0, none⟩), .slice none 0 0, .slice none 0 0] 96)) bb (i0 : Int) t0 from (hk.2 bb _ _ _ HB.out (by decide)).trans HB.out)
        replace HE := Lib.hid (show Hn (x10_3.alloc (.cells #[.int .i64 (i0 : Int), .int .i64 t0, .bool false, .string (ByteArray.mk #[]), .pointer (some ⟨r1, 0, none⟩), .slice none 0 0, .slice none 0 0] 96)) e10 (i0 : Int) t0 from (hk.2 e10 _ _ _ HE.out (by decide)).trans HE.out)
        replace HR := Lib.hid (HR.out.keeps hk (by decide))
        have HTS := Lib.hid HT.out.sz
        replace HT := Lib.hid (HT.out.below hbl)
        replace HBW := Lib.hid (below_step HBW.out hbl)
        replace HVA := Lib.hid (Kd.R_below HVA.out hbl)
        replace HVO := Lib.hid (Kd.R_below HVO.out hbl)
        have HS := Lib.hid hnew
        have HLB := Lib.hid (show z7 ≤ x10_3.heap.size from Nat.le_trans HZ.out HTS.out)
        clear hnew hbl hk HTS
        generalize x10_3.alloc (.cells #[.int .i64 (i0 : Int), .int .i64 t0, .bool false, .string (ByteArray.mk #[]), .pointer (some ⟨r1, 0, none⟩), .slice none 0 0, .slice none 0 0] 96) = x10_3_5 at *
        generalize x10_3.heap.size = bl at HS HLB ⊢
        refine hK.out _ _ ⟨(blk_cell HB.out 0).trans rfl, (blk_cell HB.out 1).trans rfl⟩ (fun hHeld => ?_)
        clear hK K
        refine norm_ (a' := ?_) ?_ ?_
        rotate_left
        · show Act.put _ (some 308) _ = _
          simp only [Act.put, List.setIfInBounds_toArray, List.set_cons_zero, List.set_cons_succ]
          rfl
        refine one_ (i := 6) (N := some 309) #[true, true, true, true, true, true, true, false, true, true, true, false, false, false] rfl rfl (one_of HT_.out (by kernel_rfl)) (by decide) (fun K hK => ?_)
        refine value_ (w1 := x10_3_5.alloc (.cells #[.pointer (some ⟨bl, 0, none⟩)] 94)) (v := .slice (some ⟨x10_3_5.heap.size, 0, none⟩) 1 1) (by rfl) rfl ?_ ?_
        · first | (go_simp; done) | (go_simp; rfl)
        have hnew := heap_alloc_new x10_3_5 (.cells #[.pointer (some ⟨bl, 0, none⟩)] 94)
        have hbl := below_alloc (Below.refl x10_3_5.heap.size x10_3_5) (.cells #[.pointer (some ⟨bl, 0, none⟩)] 94)
        have hk : Keeps [] x10_3_5 (x10_3_5.alloc (.cells #[.pointer (some ⟨bl, 0, none⟩)] 94)) := Keeps.below hbl
        replace HA := Lib.hid (show Hn (x10_3_5.alloc (.cells #[.pointer (some ⟨bl, 0, none⟩)] 94)) ab (i0 : Int) t0 from (hk.2 ab _ _ _ HA.out (by decide)).trans HA.out)
        replace HB := Lib.hid (show Hn (x10_3_5.alloc (.cells #[.pointer (some ⟨bl, 0, none⟩)] 94)) bb (i0 : Int) t0 from (hk.2 bb _ _ _ HB.out (by decide)).trans HB.out)
        replace HE := Lib.hid (show Hn (x10_3_5.alloc (.cells #[.pointer (some ⟨bl, 0, none⟩)] 94)) e10 (i0 : Int) t0 from (hk.2 e10 _ _ _ HE.out (by decide)).trans HE.out)
        replace HR := Lib.hid (HR.out.keeps hk (by decide))
        replace HS := Lib.hid ((hk.2 bl _ _ _ HS.out (by decide)).trans HS.out)
        have HTS := Lib.hid HT.out.sz
        replace HT := Lib.hid (HT.out.below hbl)
        replace HBW := Lib.hid (below_step HBW.out hbl)
        replace HVA := Lib.hid (Kd.R_below HVA.out hbl)
        replace HVO := Lib.hid (Kd.R_below HVO.out hbl)
        have HP := Lib.hid hnew
        have HLP := Lib.hid (show z7 ≤ x10_3_5.heap.size from Nat.le_trans HZ.out HTS.out)
        clear hnew hbl hk HTS
        generalize x10_3_5.alloc (.cells #[.pointer (some ⟨bl, 0, none⟩)] 94) = x10_3_5_6 at *
        generalize x10_3_5.heap.size = p6 at HP HLP ⊢
        refine hK.out _ _ ⟨(blk_cell HB.out 0).trans rfl, (blk_cell HB.out 1).trans rfl⟩ (fun hHeld => ?_)
        clear hK K
        refine norm_ (a' := ?_) ?_ ?_
        rotate_left
        · show Act.put _ (some 309) _ = _
          simp only [Act.put, List.setIfInBounds_toArray, List.set_cons_zero, List.set_cons_succ]
          rfl
        refine one_ (i := 7) (N := some 310) #[true, true, true, true, true, true, true, true, true, true, true, false, false, false] rfl rfl (one_of HT_.out (by kernel_rfl)) (by decide) (fun K hK => ?_)
        refine Kd.R_append_rows_step kP (Rr := kP.K _) (w0 := w) w.heap.size (by rfl) (.tmp 303) (.tmp 309) 93 94 (.pointer none) 8 (by rfl) Tryd.underlying93 info94 rfl (by decide) (by decide) (.slice A5 m c5) (L.map (fun s => s.bl)) [bl] (some ⟨p6, 0, none⟩) 1 1 (fun _ => True) (fun _ => False) (by rfl) (by rfl) HVA.out (C_one94 HP.out) (fun _ _ h => h) (fun _ h => h.elim) (fun _ _ => trivial) HBW.out HBW.out.size (by rw [List.length_map]; have := HLN.out; omega) ?_
        intro vx x10_3_5_6_7 ho hb hg hat
        obtain ⟨Ax, lx, cx, rfl⟩ := R_sl2 ho
        have hk := keeps_app94 HVA.out hg
        replace HA := Lib.hid (show Hn x10_3_5_6_7 ab (i0 : Int) t0 from (hk.2 ab _ _ _ HA.out (by decide)).trans HA.out)
        replace HB := Lib.hid (show Hn x10_3_5_6_7 bb (i0 : Int) t0 from (hk.2 bb _ _ _ HB.out (by decide)).trans HB.out)
        replace HE := Lib.hid (show Hn x10_3_5_6_7 e10 (i0 : Int) t0 from (hk.2 e10 _ _ _ HE.out (by decide)).trans HE.out)
        replace HR := Lib.hid (HR.out.keeps hk (by decide))
        replace HS := Lib.hid ((hk.2 bl _ _ _ HS.out (by decide)).trans HS.out)
        replace HT := Lib.hid (HT.out.grown hg (fun k hk => .inl (.inl hk)))
        replace HVO := Lib.hid (R_keeps HVO.out hk (fun q hq => by rw [E40 q hq]; decide))
        replace HVA := Lib.hid ho
        replace HBW := Lib.hid hb
        clear ho hb hg hat hk HP
        refine hK.out _ _ ⟨(blk_cell HB.out 0).trans rfl, (blk_cell HB.out 1).trans rfl⟩ (fun hHeld => ?_)
        clear hK K
        refine norm_ (a' := ?_) ?_ ?_
        rotate_left
        · show Act.put _ (some 310) _ = _
          simp only [Act.put, List.setIfInBounds_toArray, List.set_cons_zero, List.set_cons_succ]
          rfl
        refine one_ (i := 11) (N := some 314) #[true, true, true, true, true, true, true, true, true, true, true, true, false, false] rfl rfl (one_of HT_.out (by kernel_rfl)) (by decide) (fun K hK => ?_)
        refine Kd.R_append_rows_step k40 (Rr := k40.K _) (w0 := w) w.heap.size (by rfl) (.tmp 311) (.tmp 313) 38 40 (.agg #[(.int .i64 0), (.int .i64 0)]) 16 (by rfl) Tryd.underlying38 info40 rfl (by decide) (by decide) (.slice A7 lo c7) os [⟨(i0 : Int), t0⟩] (some ⟨e10, 0, none⟩) 1 1 (fun _ => True) (fun _ => False) (by rfl) (by rfl) HVO.out (C_one40 HE.out) (fun _ _ h => h) (fun _ h => h.elim) (fun _ _ => trivial) HBW.out HBW.out.size (by have := HLO.out; omega) ?_
        intro vx x10_3_5_6_7_11 ho hb hg hat
        obtain ⟨Ay, ly, cy, rfl⟩ := R_sl2 ho
        have hk := keeps_app40 HVO.out hg
        replace HR := Lib.hid (HR.out.keeps hk (by decide))
        replace HS := Lib.hid ((hk.2 bl _ _ _ HS.out (by decide)).trans HS.out)
        replace HA := Lib.hid (show Hn x10_3_5_6_7_11 ab (i0 : Int) t0 from (hg.block ab (blk_lt HA.out) HNE.out.1).trans HA.out)
        replace HB := Lib.hid (show Hn x10_3_5_6_7_11 bb (i0 : Int) t0 from (hg.block bb (blk_lt HB.out) HNE.out.2).trans HB.out)
        have HAT := Lib.hid (own_new (b := z7) hat (Nat.le_trans HZ.out HT.out.sz))
        replace HT := Lib.hid (HT.out.grown hg (fun k hk => .inl (.inr hk)))
        replace HVA := Lib.hid (R_keeps HVA.out hk (fun q hq => by rw [E94 q hq]; decide))
        replace HVO := Lib.hid ho
        replace HBW := Lib.hid hb
        clear ho hb hg hat hk HE
        refine hK.out _ _ ⟨(blk_cell HB.out 0).trans rfl, (blk_cell HB.out 1).trans rfl⟩ (fun hHeld => ?_)
        clear hK K
        refine norm_ (a' := ?_) ?_ ?_
        rotate_left
        · show Act.put _ (some 314) _ = _
          simp only [Act.put, List.setIfInBounds_toArray, List.set_cons_zero, List.set_cons_succ]
          rfl
        refine pure_ (i := 12) (N := some 12) (v := ?_) (a' := ?_) #[true, true, true, true, true, true, true, true, true, true, true, true, true, false] rfl rfl (any_of HT_.out (by kernel_rfl)) (fun _ _ _ h => h) (Or.inl ⟨by rfl, ?_⟩) ?_ ?_
        rotate_left
        · intro w'
          go_simp
          with_reducible rfl
        rotate_left
        · simp only [Act.put, List.setIfInBounds_toArray, List.set_cons_zero, List.set_cons_succ]
          rfl
        refine pure_ (i := 13) (N := some 13) (v := ?_) (a' := ?_) #[true, true, true, true, true, true, true, true, true, true, true, true, true, true] rfl rfl (any_of HT_.out (by kernel_rfl)) (fun _ _ _ h => h) (Or.inl ⟨by rfl, ?_⟩) ?_ ?_
        rotate_left
        · intro w'
          go_simp
          with_reducible rfl
        rotate_left
        · simp only [Act.put, List.setIfInBounds_toArray, List.set_cons_zero, List.set_cons_succ]
          rfl
        refine done_ (done_of HT_.out (by kernel_rfl)) ?_
        refine NoPanic.normal ?_
        go_wp2
        go_meet
        case rel => exact ⟨Ax, lx, cx, Ay, ly, cy, rfl, rfl, bl, r1, Lib.hid (open_mem HMD.out HZE.out HT.out HBW.out HS.out HR.out HLB.out HVA.out HVO.out HAT.out), HA, HB⟩
  case rest =>
    obtain ⟨Ax, lx, cx, Ay, ly, cy, rfl, rfl, bl, r1, HMF, HAF, HBF⟩ := hcut
    have hWL := HL.out.open_ (by have := HI.out; omega) HIM.out HIL.out HFU.out HNO.out (s' := ⟨bl, (i0 : Int), t0, false, ByteArray.mk #[], r1, [], .slice none 0 0, [], .slice none 0 0, []⟩) (b := sb2) (u' := newS sg mb) ⟨rfl, HT0.out.symm⟩ ((MS.new bl (i0 : Int) t0 (ByteArray.mk #[]) r1 (.slice none 0 0) (.slice none 0 0) sg mb).more (Nat.zero_le _)) (Ply.nil Ns (i + 1)) (fun r hr => by simp at hr)
    rw [HT0.out] at hWL
    have HLF := Lib.hid hWL
    have he : (cnt ps : Int) + 1 = ((cnt (tookL ps i0) : Nat) : Int) := by rw [cnt_took i0 HIL.out HNO.out]; omega
    have HE := Lib.hid he
    clear hWL he
    have a0 := (blk_cell HAF.out 0).trans (show _ = some (Value.int .i64 (i0 : Int)) from rfl)
    have a1 := (blk_cell HAF.out 1).trans (show _ = some (Value.int .i64 t0) from rfl)
    have b0 := (blk_cell HBF.out 0).trans (show _ = some (Value.int .i64 (i0 : Int)) from rfl)
    have b1 := (blk_cell HBF.out 1).trans (show _ = some (Value.int .i64 t0) from rfl)
    go_wp2
    refine Met.intro (hJ _ _ ?_)
    exact ⟨⟨⟨rfl, rfl⟩, rfl, rfl, rfl, rfl, rfl, rfl, rfl⟩, rfl, _, _, _, rfl, rfl, rfl, rfl, _, _, _, _, _, _, by have h := HMF.out; rw [HE.out] at h; exact h, HLF.out⟩
end
end Go.Proofs.YtphaaagcdjpceaaDoor
namespace Go.Proofs.YtphaaagcdjpceaaDoor
open Go.RowKit Go.Extern.Stop Go.Stop Go.Extern Go.Proofs.YtphaaagcdjpceaaDoorW.PrintWords Go.Proofs.YtphaaagcdjpceaaDoorW.PrintLast Go.Proofs.YtphaaagcdjpceaaDoorW.PrintMore
set_option linter.unusedVariables false
theorem does_seq {c x y : Code} (h : c = .seq x y) {R S : Act → World → Prop} {a : Act} {w : World} (h1 : Does x R a w) (h2 : ∀ a' w', R a' w' → Does y S a' w') : Does c S a w := h ▸ Does.seq h1 h2
theorem does_reg {c : Code} {id d : Nat} {v : Value} {ty : TypeId} {pos : String} {after : Array Edge} (h : c = .region id #[{ dst := some d, op := .assign (.const v), type := ty, pos := pos, after := after, guard := none }] false) {a : Act} {w : World} (hf : FrA a) (hd : d < 548) : Does c (fun a' w' => Put a a' d v ∧ w' = w) a w := h ▸ does_assign hf hd
attribute [local go_sem high] eq40 ne40
section
variable {v0 v1 : Value} {A : Option Addr} {len cap : Nat} {B : Option Addr} {lenB capB : Nat} {v9 : Value} {d rp : Nat} {w W0 W : World} {va vo : Value} {i : Nat}
set_option maxHeartbeats 4000000 in
set_option maxRecDepth 100000 in
theorem p33 {a : Act} (hFD : FD a v0 v1 A len cap B lenB capB v9 d rp)
    {n : Int} {hb sb : Nat} {v18 v19 v21 : Value} (h12 : sl a 12 = va) (h13 : sl a 13 = vo) (h14 : sl a 14 = .int .i64 (i : Int)) (h15 : sl a 15 = .int .i64 n) (h16 : sl a 16 = .pointer (some ⟨hb, 0, none⟩)) (h17 : sl a 17 = .pointer (some ⟨sb, 0, none⟩)) (h18 : sl a 18 = v18) (h19 : sl a 19 = v19) (h21 : sl a 21 = v21) :
    Does (cpart [1, 1, 1, 1, 1, 1, 1, 1, 1, 0] cD) (fun a' w' => FD a' v0 v1 A len cap B lenB capB v9 d rp ∧ sl a' 12 = va ∧ sl a' 13 = vo ∧ sl a' 14 = .int .i64 (i : Int) ∧ sl a' 15 = .int .i64 n ∧ sl a' 16 = .pointer (some ⟨hb, 0, none⟩) ∧ sl a' 17 = .pointer (some ⟨sb, 0, none⟩) ∧ sl a' 18 = v18 ∧ sl a' 19 = v19 ∧ sl a' 21 = v21 ∧ sl a' 23 = .int .i64 0 ∧ sl a' 24 = .int .i64 3 ∧ w' = W) a W := by
  obtain ⟨hf, g0, g1, g2, g3, g9, g10, g11⟩ := hFD
  obtain ⟨u, rfl⟩ := hf.open
  rw [sl_fr u 0 (by decide)] at g0
  rw [sl_fr u 1 (by decide)] at g1
  rw [sl_fr u 2 (by decide)] at g2
  rw [sl_fr u 3 (by decide)] at g3
  rw [sl_fr u 9 (by decide)] at g9
  rw [sl_fr u 10 (by decide)] at g10
  rw [sl_fr u 11 (by decide)] at g11
  rw [sl_fr u 12 (by decide)] at h12
  rw [sl_fr u 13 (by decide)] at h13
  rw [sl_fr u 14 (by decide)] at h14
  rw [sl_fr u 15 (by decide)] at h15
  rw [sl_fr u 16 (by decide)] at h16
  rw [sl_fr u 17 (by decide)] at h17
  rw [sl_fr u 18 (by decide)] at h18
  rw [sl_fr u 19 (by decide)] at h19
  rw [sl_fr u 21 (by decide)] at h21
  intro J Q hJ hQ
  unfold fr
  rw [g0, g1, g2, g3, g9, g10, g11, h12, h13, h14, h15, h16, h17, h18, h19, h21]
  clear hf g0 g1 g2 g3 g9 g10 g11 h12 h13 h14 h15 h16 h17 h18 h19 h21
  conv => arg 2; whnf
  go_wp2
  refine Met.intro (hJ _ _ ?_)
  exact ⟨⟨⟨rfl, rfl⟩, rfl, rfl, rfl, rfl, rfl, rfl, rfl⟩, rfl, rfl, rfl, rfl, rfl, rfl, rfl, rfl, rfl, rfl, rfl, rfl⟩
set_option maxHeartbeats 4000000 in
set_option maxRecDepth 100000 in
theorem p110 {a : Act} (hFD : FD a v0 v1 A len cap B lenB capB v9 d rp)
    {M pg N Ns : Nat} {ps : List S108} {snaps : Int} {cp : Nat} {Dm : DataW Unit} {F : Int → Nat × Sn} {L : List Seat} {os : List S40} {ec : Int} {c : Nat} (h : WM w W d pg M rp N Ns (cnt ps : Int) ps ps snaps cp Dm F L va vo os) (hl : WL c N Ns ps os cp Dm F L) (hc : c ≤ 1000) (h12 : sl a 12 = va) (h13 : sl a 13 = vo) (h14 : sl a 14 = .int .i64 (i : Int)) (h23 : sl a 23 = .int .i64 ec) (h24 : sl a 24 = .int .i64 ec) :
    Does (cpart [1, 1, 1, 1, 1, 1, 1, 1, 1, 1, 1] cD) (fun a' w' => FD a' v0 v1 A len cap B lenB capB v9 d rp ∧ sl a' 12 = va ∧ sl a' 13 = vo ∧ sl a' 14 = .int .i64 (i : Int) ∧ WM w w' d pg M rp N Ns (cnt ps : Int) ps ps snaps cp Dm F L va vo os) a W := by
  obtain ⟨hf, g0, g1, g2, g3, g9, g10, g11⟩ := hFD
  obtain ⟨u, rfl⟩ := hf.open
  rw [sl_fr u 0 (by decide)] at g0
  rw [sl_fr u 1 (by decide)] at g1
  rw [sl_fr u 2 (by decide)] at g2
  rw [sl_fr u 3 (by decide)] at g3
  rw [sl_fr u 9 (by decide)] at g9
  rw [sl_fr u 10 (by decide)] at g10
  rw [sl_fr u 11 (by decide)] at g11
  rw [sl_fr u 12 (by decide)] at h12
  rw [sl_fr u 13 (by decide)] at h13
  rw [sl_fr u 14 (by decide)] at h14
  rw [sl_fr u 23 (by decide)] at h23
  rw [sl_fr u 24 (by decide)] at h24
  intro J Q hJ hQ
  unfold fr
  rw [g0, g1, g2, g3, g9, g10, g11, h12, h13, h14, h23, h24]
  clear hf g0 g1 g2 g3 g9 g10 g11 h12 h13 h14 h23 h24
  conv => arg 2; whnf
  have HM := Lib.hid h
  have HL := Lib.hid hl
  have HC := Lib.hid hc
  clear h hl hc
  go_wp2_with (go_at_call 51; (with_reducible refine (kept_true HM.out HL.out.mt HC.out HL.out.refs).mono ?_); rintro e w2 ⟨rfl, hb2⟩; have HM2 := Lib.hid (HM.out.below hb2); clear hb2)
  refine Met.intro (hJ _ _ ?_)
  exact ⟨⟨⟨rfl, rfl⟩, rfl, rfl, rfl, rfl, rfl, rfl, rfl⟩, rfl, rfl, rfl, HM2.out⟩
set_option maxRecDepth 100000 in
theorem round11 {a : Act} {zs zs2 : List Int} {M pg N Ns : Nat} {snaps : Int} (hFD : FD a v0 (.int .i64 snaps) A len cap B lenB capB v9 d rp) (hG : Good w) (hi : InRow w A len cap zs) (hh : InHands w B lenB capB zs2) (hN : N ≤ 10000) (hNs : min (max snaps 0) 10000 = (Ns : Int))
    (hS : St11 w W d pg M rp N Ns snaps i va vo) (h12 : sl a 12 = va) (h13 : sl a 13 = vo) (h14 : sl a 14 = .int .i64 (i : Int)) (hl : i < len) (h50 : i < 50) :
    Does cD (fun a' w' => FD a' v0 (.int .i64 snaps) A len cap B lenB capB v9 d rp ∧ sl a' 14 = .int .i64 (i : Int) ∧ ∃ va vo, sl a' 12 = va ∧ sl a' 13 = vo ∧ St11 w w' d pg M rp N Ns snaps (i + 1) va vo) a W := by
  obtain ⟨ps, cp, Dm, F, L, os, hM, hL⟩ := hS
  have hNs9 : Ns ≤ 10000 := by omega
  have hc := hL.mt.len
  obtain ⟨A2, c2, rfl⟩ := Kd.R_slice hM.all
  obtain ⟨A6, c6, rfl⟩ := Kd.R_slice hM.old
  rw [List.length_map] at h12 hM
  obtain ⟨m, hm⟩ : ∃ m, L.length = m := ⟨_, rfl⟩
  rw [hm] at h12 hM
  refine does_seq (x := cpart [0] cD) (y := cpart [1] cD) (by kernel_rfl) (p12 hFD hi hM.ds.bl hl h12 h13 h14) ?_
  rintro a1 w1 ⟨f1, h12, h13, h14, ⟨n, h15⟩, rfl⟩
  refine does_seq (x := cpart [1, 0] cD) (y := cpart [1, 1] cD) (by kernel_rfl) (p13 f1 h12 h13 h14 h15) ?_
  rintro a2 w2 ⟨f2, h12, h13, h14, h15, hb, sb, p, t, p2, t2, h16, h17, hs2⟩
  refine does_seq (x := cpart [1, 1, 0] cD) (y := cpart [1, 1, 1] cD) (by kernel_rfl) (p14 f2 hs2 hM.old (fun k hk => hL.ply.hb k hk) (by have := hL.ply.lh; omega) h12 h13 h14 h15 h16 h17) ?_
  rintro a3 w3 ⟨f3, h12, h13, h14, h15, h16, h17, p, t, hs3⟩
  refine does_seq (x := cpart [1, 1, 1, 0] cD) (y := cpart [1, 1, 1, 1] cD) (by kernel_rfl) (p16 f3 hs3 hh hM.ds.bl h12 h13 h14 h15 h16 h17) ?_
  rintro a4 w4 ⟨f4, h12, h13, h14, h15, h16, h17, p, t, p2, t2, hs4⟩
  refine does_seq (x := cpart [1, 1, 1, 1, 0] cD) (y := cpart [1, 1, 1, 1, 1] cD) (by kernel_rfl) (does_reg (d := 18) (v := .pointer none) (by rfl) f4.ok (by decide)) ?_
  rintro a5 w5 ⟨q5, rfl⟩
  have f5 := f4.put q5 (by decide)
  replace h12 := (q5.ne 12 (by decide)).trans h12
  replace h13 := (q5.ne 13 (by decide)).trans h13
  replace h14 := (q5.ne 14 (by decide)).trans h14
  replace h15 := (q5.ne 15 (by decide)).trans h15
  replace h16 := (q5.ne 16 (by decide)).trans h16
  replace h17 := (q5.ne 17 (by decide)).trans h17
  have h18 := q5.at_
  refine does_seq (x := cpart [1, 1, 1, 1, 1, 0] cD) (y := cpart [1, 1, 1, 1, 1, 1] cD) (by kernel_rfl) (does_reg (d := 19) (v := .int .i64 (-1)) (by rfl) f5.ok (by decide)) ?_
  rintro a6 w6 ⟨q6, rfl⟩
  have f6 := f5.put q6 (by decide)
  replace h12 := (q6.ne 12 (by decide)).trans h12
  replace h13 := (q6.ne 13 (by decide)).trans h13
  replace h14 := (q6.ne 14 (by decide)).trans h14
  replace h15 := (q6.ne 15 (by decide)).trans h15
  replace h16 := (q6.ne 16 (by decide)).trans h16
  replace h17 := (q6.ne 17 (by decide)).trans h17
  replace h18 := (q6.ne 18 (by decide)).trans h18
  have h19 := q6.at_
  have hC : Kd.C kP w1 A2 m (L.map (fun s => s.bl)) := by
    have h := (Kd.R_reads' (show PR w1 w.heap.size (.slice A2 (L.map (fun s => s.bl)).length c2) (L.map (fun s => s.bl)) from by rw [List.length_map, hm]; exact hM.all)).2.2
    rwa [List.length_map, hm] at h
  refine does_seq (x := cpart [1, 1, 1, 1, 1, 1, 0] cD) (y := cpart [1, 1, 1, 1, 1, 1, 1] cD) (by kernel_rfl) (p20 f6 hs4 hM.sl hC hm (by omega) h12 h13 h14 h15 h16 h17 h18 h19) ?_
  rintro a7 w7 ⟨f7, h12, h13, h14, h15, h16, h17, ⟨v18, v19, h18, h19, hfn⟩, hs7⟩
  refine does_seq (x := cpart [1, 1, 1, 1, 1, 1, 1, 0] cD) (y := cpart [1, 1, 1, 1, 1, 1, 1, 1] cD) (by kernel_rfl) (does_reg (d := 21) (v := .int .i64 (-1)) (by rfl) f7.ok (by decide)) ?_
  rintro a8 w8 ⟨q8, rfl⟩
  have f8 := f7.put q8 (by decide)
  replace h12 := (q8.ne 12 (by decide)).trans h12
  replace h13 := (q8.ne 13 (by decide)).trans h13
  replace h14 := (q8.ne 14 (by decide)).trans h14
  replace h15 := (q8.ne 15 (by decide)).trans h15
  replace h16 := (q8.ne 16 (by decide)).trans h16
  replace h17 := (q8.ne 17 (by decide)).trans h17
  replace h18 := (q8.ne 18 (by decide)).trans h18
  replace h19 := (q8.ne 19 (by decide)).trans h19
  have h21 := q8.at_
  have hend : ∀ a' w', (FD a' v0 (.int .i64 snaps) A len cap B lenB capB v9 d rp ∧ sl a' 14 = .int .i64 (i : Int) ∧ ∃ va vo ec, sl a' 12 = va ∧ sl a' 13 = vo ∧ sl a' 23 = .int .i64 ec ∧ sl a' 24 = .int .i64 ec ∧ St11 w w' d pg M rp N Ns snaps (i + 1) va vo) →
      Does (cpart [1, 1, 1, 1, 1, 1, 1, 1, 1, 1, 1] cD) (fun a' w' => FD a' v0 (.int .i64 snaps) A len cap B lenB capB v9 d rp ∧ sl a' 14 = .int .i64 (i : Int) ∧ ∃ va vo, sl a' 12 = va ∧ sl a' 13 = vo ∧ St11 w w' d pg M rp N Ns snaps (i + 1) va vo) a' w' := by
    rintro a' w' ⟨fe, e14, va, vo, ec, e12, e13, e23, e24, ps', cp', D', F', L', os', hM', hL'⟩
    refine (p110 fe hM' hL' (by omega) e12 e13 e14 e23 e24).mono ?_
    rintro a'' w'' ⟨fe2, e12, e13, e14, hM2⟩
    exact ⟨fe2, e14, va, vo, e12, e13, ps', cp', D', F', L', os', hM2, hL'⟩
  have hn8 : n % 8 = 0 ∨ n % 8 = 1 ∨ (n % 8 = 2 ∨ n % 8 = 3) ∨ n % 8 = 4 ∨ n % 8 = 5 ∨ n % 8 = 6 ∨ n % 8 = 7 := by omega
  have hM8 := hM.below hs7.bl
  rcases hfn with ⟨rfl, rfl, hno⟩ | ⟨k, hk, rfl, rfl, hx⟩
  · 
    have hf : ∀ s ∈ L, ¬ (s.x = p ∧ s.t = t) := fun s hs => by
      obtain ⟨j, hj, rfl⟩ := List.mem_iff_getElem.1 hs
      exact hno j hj (by omega)
    refine does_seq (x := cpart [1, 1, 1, 1, 1, 1, 1, 1, 0] cD) (y := cpart [1, 1, 1, 1, 1, 1, 1, 1, 1] cD) (by kernel_rfl) (p26n f8 h12 h13 h14 h15 h16 h17 h18 h19 h21) ?_
    rintro a9 w9 ⟨f9, h12, h13, h14, h15, h16, h17, h18, h19, h21, rfl⟩
    refine does_seq (x := cpart [1, 1, 1, 1, 1, 1, 1, 1, 1, 0] cD) (y := cpart [1, 1, 1, 1, 1, 1, 1, 1, 1, 1] cD) (by kernel_rfl) (p33 f9 h12 h13 h14 h15 h16 h17 h18 h19 h21) ?_
    rintro aa wa ⟨fa, h12, h13, h14, h15, h16, h17, h18, h19, h21, h23, h24, rfl⟩
    refine does_seq (x := cpart [1, 1, 1, 1, 1, 1, 1, 1, 1, 1, 0] cD) (y := cpart [1, 1, 1, 1, 1, 1, 1, 1, 1, 1, 1] cD) (by kernel_rfl) ?_ hend
    rcases hn8 with hn | hn | hn | hn | hn | hn | hn
    · rcases Nat.lt_or_ge (ff ps) N with hfu | hfu
      · exact p34o_y fa hG hM8 hL hs7.hh hs7.pr h50 hN hNs hfu hn rfl h12 h13 h14 h15 h16 h17 h18 h19 h21 h23 h24
      · exact p34o_f fa hG hM8 hL hs7.hh hs7.pr h50 hN hNs9 (by have := ff_le ps; have := hL.ply.lp; omega) hn h12 h13 h14 h15 h16 h17 h18 h19 h21 h23 h24
    · exact p34c_n fa hG hM8 hL hs7.hh hs7.pr h50 hf hn h12 h13 h14 h15 h16 h17 h18 h19 h21 h23 h24
    · exact p34s_n fa hG hM8 hL hs7.hh hs7.pr h50 hf hn h12 h13 h14 h15 h16 h17 h18 h19 h21 h23 h24
    · exact p34t_n fa hG hM8 hL hs7.hh hs7.pr h50 hf hn h12 h13 h14 h15 h16 h17 h18 h19 h21 h23 h24
    · exact p34k_n fa hG hM8 hL hs7.hh hs7.pr h50 hf hn h12 h13 h14 h15 h16 h17 h18 h19 h21 h23 h24
    · exact p34f_n6 (v21 := .nilIface) fa hG hM8 hL hs7.hh hs7.pr h50 hs7.ss hf hn h12 h13 h14 h15 h16 h17 h18 h19 h21 h23 h24
    · exact p34f_n7 (v21 := .nilIface) fa hG hM8 hL hs7.hh hs7.pr h50 hs7.ss hf hn h12 h13 h14 h15 h16 h17 h18 h19 h21 h23 h24
  · 
    obtain ⟨s, hs⟩ : ∃ s, L[k] = s := ⟨_, rfl⟩
    rw [hs] at hx h18
    obtain ⟨bl, hbl⟩ : ∃ bl, s.bl = bl := ⟨_, rfl⟩
    rw [hbl] at h18
    have hsm : s ∈ L := hs ▸ List.getElem_mem hk
    have hms := (hL.mt.x s hsm).2.2
    refine does_seq (x := cpart [1, 1, 1, 1, 1, 1, 1, 1, 0] cD) (y := cpart [1, 1, 1, 1, 1, 1, 1, 1, 1] cD) (by kernel_rfl) (p26 f8 hs7 (hM.sl.all s hsm) hbl rfl (by have := hms.hl; omega) h12 h13 h14 h15 h16 h17 h18 h19 h21) ?_
    rintro a9 w9 ⟨f9, h12, h13, h14, h15, h16, h17, h18, h19, v21, p3, t3, h21, hat, hs9⟩
    have hM9 := hM.below hs9.bl
    refine does_seq (x := cpart [1, 1, 1, 1, 1, 1, 1, 1, 1, 0] cD) (y := cpart [1, 1, 1, 1, 1, 1, 1, 1, 1, 1] cD) (by kernel_rfl) (p33 f9 h12 h13 h14 h15 h16 h17 h18 h19 h21) ?_
    rintro aa wa ⟨fa, h12, h13, h14, h15, h16, h17, h18, h19, h21, h23, h24, rfl⟩
    refine does_seq (x := cpart [1, 1, 1, 1, 1, 1, 1, 1, 1, 1, 0] cD) (y := cpart [1, 1, 1, 1, 1, 1, 1, 1, 1, 1, 1] cD) (by kernel_rfl) ?_ hend
    rcases hn8 with hn | hn | hn | hn | hn | hn | hn
    · rcases Nat.lt_or_ge (ff ps) N with hfu | hfu
      · exact p34o_y fa hG hM9 hL hs9.hh hs9.pr h50 hN hNs hfu hn rfl h12 h13 h14 h15 h16 h17 h18 h19 h21 h23 h24
      · exact p34o_f fa hG hM9 hL hs9.hh hs9.pr h50 hN hNs9 (by have := ff_le ps; have := hL.ply.lp; omega) hn h12 h13 h14 h15 h16 h17 h18 h19 h21 h23 h24
    · exact p34c_s fa hG hM9 hL hs9.hh hs9.pr h50 hk hs hx hbl hm hn h12 h13 h14 h15 h16 h17 h18 h19 h21 h23 h24
    · exact p34s_s fa hG hM9 hL hs9.hh hs9.pr h50 hk hs hx hbl hn h12 h13 h14 h15 h16 h17 h18 h19 h21 h23 h24
    · cases hwt : s.wt
      · exact p34t_i fa hG hM9 hL hs9.hh hs9.pr h50 hk hs hx hbl hwt hn h12 h13 h14 h15 h16 h17 h18 h19 h21 h23 h24
      · exact p34t_y fa hG hM9 hL hs9.hh hs9.pr h50 hk hs hx hbl hwt hn h12 h13 h14 h15 h16 h17 h18 h19 h21 h23 h24
    · rcases Nat.lt_or_ge (ff s.ps) Ns with hfu | hfu
      · exact p34k_y fa hG hM9 hL hs9.hh hs9.pr h50 hk hs hx hbl hfu hNs9 hn h12 h13 h14 h15 h16 h17 h18 h19 h21 h23 h24
      · exact p34k_f fa hG hM9 hL hs9.hh hs9.pr h50 hk hs hx hbl (by have := ff_le s.ps; have := (hL.sps s hsm).lp; omega) hNs9 hn h12 h13 h14 h15 h16 h17 h18 h19 h21 h23 h24
    · rcases hat with ⟨rfl, hg⟩ | ⟨j, hj, rfl, he⟩
      · exact p34f_g6 (v21 := .nilIface) fa hG hM9 hL hs9.hh hs9.pr h50 hs9.ss hk hs hx hbl hg hn h12 h13 h14 h15 h16 h17 h18 h19 h21 h23 h24
      · exact p34f_y6 (v21 := .nilIface) fa hG hM9 hL hs9.hh hs9.pr h50 hs9.ss hk hs hx hbl hj he hn h12 h13 h14 h15 h16 h17 h18 h19 h21 h23 h24
    · rcases hat with ⟨rfl, hg⟩ | ⟨j, hj, rfl, he⟩
      · exact p34f_g7 (v21 := .nilIface) fa hG hM9 hL hs9.hh hs9.pr h50 hs9.ss hk hs hx hbl hg hn h12 h13 h14 h15 h16 h17 h18 h19 h21 h23 h24
      · exact p34f_y7 (v21 := .nilIface) fa hG hM9 hL hs9.hh hs9.pr h50 hs9.ss hk hs hx hbl hj he hn h12 h13 h14 h15 h16 h17 h18 h19 h21 h23 h24
end
end Go.Proofs.YtphaaagcdjpceaaDoor
namespace Go.Proofs.YtphaaagcdjpceaaDoor
open Go.RowKit Go.Extern.Stop Go.Stop Go.Extern Go.Proofs.YtphaaagcdjpceaaDoorW.PrintWords Go.Proofs.YtphaaagcdjpceaaDoorW.PrintLast Go.Proofs.YtphaaagcdjpceaaDoorW.PrintMore
set_option linter.unusedVariables false
attribute [local go_sem high] eq40 ne40
section
variable {v0 v1 : Value} {A : Option Addr} {len cap : Nat} {B : Option Addr} {lenB capB : Nat} {v9 : Value} {d rp : Nat} {w W0 W : World} {va vo : Value} {i : Nat}
set_option maxHeartbeats 4000000 in
set_option maxRecDepth 100000 in
theorem p10t {a : Act} (hFD : FD a v0 v1 A len cap B lenB capB v9 d rp)
    (hl : i < len) (h50 : i < 50) (h12 : sl a 12 = va) (h13 : sl a 13 = vo) (h14 : sl a 14 = .int .i64 (i : Int)) :
    Does (cpart [1, 0, 1, 0, 0, 1, 0, 0, 1, 1, 1, 1, 0, 1, 0, 0, 0] body11) (fun a' w' => FD a' v0 v1 A len cap B lenB capB v9 d rp ∧ sl a' 12 = va ∧ sl a' 13 = vo ∧ sl a' 14 = .int .i64 (i : Int) ∧ w' = W) a W := by
  obtain ⟨hf, g0, g1, g2, g3, g9, g10, g11⟩ := hFD
  obtain ⟨u, rfl⟩ := hf.open
  rw [sl_fr u 0 (by decide)] at g0
  rw [sl_fr u 1 (by decide)] at g1
  rw [sl_fr u 2 (by decide)] at g2
  rw [sl_fr u 3 (by decide)] at g3
  rw [sl_fr u 9 (by decide)] at g9
  rw [sl_fr u 10 (by decide)] at g10
  rw [sl_fr u 11 (by decide)] at g11
  rw [sl_fr u 12 (by decide)] at h12
  rw [sl_fr u 13 (by decide)] at h13
  rw [sl_fr u 14 (by decide)] at h14
  intro J Q hJ hQ
  unfold fr
  rw [g0, g1, g2, g3, g9, g10, g11, h12, h13, h14]
  clear hf g0 g1 g2 g3 g9 g10 g11 h12 h13 h14
  conv => arg 2; whnf
  have c0 : (i : Int) < (len : Int) := by omega
  have c1 : (i : Int) < 50 := by omega
  clear hl h50
  go_wp2
  refine Met.intro (hJ _ _ ?_)
  exact ⟨⟨⟨rfl, rfl⟩, rfl, rfl, rfl, rfl, rfl, rfl, rfl⟩, rfl, rfl, rfl, rfl⟩
set_option maxHeartbeats 4000000 in
set_option maxRecDepth 100000 in
theorem p10f {a : Act} (hFD : FD a v0 v1 A len cap B lenB capB v9 d rp)
    (hl : ¬ (i < len ∧ i < 50)) (h12 : sl a 12 = va) (h13 : sl a 13 = vo) (h14 : sl a 14 = .int .i64 (i : Int)) :
    Stops 2 (cpart [1, 0, 1, 0, 0, 1, 0, 0, 1, 1, 1, 1, 0, 1, 0, 0, 0] body11) (fun a' w' => FD a' v0 v1 A len cap B lenB capB v9 d rp ∧ sl a' 12 = va ∧ sl a' 13 = vo ∧ sl a' 14 = .int .i64 (i : Int) ∧ w' = W) a W := by
  obtain ⟨hf, g0, g1, g2, g3, g9, g10, g11⟩ := hFD
  obtain ⟨u, rfl⟩ := hf.open
  rw [sl_fr u 0 (by decide)] at g0
  rw [sl_fr u 1 (by decide)] at g1
  rw [sl_fr u 2 (by decide)] at g2
  rw [sl_fr u 3 (by decide)] at g3
  rw [sl_fr u 9 (by decide)] at g9
  rw [sl_fr u 10 (by decide)] at g10
  rw [sl_fr u 11 (by decide)] at g11
  rw [sl_fr u 12 (by decide)] at h12
  rw [sl_fr u 13 (by decide)] at h13
  rw [sl_fr u 14 (by decide)] at h14
  intro J Q hJ hQ
  unfold fr
  rw [g0, g1, g2, g3, g9, g10, g11, h12, h13, h14]
  clear hf g0 g1 g2 g3 g9 g10 g11 h12 h13 h14
  conv => arg 2; whnf
  by_cases h1 : i < len
  · have c0 : (i : Int) < (len : Int) := by omega
    have c1 : ¬ ((i : Int) < 50) := by omega
    clear hl h1
    go_wp2
    refine Met.intro (hJ _ _ ?_)
    exact ⟨⟨⟨rfl, rfl⟩, rfl, rfl, rfl, rfl, rfl, rfl, rfl⟩, rfl, rfl, rfl, rfl⟩
  · have c0 : ¬ ((i : Int) < (len : Int)) := by omega
    clear hl h1
    go_wp2
    refine Met.intro (hJ _ _ ?_)
    exact ⟨⟨⟨rfl, rfl⟩, rfl, rfl, rfl, rfl, rfl, rfl, rfl⟩, rfl, rfl, rfl, rfl⟩
set_option maxHeartbeats 4000000 in
set_option maxRecDepth 100000 in
theorem p11 {a : Act} (hFD : FD a v0 v1 A len cap B lenB capB v9 d rp)
    (h50 : i < 50) (h12 : sl a 12 = va) (h13 : sl a 13 = vo) (h14 : sl a 14 = .int .i64 (i : Int)) :
    Does (cpart [1, 0, 1, 0, 0, 1, 0, 0, 1, 1, 1, 1, 0, 1, 0, 0, 1, 1] body11) (fun a' w' => FD a' v0 v1 A len cap B lenB capB v9 d rp ∧ sl a' 12 = va ∧ sl a' 13 = vo ∧ sl a' 14 = .int .i64 ((i + 1 : Nat) : Int) ∧ w' = W) a W := by
  obtain ⟨hf, g0, g1, g2, g3, g9, g10, g11⟩ := hFD
  obtain ⟨u, rfl⟩ := hf.open
  rw [sl_fr u 0 (by decide)] at g0
  rw [sl_fr u 1 (by decide)] at g1
  rw [sl_fr u 2 (by decide)] at g2
  rw [sl_fr u 3 (by decide)] at g3
  rw [sl_fr u 9 (by decide)] at g9
  rw [sl_fr u 10 (by decide)] at g10
  rw [sl_fr u 11 (by decide)] at g11
  rw [sl_fr u 12 (by decide)] at h12
  rw [sl_fr u 13 (by decide)] at h13
  rw [sl_fr u 14 (by decide)] at h14
  intro J Q hJ hQ
  unfold fr
  rw [g0, g1, g2, g3, g9, g10, g11, h12, h13, h14]
  clear hf g0 g1 g2 g3 g9 g10 g11 h12 h13 h14
  conv => arg 2; whnf
  have c1 : (i : Int) < 50 := by omega
  have c0 : (0 : Int) ≤ (i : Int) := by omega
  have hc : (i : Int) + 1 = ((i + 1 : Nat) : Int) := by omega
  have HC := Lib.hid hc
  clear h50 hc
  go_wp2
  refine Met.intro (hJ _ _ ?_)
  exact ⟨⟨⟨rfl, rfl⟩, rfl, rfl, rfl, rfl, rfl, rfl, rfl⟩, rfl, rfl, (by show Value.int .i64 ((i : Int) + 1) = _; rw [HC.out]), rfl⟩
structure FE (a : Act) (a0 b0 : Int) (A : Option Addr) (len cap : Nat) (B : Option Addr) (lenB capB : Nat) (q : Nat) : Prop where
  ok : FrA a
  s0 : sl a 0 = .int .i64 a0
  s1 : sl a 1 = .int .i64 b0
  s2 : sl a 2 = .slice A len cap
  s3 : sl a 3 = .slice B lenB capB
  s9 : sl a 9 = .int .i64 (q : Int)
set_option maxHeartbeats 4000000 in
set_option maxRecDepth 100000 in
theorem p2t {a : Act} (hf : FrA a)
    {a0 b0 : Int} {q : Nat} (hq : q < 2) (h0 : sl a 0 = .int .i64 a0) (h1 : sl a 1 = .int .i64 b0) (h2 : sl a 2 = .slice A len cap) (h3 : sl a 3 = .slice B lenB capB) (h9 : sl a 9 = .int .i64 (q : Int)) :
    Does (cpart [1, 0, 1, 0, 0, 0] body11) (fun a' w' => FE a' a0 b0 A len cap B lenB capB q ∧ w' = W) a W := by
  obtain ⟨u, rfl⟩ := hf.open
  rw [sl_fr u 0 (by decide)] at h0
  rw [sl_fr u 1 (by decide)] at h1
  rw [sl_fr u 2 (by decide)] at h2
  rw [sl_fr u 3 (by decide)] at h3
  rw [sl_fr u 9 (by decide)] at h9
  intro J Q hJ hQ
  unfold fr
  rw [h0, h1, h2, h3, h9]
  clear hf h0 h1 h2 h3 h9
  conv => arg 2; whnf
  have c0 : (q : Int) < 2 := by omega
  clear hq
  go_wp2
  refine Met.intro (hJ _ _ ?_)
  exact ⟨⟨⟨rfl, rfl⟩, rfl, rfl, rfl, rfl, rfl⟩, rfl⟩
set_option maxHeartbeats 4000000 in
set_option maxRecDepth 100000 in
theorem p2f {a : Act} (hf : FrA a)
    {a0 b0 : Int} {q : Nat} (hq : ¬ q < 2) (h0 : sl a 0 = .int .i64 a0) (h1 : sl a 1 = .int .i64 b0) (h2 : sl a 2 = .slice A len cap) (h3 : sl a 3 = .slice B lenB capB) (h9 : sl a 9 = .int .i64 (q : Int)) :
    Stops 0 (cpart [1, 0, 1, 0, 0, 0] body11) (fun a' w' => FrA a' ∧ w' = W) a W := by
  obtain ⟨u, rfl⟩ := hf.open
  rw [sl_fr u 0 (by decide)] at h0
  rw [sl_fr u 1 (by decide)] at h1
  rw [sl_fr u 2 (by decide)] at h2
  rw [sl_fr u 3 (by decide)] at h3
  rw [sl_fr u 9 (by decide)] at h9
  intro J Q hJ hQ
  unfold fr
  rw [h0, h1, h2, h3, h9]
  clear hf h0 h1 h2 h3 h9
  conv => arg 2; whnf
  have c0 : ¬ ((q : Int) < 2) := by omega
  clear hq
  go_wp2
  refine Met.intro (hJ _ _ ?_)
  exact ⟨⟨rfl, rfl⟩, rfl⟩
set_option maxHeartbeats 4000000 in
set_option maxRecDepth 100000 in
theorem p4 {a : Act} (hf : FrA a)
    {a0 b0 : Int} {q : Nat} {N : Nat} (hN : min (max a0 0) 10000 = (N : Int)) (hb : Below w.heap.size w W) (h0 : sl a 0 = .int .i64 a0) (h1 : sl a 1 = .int .i64 b0) (h2 : sl a 2 = .slice A len cap) (h3 : sl a 3 = .slice B lenB capB) (h9 : sl a 9 = .int .i64 (q : Int)) :
    Does (cpart [1, 0, 1, 0, 0, 1, 0, 0, 0] body11) (fun a' w' => ∃ d pg M rp, FD a' (.int .i64 a0) (.int .i64 b0) A len cap B lenB capB (.int .i64 (q : Int)) d rp ∧ DS w w' d pg M (N : Int) 0 [] b0 0 (.map []) (min (max b0 0) 10000) F0 ∧ RP w' w.heap.size rp [] N) a W := by
  obtain ⟨u, rfl⟩ := hf.open
  rw [sl_fr u 0 (by decide)] at h0
  rw [sl_fr u 1 (by decide)] at h1
  rw [sl_fr u 2 (by decide)] at h2
  rw [sl_fr u 3 (by decide)] at h3
  rw [sl_fr u 9 (by decide)] at h9
  intro J Q hJ hQ
  unfold fr
  rw [h0, h1, h2, h3, h9]
  clear hf h0 h1 h2 h3 h9
  conv => arg 2; whnf
  have HN := Lib.hid hN
  have HB := Lib.hid hb
  clear hN hb
  go_wp2_with (fail)
  go_at_call 39
  (with_reducible refine (dnew (w := w) a0 b0 HB.out).mono ?_)
  rintro e w1 ⟨d, pg, M, rfl, h1, b1⟩
  rw [HN.out] at h1
  have H1 := Lib.hid h1
  clear h1 b1
  go_wp2_with (fail)
  go_at_call 20
  (with_reducible refine (newref_calls a0 N HN.out _).mono ?_)
  rintro e w2 ⟨r, rfl, hr, hb⟩
  have H2 := Lib.hid (H1.out.below hb)
  have HR := Lib.hid (hr.lower H1.out.bl.size)
  clear hr hb H1
  go_wp2
  refine Met.intro (hJ _ _ ?_)
  exact ⟨d, pg, M, r, ⟨⟨rfl, rfl⟩, rfl, rfl, rfl, rfl, rfl, rfl, rfl⟩, H2.out, HR.out⟩
set_option maxHeartbeats 4000000 in
set_option maxRecDepth 100000 in
theorem p5 {a : Act} (hFD : FD a v0 v1 A len cap B lenB capB v9 d rp)
      :
    Does (cpart [1, 0, 1, 0, 0, 1, 0, 0, 1, 0] body11) (fun a' w' => FD a' v0 v1 A len cap B lenB capB v9 d rp ∧ w' = W) a W := by
  obtain ⟨hf, g0, g1, g2, g3, g9, g10, g11⟩ := hFD
  obtain ⟨u, rfl⟩ := hf.open
  rw [sl_fr u 0 (by decide)] at g0
  rw [sl_fr u 1 (by decide)] at g1
  rw [sl_fr u 2 (by decide)] at g2
  rw [sl_fr u 3 (by decide)] at g3
  rw [sl_fr u 9 (by decide)] at g9
  rw [sl_fr u 10 (by decide)] at g10
  rw [sl_fr u 11 (by decide)] at g11
  intro J Q hJ hQ
  unfold fr
  rw [g0, g1, g2, g3, g9, g10, g11]
  clear hf g0 g1 g2 g3 g9 g10 g11
  conv => arg 2; whnf
  go_wp2
  refine Met.intro (hJ _ _ ?_)
  exact ⟨⟨⟨rfl, rfl⟩, rfl, rfl, rfl, rfl, rfl, rfl, rfl⟩, rfl⟩
set_option maxHeartbeats 4000000 in
set_option maxRecDepth 100000 in
theorem p112 {a : Act} (hFD : FD a v0 v1 A len cap B lenB capB v9 d rp)
    {a0 b0 : Int} {q : Nat} (hv0 : v0 = .int .i64 a0) (hv1 : v1 = .int .i64 b0) (hv9 : v9 = .int .i64 (q : Int))  :
    Does (cpart [1, 0, 1, 0, 0, 1, 0, 0, 1, 1, 1, 1, 1] body11) (fun a' w' => ∃ a1 b1 : Int, FE a' a1 b1 A len cap B lenB capB q ∧ w' = W) a W := by
  subst hv0 hv1 hv9
  obtain ⟨hf, g0, g1, g2, g3, g9, g10, g11⟩ := hFD
  obtain ⟨u, rfl⟩ := hf.open
  rw [sl_fr u 0 (by decide)] at g0
  rw [sl_fr u 1 (by decide)] at g1
  rw [sl_fr u 2 (by decide)] at g2
  rw [sl_fr u 3 (by decide)] at g3
  rw [sl_fr u 9 (by decide)] at g9
  rw [sl_fr u 10 (by decide)] at g10
  rw [sl_fr u 11 (by decide)] at g11
  intro J Q hJ hQ
  unfold fr
  rw [g0, g1, g2, g3, g9, g10, g11]
  clear hf g0 g1 g2 g3 g9 g10 g11
  conv => arg 2; whnf
  go_wp2
  refine Met.intro (hJ _ _ ?_)
  exact ⟨_, _, ⟨⟨rfl, rfl⟩, rfl, rfl, rfl, rfl, rfl⟩, rfl⟩
set_option maxHeartbeats 4000000 in
set_option maxRecDepth 100000 in
theorem p3 {a : Act} (hf : FrA a)
    {a0 b0 : Int} {q : Nat} (hq : q < 2) (h0 : sl a 0 = .int .i64 a0) (h1 : sl a 1 = .int .i64 b0) (h2 : sl a 2 = .slice A len cap) (h3 : sl a 3 = .slice B lenB capB) (h9 : sl a 9 = .int .i64 (q : Int)) :
    Does (cpart [1, 0, 1, 0, 0, 1, 1] body11) (fun a' w' => FE a' a0 b0 A len cap B lenB capB (q + 1) ∧ w' = W) a W := by
  obtain ⟨u, rfl⟩ := hf.open
  rw [sl_fr u 0 (by decide)] at h0
  rw [sl_fr u 1 (by decide)] at h1
  rw [sl_fr u 2 (by decide)] at h2
  rw [sl_fr u 3 (by decide)] at h3
  rw [sl_fr u 9 (by decide)] at h9
  intro J Q hJ hQ
  unfold fr
  rw [h0, h1, h2, h3, h9]
  clear hf h0 h1 h2 h3 h9
  conv => arg 2; whnf
  have c0 : (q : Int) < 2 := by omega
  have c1 : (0 : Int) ≤ (q : Int) := by omega
  have hc : (q : Int) + 1 = ((q + 1 : Nat) : Int) := by omega
  have HC := Lib.hid hc
  clear hq hc
  go_wp2
  refine Met.intro (hJ _ _ ?_)
  exact ⟨⟨⟨rfl, rfl⟩, rfl, rfl, rfl, rfl, (by show Value.int .i64 ((q : Int) + 1) = _; rw [HC.out])⟩, rfl⟩
set_option maxRecDepth 100000 in
theorem inner11 {a : Act} {zs zs2 : List Int} {M pg N Ns : Nat} {a0 b0 : Int} {q : Nat} (hFD : FD a (.int .i64 a0) (.int .i64 b0) A len cap B lenB capB (.int .i64 (q : Int)) d rp) (hG : Good w) (hi : InRow w A len cap zs) (hh : InHands w B lenB capB zs2) (hN : N ≤ 10000) (hNs : min (max b0 0) 10000 = (Ns : Int))
    (hS : St11 w W d pg M rp N Ns b0 0 va vo) (h12 : sl a 12 = va) (h13 : sl a 13 = vo) (h14 : sl a 14 = .int .i64 0) :
    Does (cpart [1, 0, 1, 0, 0, 1, 0, 0, 1, 1, 1, 1, 0, 1] body11) (fun a' w' => FD a' (.int .i64 a0) (.int .i64 b0) A len cap B lenB capB (.int .i64 (q : Int)) d rp ∧ Below w.heap.size w w') a W := by
  rw [show cpart [1, 0, 1, 0, 0, 1, 0, 0, 1, 1, 1, 1, 0, 1] body11 = .block 2 (.loop (cpart [1, 0, 1, 0, 0, 1, 0, 0, 1, 1, 1, 1, 0, 1, 0, 0] body11)) from by kernel_rfl]
  refine Does.loop (fun n a' w' => ∃ i va vo, n = 60 - i ∧ i ≤ 50 ∧ FD a' (.int .i64 a0) (.int .i64 b0) A len cap B lenB capB (.int .i64 (q : Int)) d rp ∧ sl a' 12 = va ∧ sl a' 13 = vo ∧ sl a' 14 = .int .i64 (i : Int) ∧ St11 w w' d pg M rp N Ns b0 i va vo) 60 ⟨0, va, vo, rfl, by decide, hFD, h12, h13, h14, hS⟩ ?_
  rintro n a1 w1 ⟨i, va1, vo1, rfl, hi50, f1, h12, h13, h14, hS1⟩
  by_cases hc : i < len ∧ i < 50
  · left
    refine does_seq (x := cpart [1, 0, 1, 0, 0, 1, 0, 0, 1, 1, 1, 1, 0, 1, 0, 0, 0] body11) (y := cpart [1, 0, 1, 0, 0, 1, 0, 0, 1, 1, 1, 1, 0, 1, 0, 0, 1] body11) (by kernel_rfl) (p10t f1 hc.1 hc.2 h12 h13 h14) ?_
    rintro a2 w2 ⟨f2, h12, h13, h14, rfl⟩
    refine does_seq (x := .block 3 cD) (y := cpart [1, 0, 1, 0, 0, 1, 0, 0, 1, 1, 1, 1, 0, 1, 0, 0, 1, 1] body11) (by kernel_rfl) (Does.block (round11 f2 hG hi hh hN hNs hS1 h12 h13 h14 hc.1 hc.2)) ?_
    rintro a3 w3 ⟨f3, h14, va3, vo3, h12, h13, hS3⟩
    refine (p11 f3 hc.2 h12 h13 h14).mono ?_
    rintro a4 w4 ⟨f4, h12, h13, h14, rfl⟩
    exact ⟨60 - (i + 1), by omega, i + 1, va3, vo3, rfl, by omega, f4, h12, h13, h14, hS3⟩
  · right
    rw [show cpart [1, 0, 1, 0, 0, 1, 0, 0, 1, 1, 1, 1, 0, 1, 0, 0] body11 = .seq (cpart [1, 0, 1, 0, 0, 1, 0, 0, 1, 1, 1, 1, 0, 1, 0, 0, 0] body11) (cpart [1, 0, 1, 0, 0, 1, 0, 0, 1, 1, 1, 1, 0, 1, 0, 0, 1] body11) from by kernel_rfl]
    refine Stops.seq ?_
    intro J Q hJ hQ
    refine p10f f1 hc h12 h13 h14 J Q (fun a' w' h => hJ a' w' ?_) hQ
    obtain ⟨f2, _, _, _, rfl⟩ := h
    obtain ⟨ps, cp, Dm, F, L, os, hM, _⟩ := hS1
    exact ⟨f2, hM.ds.bl⟩
set_option maxRecDepth 100000 in
theorem outer11 {a : Act} {zs zs2 : List Int} {a0 b0 : Int} {q : Nat} (hE : FE a a0 b0 A len cap B lenB capB q) (hG : Good w) (hi : InRow w A len cap zs) (hh : InHands w B lenB capB zs2) (hb : Below w.heap.size w W) :
    Does (cpart [1, 0, 1, 0, 0, 1, 0, 0] body11) (fun a' w' => ∃ a1 b1 : Int, FE a' a1 b1 A len cap B lenB capB q ∧ Below w.heap.size w w') a W := by
  obtain ⟨N, hN⟩ : ∃ N : Nat, min (max a0 0) 10000 = (N : Int) := ⟨(min (max a0 0) 10000).toNat, by omega⟩
  obtain ⟨Ns, hNs⟩ : ∃ Ns : Nat, min (max b0 0) 10000 = (Ns : Int) := ⟨(min (max b0 0) 10000).toNat, by omega⟩
  have hN9 : N ≤ 10000 := by omega
  refine does_seq (x := cpart [1, 0, 1, 0, 0, 1, 0, 0, 0] body11) (y := cpart [1, 0, 1, 0, 0, 1, 0, 0, 1] body11) (by kernel_rfl) (p4 hE.ok hN hb hE.s0 hE.s1 hE.s2 hE.s3 hE.s9) ?_
  rintro a1 w1 ⟨d, pg, M, rp, f1, hds, hrp⟩
  rw [hNs] at hds
  refine does_seq (x := cpart [1, 0, 1, 0, 0, 1, 0, 0, 1, 0] body11) (y := cpart [1, 0, 1, 0, 0, 1, 0, 0, 1, 1] body11) (by kernel_rfl) (p5 f1) ?_
  rintro a2 w2 ⟨f2, rfl⟩
  have hS0 : ∀ w', w' = w2 → St11 w w' d pg M rp N Ns b0 0 (.slice none 0 0) (.slice none 0 0) := by
    rintro w' rfl
    refine ⟨[], 0, .map [], F0, [], [], ⟨?_, hrp, SL.nil _ _ _, Kd.R_nil _ _ _ _ _, Kd.R_nil _ _ _ _ _, fun s h => by simp at h, fun s h => by simp at h, fun s h => by simp at h⟩, WL.start N Ns F0⟩
    exact hds
  refine does_seq (x := cpart [1, 0, 1, 0, 0, 1, 0, 0, 1, 1, 0] body11) (y := cpart [1, 0, 1, 0, 0, 1, 0, 0, 1, 1, 1] body11) (by kernel_rfl) (does_reg (d := 12) (v := .slice none 0 0) (by rfl) f2.ok (by decide)) ?_
  rintro a3 w3 ⟨q3, rfl⟩
  have f3 := f2.put q3 (by decide)
  have h12 := q3.at_
  refine does_seq (x := cpart [1, 0, 1, 0, 0, 1, 0, 0, 1, 1, 1, 0] body11) (y := cpart [1, 0, 1, 0, 0, 1, 0, 0, 1, 1, 1, 1] body11) (by kernel_rfl) (does_reg (d := 13) (v := .slice none 0 0) (by rfl) f3.ok (by decide)) ?_
  rintro a4 w4 ⟨q4, rfl⟩
  have f4 := f3.put q4 (by decide)
  replace h12 := (q4.ne 12 (by decide)).trans h12
  have h13 := q4.at_
  refine does_seq (x := .seq (cpart [1, 0, 1, 0, 0, 1, 0, 0, 1, 1, 1, 1, 0, 0] body11) (cpart [1, 0, 1, 0, 0, 1, 0, 0, 1, 1, 1, 1, 0, 1] body11)) (y := cpart [1, 0, 1, 0, 0, 1, 0, 0, 1, 1, 1, 1, 1] body11) (by kernel_rfl) (Does.seq (does_reg (d := 14) (v := .int .i64 0) (by rfl) f4.ok (by decide)) (S := fun a' w' => FD a' (.int .i64 a0) (.int .i64 b0) A len cap B lenB capB (.int .i64 (q : Int)) d rp ∧ Below w.heap.size w w') ?_) ?_
  · rintro a5 w5 ⟨q5, rfl⟩
    have f5 := f4.put q5 (by decide)
    replace h12 := (q5.ne 12 (by decide)).trans h12
    replace h13 := (q5.ne 13 (by decide)).trans h13
    exact inner11 f5 hG hi hh hN9 hNs (hS0 _ rfl) h12 h13 q5.at_
  · rintro a9 w9 ⟨f9, hb9⟩
    exact (p112 f9 rfl rfl rfl).mono (fun a' w' ⟨a1, b1, fe, e⟩ => ⟨a1, b1, fe, by rw [e]; exact hb9⟩)
set_option maxRecDepth 100000 in
theorem loops11 {a : Act} {zs zs2 : List Int} {a0 b0 : Int} (hE : FE a a0 b0 A len cap B lenB capB 0) (hG : Good w) (hi : InRow w A len cap zs) (hh : InHands w B lenB capB zs2) :
    Does (cpart [1, 0, 1] body11) (fun a' w' => FrA a' ∧ Below w.heap.size w w') a w := by
  rw [show cpart [1, 0, 1] body11 = .block 0 (.loop (cpart [1, 0, 1, 0, 0] body11)) from by kernel_rfl]
  refine Does.loop (fun n a' w' => ∃ q a1 b1, n = 2 - q ∧ q ≤ 2 ∧ FE a' a1 b1 A len cap B lenB capB q ∧ Below w.heap.size w w') 2 ⟨0, a0, b0, rfl, by decide, hE, Below.refl _ _⟩ ?_
  rintro n a1 w1 ⟨q, a2, b2, rfl, hq2, e1, hb1⟩
  by_cases hq : q < 2
  · left
    refine does_seq (x := cpart [1, 0, 1, 0, 0, 0] body11) (y := cpart [1, 0, 1, 0, 0, 1] body11) (by kernel_rfl) (p2t e1.ok hq e1.s0 e1.s1 e1.s2 e1.s3 e1.s9) ?_
    rintro a3 w3 ⟨e3, rfl⟩
    refine does_seq (x := .block 1 (cpart [1, 0, 1, 0, 0, 1, 0, 0] body11)) (y := cpart [1, 0, 1, 0, 0, 1, 1] body11) (by kernel_rfl) (Does.block (outer11 e3 hG hi hh hb1)) ?_
    rintro a4 w4 ⟨a5, b5, e4, hb4⟩
    refine (p3 e4.ok hq e4.s0 e4.s1 e4.s2 e4.s3 e4.s9).mono ?_
    rintro a6 w6 ⟨e6, rfl⟩
    exact ⟨2 - (q + 1), by omega, q + 1, a5, b5, rfl, by omega, e6, hb4⟩
  · right
    rw [show cpart [1, 0, 1, 0, 0] body11 = .seq (cpart [1, 0, 1, 0, 0, 0] body11) (cpart [1, 0, 1, 0, 0, 1] body11) from by kernel_rfl]
    refine Stops.seq ?_
    intro J Q hJ hQ
    refine p2f e1.ok hq e1.s0 e1.s1 e1.s2 e1.s3 e1.s9 J Q (fun a' w' h => hJ a' w' ?_) hQ
    obtain ⟨f2, rfl⟩ := h
    exact ⟨f2, hb1⟩
set_option maxHeartbeats 4000000 in
set_option maxRecDepth 100000 in
theorem desk_walk (a b : Int) (A : Option Addr) (len cap : Nat) (zs : List Int) (B : Option Addr) (lenB capB : Nat) (zs2 : List Int) (w : World) (hG : Good w) (hi : InRow w A len cap zs) (hh : InHands w B lenB capB zs2) : Calls Tryd.prog 11 #[.int .i64 a, .int .i64 b, .slice A len cap, .slice B lenB capB] w fun e w' => e = .returned (.bool true) ∧ Below w.heap.size w w' := by
  go_enter Tryd.func11, Tryd.ntmps11
  refine wp_seq ?_
  refine does_assign (d := 8) (v := .bool false) ⟨rfl, rfl⟩ (by decide) (fun a' w' => Put _ a' 8 (.bool false) ∧ w' = w) _ (fun _ _ h => h) ?_
  rintro a1 w1 ⟨q1, rfl⟩
  have s0 := (q1.ne 0 (by decide)).trans (show _ = Value.int .i64 a from rfl)
  have s1 := (q1.ne 1 (by decide)).trans (show _ = Value.int .i64 b from rfl)
  have s2 := (q1.ne 2 (by decide)).trans (show _ = Value.slice A len cap from rfl)
  have s3 := (q1.ne 3 (by decide)).trans (show _ = Value.slice B lenB capB from rfl)
  have hk1 := q1.ok
  clear q1
  refine wp_seq (wp_seq ?_)
  refine does_assign (d := 9) (v := .int .i64 0) hk1 (by decide) (fun a' w' => Put _ a' 9 (.int .i64 0) ∧ w' = w1) _ (fun _ _ h => h) ?_
  rintro a2 w2 ⟨q2, rfl⟩
  have hE : FE a2 a b A len cap B lenB capB 0 := ⟨q2.ok, (q2.ne 0 (by decide)).trans s0, (q2.ne 1 (by decide)).trans s1, (q2.ne 2 (by decide)).trans s2, (q2.ne 3 (by decide)).trans s3, q2.at_⟩
  clear q2 s0 s1 s2 s3 hk1
  refine (loops11 hE hG hi hh) _ _ (fun _ _ h => h) ?_
  rintro a3 w3 ⟨hf, hb⟩
  obtain ⟨u, rfl⟩ := hf.open
  have HG := Lib.hid hG
  have HB := Lib.hid hb
  clear hE hG hi hh hf hb
  unfold fr
  simp only [Exit.then]
  go_wp2_with (fail)
  go_at_call 48
  (with_reducible refine (awaked_calls _ (HG.out.below HB.out)).mono ?_)
  rintro e w4 ⟨rfl, hb4⟩
  have HB4 := Lib.hid (below_step HB.out hb4)
  clear hb4
  go_wp2
  go_ret
  exact ⟨rfl, HB4.out⟩
end
end Go.Proofs.YtphaaagcdjpceaaDoor
