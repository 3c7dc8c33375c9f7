import Derived.Test.YtphaaagcdjpceaaDoorME
import Derived.Test.YtphaaagcdjpceaaDoorWTab
import Derived.Deep.RegionHeld3
import Derived.Deep.QuietTactic
import Derived.BigQuiet
namespace Go.Proofs.YtphaaagcdjpceaaDoor
open Go.RowKit Go.Extern.Stop Go.Stop Go.Extern Go.Proofs.YtphaaagcdjpceaaDoorW.PrintWords Go.Proofs.YtphaaagcdjpceaaDoorW.PrintLast Go.Proofs.YtphaaagcdjpceaaDoorW.PrintMore
set_option linter.unusedVariables false
def deskP.T107 : Bool × List (List Nat × List Nat) := (true, [([], []), ([], []), ([], []), ([2], [2]), ([3], [3]), ([4], [4]), ([], []), ([6], [6]), ([5, 7], [5, 7]), ([], []), ([9], [9]), ([10], [10]), ([11], [11]), ([], []), ([13], [13]), ([14], [14]), ([15], [15]), ([12, 16, 8], [12, 16]), ([0, 0, 2, 3, 4, 5, 6, 7, 8, 12, 17], [0]), ([18, 0, 2, 3, 4, 5, 6, 7, 8, 12, 17], [18]), ([19, 8, 17, 0, 2, 3, 4, 5, 6, 7, 8, 12, 17], [8, 19]), ([1, 0, 1, 2, 3, 4, 5, 6, 7, 8, 9, 10, 11, 12, 13, 14, 15, 16, 17, 18, 19, 20], [1]), ([21, 0, 1, 2, 3, 4, 5, 6, 7, 8, 9, 10, 11, 12, 13, 14, 15, 16, 17, 18, 19, 20], [21]), ([22, 17, 20, 0, 1, 2, 3, 4, 5, 6, 7, 8, 9, 10, 11, 12, 13, 14, 15, 16, 17, 18, 19, 20], [17, 22])])
def deskP.B107 : List Nat := [0, 0, 0, 4, 12, 28, 0, 64, 252, 0, 512, 1536, 3584, 0, 8192, 24576, 57344, 131068, 262141, 524285, 1048573, 2097151, 4194303, 8388607]
theorem deskP.tab107 : rtab .any (opsOf Tryd.f11 107) = deskP.T107 := by kernel_rfl
theorem deskP.bits107 : waitsOk deskP.T107.2 deskP.B107 = true := by kernel_rfl
theorem heap_at2 {W : World} {o : Obj} {H : Nat} (h : H = W.heap.size) : (W.alloc o).heap[H]? = some o := by subst h; exact heap_alloc_new _ _
theorem R_sl2 {α : Type} {d : Kd α} {e : Nat} {w : World} {base : Nat} {ok : Nat → Prop} {v : Value} {xs : List α} (h : d.R e w base ok v xs) : ∃ A n c, v = .slice A n c := by
  obtain ⟨A, c, e⟩ := Kd.R_slice h
  exact ⟨A, _, c, e⟩
theorem own_new {W : World} {b : Nat} {v v1 : Value} (hat : v1.ownBlock = v.ownBlock ∨ ∃ b, v1.ownBlock = some b ∧ W.heap.size ≤ b) (hb : b ≤ W.heap.size) : ∀ k, v1.ownBlock = some k → v.ownBlock = some k ∨ b ≤ k := fun k hk => by
  rcases hat with h | ⟨b2, h, h2⟩
  · rw [h] at hk; exact .inl hk
  · rw [h] at hk; injection hk with hk; subst hk; exact .inr (Nat.le_trans hb h2)
attribute [local go_sem high] eq40 ne40
section
variable {v0 v1 : Value} {A : Option Addr} {len cap : Nat} {B : Option Addr} {lenB capB : Nat} {v9 : Value} {d rp : Nat} {w W0 W : World} {va vo : Value} {i : Nat}
set_option maxHeartbeats 4000000 in
set_option maxRecDepth 100000 in
theorem p34k_n {a : Act} (hFD : FD a v0 v1 A len cap B lenB capB v9 d rp)
    {n : Int} {hb sb : Nat} {p t : Int} {M pg N Ns : Nat} {ps : List S108} {snaps : Int} {cp : Nat} {Dm : DataW Unit} {F : Int → Nat × Sn} {L : List Seat} {os : List S40} {v21 : Value} (hG : Good w) (h : WM w W d pg M rp N Ns (cnt ps : Int) ps ps snaps cp Dm F L va vo os) (hl : WL i N Ns ps os cp Dm F L) (hh : Hn W hb p t) (hpr : -9223372036854775808 ≤ p ∧ p ≤ 9223372036854775807) (hi : i < 50) (hf : ∀ s ∈ L, ¬ (s.x = p ∧ s.t = t)) (hn : n % 8 = 5) (h12 : sl a 12 = va) (h13 : sl a 13 = vo) (h14 : sl a 14 = .int .i64 (i : Int)) (h15 : sl a 15 = .int .i64 n) (h16 : sl a 16 = .pointer (some ⟨hb, 0, none⟩)) (h17 : sl a 17 = .pointer (some ⟨sb, 0, none⟩)) (h18 : sl a 18 = .pointer none) (h19 : sl a 19 = .int .i64 (-1)) (h21 : sl a 21 = v21) (h23 : sl a 23 = .int .i64 0) (h24 : sl a 24 = .int .i64 3) :
    Does (cpart [1, 1, 1, 1, 1, 1, 1, 1, 1, 1, 0] cD) (fun a' w' => FD a' v0 v1 A len cap B lenB capB v9 d rp ∧ sl a' 14 = .int .i64 (i : Int) ∧ ∃ va vo ec, sl a' 12 = va ∧ sl a' 13 = vo ∧ sl a' 23 = .int .i64 ec ∧ sl a' 24 = .int .i64 ec ∧ St11 w w' d pg M rp N Ns snaps (i + 1) va vo) a W := by
  obtain ⟨hf, g0, g1, g2, g3, g9, g10, g11⟩ := hFD
  obtain ⟨u, rfl⟩ := hf.open
  rw [sl_fr u 0 (by decide)] at g0
  rw [sl_fr u 1 (by decide)] at g1
  rw [sl_fr u 2 (by decide)] at g2
  rw [sl_fr u 3 (by decide)] at g3
  rw [sl_fr u 9 (by decide)] at g9
  rw [sl_fr u 10 (by decide)] at g10
  rw [sl_fr u 11 (by decide)] at g11
  rw [sl_fr u 12 (by decide)] at h12
  rw [sl_fr u 13 (by decide)] at h13
  rw [sl_fr u 14 (by decide)] at h14
  rw [sl_fr u 15 (by decide)] at h15
  rw [sl_fr u 16 (by decide)] at h16
  rw [sl_fr u 17 (by decide)] at h17
  rw [sl_fr u 18 (by decide)] at h18
  rw [sl_fr u 19 (by decide)] at h19
  rw [sl_fr u 21 (by decide)] at h21
  rw [sl_fr u 23 (by decide)] at h23
  rw [sl_fr u 24 (by decide)] at h24
  intro J Q hJ hQ
  unfold fr
  rw [g0, g1, g2, g3, g9, g10, g11, h12, h13, h14, h15, h16, h17, h18, h19, h21, h23, h24]
  clear hf g0 g1 g2 g3 g9 g10 g11 h12 h13 h14 h15 h16 h17 h18 h19 h21 h23 h24
  conv => arg 2; whnf
  have HG := Lib.hid hG
  have HM := Lib.hid h
  have HL := Lib.hid hl
  have HH := Lib.hid hh
  have HPR := Lib.hid hpr
  have HI := Lib.hid hi
  clear hG h hl hh hpr hi
  have HF := Lib.hid hf
  clear hf
  have q : Go.bits .and .i64 n 7 = n % 8 := and_mask n 3 (by decide)
  rw [hn] at q
  clear hn
  have q0 := (blk_cell HH.out 0).trans (show _ = some (Value.int .i64 p) from rfl)
  have q1 := (blk_cell HH.out 1).trans (show _ = some (Value.int .i64 t) from rfl)
  have q15 : Go.bits .and .i64 (n / 1099511627776) 15 = n / 1099511627776 % 16 := and_mask (n / 1099511627776) 4 (by decide)
  go_wp2_with (fail)
  clear q q0 q1 q15
  go_at_call 42
  (with_reducible refine (dkeep_no HM.out.ds HG.out HPR.out (HL.out.mt.none HF.out) _).mono ?_)
  rintro e w2 ⟨k2, rfl, hj, _, hb2⟩
  have B2 := below_alloc (Below.refl w2.heap.size w2) (.cells #[.int .i64 0, .int .i64 0] 40)
  have HM2 := Lib.hid ((HM.out.below hb2).below B2)
  have HJ2 := Lib.hid (hj.below B2)
  clear hb2 hj B2 HM HH
  go_wp2_with (fail)
  generalize w2.alloc (.cells #[.int .i64 0, .int .i64 0] 40) = w3 at *
  go_at_call 14
  (with_reducible refine (code_join k2 3 _ (good_et' (HM2.out.ds.good HG.out)) HJ2.out).mono ?_)
  rintro e w5 ⟨rfl, hb5⟩
  have HM5 := Lib.hid (HM2.out.below hb5)
  clear hb5 HM2 HJ2
  go_wp2
  refine Met.intro (hJ _ _ ?_)
  exact ⟨⟨⟨rfl, rfl⟩, rfl, rfl, rfl, rfl, rfl, rfl, rfl⟩, rfl, _, _, _, rfl, rfl, rfl, rfl, ps, cp, Dm, F, L, os, HM5.out, HL.out.up⟩
set_option maxHeartbeats 4000000 in
set_option maxRecDepth 100000 in
theorem p34k_f {a : Act} (hFD : FD a v0 v1 A len cap B lenB capB v9 d rp)
    {n : Int} {hb sb : Nat} {p t : Int} {M pg N Ns : Nat} {ps : List S108} {snaps : Int} {cp : Nat} {Dm : DataW Unit} {F : Int → Nat × Sn} {L : List Seat} {os : List S40} {v21 : Value} (hG : Good w) (h : WM w W d pg M rp N Ns (cnt ps : Int) ps ps snaps cp Dm F L va vo os) (hl : WL i N Ns ps os cp Dm F L) (hh : Hn W hb p t) (hpr : -9223372036854775808 ≤ p ∧ p ≤ 9223372036854775807) (hi : i < 50) {k : Nat} {s : Seat} {bl : Nat} (hk : k < L.length) (hs : L[k] = s) (hx : s.x = p ∧ s.t = t) (hbl : s.bl = bl) (hful : ff s.ps = Ns) (hNs : Ns ≤ 10000) (hn : n % 8 = 5) (h12 : sl a 12 = va) (h13 : sl a 13 = vo) (h14 : sl a 14 = .int .i64 (i : Int)) (h15 : sl a 15 = .int .i64 n) (h16 : sl a 16 = .pointer (some ⟨hb, 0, none⟩)) (h17 : sl a 17 = .pointer (some ⟨sb, 0, none⟩)) (h18 : sl a 18 = .pointer (some ⟨bl, 0, none⟩)) (h19 : sl a 19 = .int .i64 (k : Int)) (h21 : sl a 21 = v21) (h23 : sl a 23 = .int .i64 0) (h24 : sl a 24 = .int .i64 3) :
    Does (cpart [1, 1, 1, 1, 1, 1, 1, 1, 1, 1, 0] cD) (fun a' w' => FD a' v0 v1 A len cap B lenB capB v9 d rp ∧ sl a' 14 = .int .i64 (i : Int) ∧ ∃ va vo ec, sl a' 12 = va ∧ sl a' 13 = vo ∧ sl a' 23 = .int .i64 ec ∧ sl a' 24 = .int .i64 ec ∧ St11 w w' d pg M rp N Ns snaps (i + 1) va vo) a W := by
  obtain ⟨hf, g0, g1, g2, g3, g9, g10, g11⟩ := hFD
  obtain ⟨u, rfl⟩ := hf.open
  rw [sl_fr u 0 (by decide)] at g0
  rw [sl_fr u 1 (by decide)] at g1
  rw [sl_fr u 2 (by decide)] at g2
  rw [sl_fr u 3 (by decide)] at g3
  rw [sl_fr u 9 (by decide)] at g9
  rw [sl_fr u 10 (by decide)] at g10
  rw [sl_fr u 11 (by decide)] at g11
  rw [sl_fr u 12 (by decide)] at h12
  rw [sl_fr u 13 (by decide)] at h13
  rw [sl_fr u 14 (by decide)] at h14
  rw [sl_fr u 15 (by decide)] at h15
  rw [sl_fr u 16 (by decide)] at h16
  rw [sl_fr u 17 (by decide)] at h17
  rw [sl_fr u 18 (by decide)] at h18
  rw [sl_fr u 19 (by decide)] at h19
  rw [sl_fr u 21 (by decide)] at h21
  rw [sl_fr u 23 (by decide)] at h23
  rw [sl_fr u 24 (by decide)] at h24
  intro J Q hJ hQ
  unfold fr
  rw [g0, g1, g2, g3, g9, g10, g11, h12, h13, h14, h15, h16, h17, h18, h19, h21, h23, h24]
  clear hf g0 g1 g2 g3 g9 g10 g11 h12 h13 h14 h15 h16 h17 h18 h19 h21 h23 h24
  conv => arg 2; whnf
  have HG := Lib.hid hG
  have HM := Lib.hid h
  have HL := Lib.hid hl
  have HH := Lib.hid hh
  have HPR := Lib.hid hpr
  have HI := Lib.hid hi
  clear hG h hl hh hpr hi
  have HSM := Lib.hid (show s ∈ L from hs ▸ List.getElem_mem hk)
  have HK := Lib.hid (show ∃ h : k < L.length, L[k] = s from ⟨hk, hs⟩)
  have HBL := Lib.hid hbl
  have HX := Lib.hid hx
  have hat := HL.out.atS (by have := HI.out; omega) HSM.out hx
  obtain ⟨ix, hix, hil, hB, hD, hMS, hwf⟩ := hat
  have HAT := Lib.hid (And.intro hB (And.intro hD hwf))
  have HIX := Lib.hid (And.intro hix hil)
  have HMS := Lib.hid hMS
  clear hbl hx hs hk hix hil hB hD hMS hwf
  have HFU := Lib.hid hful
  have HNS := Lib.hid hNs
  clear hful hNs
  have q : Go.bits .and .i64 n 7 = n % 8 := and_mask n 3 (by decide)
  rw [hn] at q
  clear hn
  have q0 := (blk_cell HH.out 0).trans (show _ = some (Value.int .i64 p) from rfl)
  have q1 := (blk_cell HH.out 1).trans (show _ = some (Value.int .i64 t) from rfl)
  have q15 : Go.bits .and .i64 (n / 1099511627776) 15 = n / 1099511627776 % 16 := and_mask (n / 1099511627776) 4 (by decide)
  go_wp2_with (fail)
  clear q q0 q1 q15
  go_at_call 42
  (with_reducible refine (dkeepS_full HM.out.ds HG.out HMS.out (HL.out.sps _ HSM.out) (by have := HI.out; omega) HAT.out.2.2 HAT.out.1 HAT.out.2.1 HFU.out _).mono ?_)
  rintro e w2 ⟨k2, rfl, hj, _, hb2⟩
  have B2 := below_alloc (Below.refl w2.heap.size w2) (.cells #[.int .i64 0, .int .i64 0] 40)
  have HM2 := Lib.hid ((HM.out.below hb2).below B2)
  have HJ2 := Lib.hid (hj.below B2)
  have HA2 := Lib.hid (show Hn (w2.alloc (.cells #[.int .i64 0, .int .i64 0] 40)) w2.heap.size 0 0 from heap_alloc_new w2 _)
  clear hb2 hj B2 HM HH
  go_wp2_with (fail)
  generalize w2.alloc (.cells #[.int .i64 0, .int .i64 0] 40) = w3 at *
  generalize w2.heap.size = ab at *
  go_at_call 14
  (with_reducible refine (code_join k2 2 _ (good_et' (HM2.out.ds.good HG.out)) HJ2.out).mono ?_)
  rintro e w4 ⟨rfl, hb4⟩
  have HM4 := Lib.hid (HM2.out.below hb4)
  have HA4 := Lib.hid (show Hn _ _ _ _ from blk_below HA2.out hb4)
  clear hb4 HM2 HJ2 HA2
  have hSE := HM4.out.sl.all _ HSM.out
  have hbk := hSE.hd
  rw [HBL.out] at hbk
  have k4 := (blk_cell hbk 4).trans (show _ = some (Value.pointer (some ⟨s.rp, 0, none⟩)) from rfl)
  have HSE := Lib.hid hSE
  clear hbk hSE
  go_wp2_with (fail)
  clear k4
  go_at_call 21
  (with_reducible refine (rtake_full s.rp w.heap.size Ns s.ps _ HSE.out.rp HNS.out (fun j hj => ff_tk (by rw [HFU.out]; exact hj))).mono ?_)
  rintro e w6 ⟨rfl, hb6⟩
  have B6 := below_alloc (Below.refl w6.heap.size w6) (.cells #[.int .i64 0, .int .i64 0] 40)
  have HM6 := Lib.hid ((HM4.out.below hb6).below B6)
  have HA6 := Lib.hid (show Hn _ _ _ _ from blk_below (blk_below HA4.out hb6) B6)
  have HB6 := Lib.hid (show Hn (w6.alloc (.cells #[.int .i64 0, .int .i64 0] 40)) w6.heap.size 0 0 from heap_alloc_new w6 _)
  clear hb6 B6 HM4 HA4 HSE
  go_upto_region 104 with (fail)
  generalize w6.alloc (.cells #[.int .i64 0, .int .i64 0] 40) = w7 at *
  generalize w6.heap.size = bb at *
  have a0 := (blk_cell HA6.out 0).trans (show _ = some (Value.int .i64 0) from rfl)
  have a1 := (blk_cell HA6.out 1).trans (show _ = some (Value.int .i64 0) from rfl)
  have b0 := (blk_cell HB6.out 0).trans (show _ = some (Value.int .i64 0) from rfl)
  have b1 := (blk_cell HB6.out 1).trans (show _ = some (Value.int .i64 0) from rfl)
  go_wp2
  refine Met.intro (hJ _ _ ?_)
  exact ⟨⟨⟨rfl, rfl⟩, rfl, rfl, rfl, rfl, rfl, rfl, rfl⟩, rfl, _, _, _, rfl, rfl, rfl, rfl, ps, cp, Dm, F, L, os, HM6.out, HL.out.up⟩
set_option maxHeartbeats 4000000 in
set_option maxRecDepth 100000 in
theorem p34k_y {a : Act} (hFD : FD a v0 v1 A len cap B lenB capB v9 d rp)
    {n : Int} {hb sb : Nat} {p t : Int} {M pg N Ns : Nat} {ps : List S108} {snaps : Int} {cp : Nat} {Dm : DataW Unit} {F : Int → Nat × Sn} {L : List Seat} {os : List S40} {v21 : Value} (hG : Good w) (h : WM w W d pg M rp N Ns (cnt ps : Int) ps ps snaps cp Dm F L va vo os) (hl : WL i N Ns ps os cp Dm F L) (hh : Hn W hb p t) (hpr : -9223372036854775808 ≤ p ∧ p ≤ 9223372036854775807) (hi : i < 50) {k : Nat} {s : Seat} {bl : Nat} (hk : k < L.length) (hs : L[k] = s) (hx : s.x = p ∧ s.t = t) (hbl : s.bl = bl) (hful : ff s.ps < Ns) (hNs : Ns ≤ 10000) (hn : n % 8 = 5) (h12 : sl a 12 = va) (h13 : sl a 13 = vo) (h14 : sl a 14 = .int .i64 (i : Int)) (h15 : sl a 15 = .int .i64 n) (h16 : sl a 16 = .pointer (some ⟨hb, 0, none⟩)) (h17 : sl a 17 = .pointer (some ⟨sb, 0, none⟩)) (h18 : sl a 18 = .pointer (some ⟨bl, 0, none⟩)) (h19 : sl a 19 = .int .i64 (k : Int)) (h21 : sl a 21 = v21) (h23 : sl a 23 = .int .i64 0) (h24 : sl a 24 = .int .i64 3) :
    Does (cpart [1, 1, 1, 1, 1, 1, 1, 1, 1, 1, 0] cD) (fun a' w' => FD a' v0 v1 A len cap B lenB capB v9 d rp ∧ sl a' 14 = .int .i64 (i : Int) ∧ ∃ va vo ec, sl a' 12 = va ∧ sl a' 13 = vo ∧ sl a' 23 = .int .i64 ec ∧ sl a' 24 = .int .i64 ec ∧ St11 w w' d pg M rp N Ns snaps (i + 1) va vo) a W := by
  obtain ⟨hf, g0, g1, g2, g3, g9, g10, g11⟩ := hFD
  obtain ⟨u, rfl⟩ := hf.open
  rw [sl_fr u 0 (by decide)] at g0
  rw [sl_fr u 1 (by decide)] at g1
  rw [sl_fr u 2 (by decide)] at g2
  rw [sl_fr u 3 (by decide)] at g3
  rw [sl_fr u 9 (by decide)] at g9
  rw [sl_fr u 10 (by decide)] at g10
  rw [sl_fr u 11 (by decide)] at g11
  rw [sl_fr u 12 (by decide)] at h12
  rw [sl_fr u 13 (by decide)] at h13
  rw [sl_fr u 14 (by decide)] at h14
  rw [sl_fr u 15 (by decide)] at h15
  rw [sl_fr u 16 (by decide)] at h16
  rw [sl_fr u 17 (by decide)] at h17
  rw [sl_fr u 18 (by decide)] at h18
  rw [sl_fr u 19 (by decide)] at h19
  rw [sl_fr u 21 (by decide)] at h21
  rw [sl_fr u 23 (by decide)] at h23
  rw [sl_fr u 24 (by decide)] at h24
  intro J Q hJ hQ
  unfold fr
  rw [g0, g1, g2, g3, g9, g10, g11, h12, h13, h14, h15, h16, h17, h18, h19, h21, h23, h24]
  clear hf g0 g1 g2 g3 g9 g10 g11 h12 h13 h14 h15 h16 h17 h18 h19 h21 h23 h24
  conv => arg 2; whnf
  have HG := Lib.hid hG
  have HM := Lib.hid h
  have HL := Lib.hid hl
  have HH := Lib.hid hh
  have HPR := Lib.hid hpr
  have HI := Lib.hid hi
  clear hG h hl hh hpr hi
  have HSM := Lib.hid (show s ∈ L from hs ▸ List.getElem_mem hk)
  have HK := Lib.hid (show ∃ h : k < L.length, L[k] = s from ⟨hk, hs⟩)
  have HBL := Lib.hid hbl
  have HX := Lib.hid hx
  have hat := HL.out.atS (by have := HI.out; omega) HSM.out hx
  obtain ⟨ix, hix, hil, hB, hD, hMS, hwf⟩ := hat
  have HAT := Lib.hid (And.intro hB (And.intro hD hwf))
  have HIX := Lib.hid (And.intro hix hil)
  have HMS := Lib.hid hMS
  clear hbl hx hs hk hix hil hB hD hMS hwf
  have HFU := Lib.hid hful
  have HNS := Lib.hid hNs
  clear hful hNs
  have hr16 : 0 ≤ n / 1099511627776 % 16 ∧ n / 1099511627776 % 16 < 16 := by omega
  have HR16 := Lib.hid hr16
  have HRW := Lib.hid (show (Lit.int .i64 (n / 1099511627776 % 16)).wf = true from wf_i64 (by omega) (by omega))
  clear hr16
  have q : Go.bits .and .i64 n 7 = n % 8 := and_mask n 3 (by decide)
  rw [hn] at q
  clear hn
  have q0 := (blk_cell HH.out 0).trans (show _ = some (Value.int .i64 p) from rfl)
  have q1 := (blk_cell HH.out 1).trans (show _ = some (Value.int .i64 t) from rfl)
  have q15 : Go.bits .and .i64 (n / 1099511627776) 15 = n / 1099511627776 % 16 := and_mask (n / 1099511627776) 4 (by decide)
  go_wp2_with (fail)
  clear q q0 q1
  go_at_call 42
  (with_reducible refine (dkeepS HM.out.ds HMS.out (HL.out.sps _ HSM.out) (by have := HI.out; omega) HAT.out.2.2 HAT.out.1 HAT.out.2.1 HFU.out HRW.out).mono ?_)
  have HTB := Lib.hid ((HL.out.sps _ HSM.out).bound (ff_le s.ps))
  have HIL := Lib.hid (ff_le s.ps)
  have HPL := Lib.hid ((HL.out.sps _ HSM.out).took2 (ff_le s.ps) HFU.out (by have := HI.out; omega))
  have HMK := Lib.hid (fun (hv rv : Value) (r : Int) => HMS.out.kept (i := ff s.ps) r hv rv (ff_le _) (fun h => ff_no h))
  have HTK := Lib.hid (fun (j : Nat) (hj : j < ff s.ps) => ff_tk (ps := s.ps) hj)
  have HNO := Lib.hid (fun (h : ff s.ps < s.ps.length) => ff_no (ps := s.ps) h)
  obtain ⟨i0, hi0⟩ : ∃ i0, ff s.ps = i0 := ⟨_, rfl⟩
  rw [hi0] at HFU HTB HIL HPL HMK HTK HNO ⊢
  obtain ⟨t0, ht0⟩ : ∃ t0, turnOf s.ps i0 = t0 := ⟨_, rfl⟩
  have HT0 := Lib.hid ht0
  clear hi0
  rw [ht0] at HTB HPL ⊢
  clear ht0
  generalize hr0 : n / 1099511627776 % 16 = r0 at *
  have HR0 := Lib.hid hr0
  clear hr0
  rintro e w2 ⟨rfl, hd2, hk2⟩
  have B2 := below_alloc (Below.refl w2.heap.size w2) (.cells #[.int .i64 (i0 : Int), .int .i64 t0] 40)
  have HM2 := Lib.hid ((HM.out.keeps hk2 hd2).below B2)
  have HA2 := Lib.hid (show Hn (w2.alloc (.cells #[.int .i64 (i0 : Int), .int .i64 t0] 40)) w2.heap.size (i0 : Int) t0 from heap_alloc_new w2 _)
  have HVA := Lib.hid (show ∀ k, s.hv.ownBlock = some k → k < w2.heap.size from Kd.R_lt ((HM.out.keeps hk2 hd2).sl.all _ HSM.out).hr)
  clear hd2 hk2 B2 HM HH
  go_wp2_with (fail)
  generalize w2.alloc (.cells #[.int .i64 (i0 : Int), .int .i64 t0] 40) = w3 at *
  generalize w2.heap.size = ab at *
  go_at_call 14
  (with_reducible refine (code_nil _).mono ?_)
  rintro e w4 ⟨rfl, rfl⟩
  have hSE := HM2.out.sl.all _ HSM.out
  have hbk := hSE.hd
  rw [HBL.out] at hbk
  have k4 := (blk_cell hbk 4).trans (show _ = some (Value.pointer (some ⟨s.rp, 0, none⟩)) from rfl)
  have HSE := Lib.hid hSE
  clear hbk hSE
  go_wp2_with (fail)
  clear k4
  go_at_call 21
  have ht0 : 0 ≤ turnOf s.ps i0 := by rw [HT0.out]; exact HTB.out.1
  have ht1 : turnOf s.ps i0 ≤ 1000000 := by rw [HT0.out]; have := HTB.out.2; have := HI.out; omega
  (with_reducible refine (rtake_q s.rp w.heap.size Ns s.ps i0 _ HSE.out.rp HNS.out HIL.out HFU.out HTK.out HNO.out ht0 ht1).mono ?_)
  rw [HT0.out]
  clear ht0 ht1
  rintro e w6 ⟨rfl, hr6, hf6⟩
  have B6 := below_alloc (Below.refl w6.heap.size w6) (.cells #[.int .i64 (i0 : Int), .int .i64 t0] 40)
  have HM6 := Lib.hid ((HM2.out.spoolS HK.out hr6 hf6).below B6)
  have HA6 := Lib.hid (show Hn _ _ _ _ from blk_below (HA2.out.fd hf6.fd) B6)
  have HB6 := Lib.hid (show Hn (w6.alloc (.cells #[.int .i64 (i0 : Int), .int .i64 t0] 40)) w6.heap.size (i0 : Int) t0 from heap_alloc_new w6 _)
  have HBB0 := Lib.hid (show ab < w6.heap.size from Nat.lt_of_lt_of_le (blk_lt HA2.out) hf6.fd.1.size)
  clear hr6 hf6 B6 HM2 HA2 HSE
  go_upto_region 104 with (fail)
  generalize w6.alloc (.cells #[.int .i64 (i0 : Int), .int .i64 t0] 40) = w7 at *
  generalize w6.heap.size = bb at *
  go_upto_region 107 with (fail)
  obtain ⟨s1, hs1⟩ : ∃ s1 : Seat, { s with ps := tookL s.ps i0 } = s1 := ⟨_, rfl⟩
  have HS1 := Lib.hid hs1
  rw [hs1] at HM6
  have hk1 : ∃ h : k < (L.set k s1).length, (L.set k s1)[k] = s1 := by
    obtain ⟨h1, _⟩ := HK.out
    exact ⟨by rw [List.length_set]; exact h1, List.getElem_set_self _⟩
  have HK1 := Lib.hid hk1
  have hSE : SE w7 w.heap.size Ns s1 := HM6.out.sl.all _ (by obtain ⟨h1, h2⟩ := hk1; exact List.mem_iff_getElem.2 ⟨k, h1, h2⟩)
  have ebl : s1.bl = bl := by rw [← hs1]; exact HBL.out
  have ehv : s1.hv = s.hv := by rw [← hs1]
  have erv : s1.rv = s.rv := by rw [← hs1]
  have ehs : s1.hs = s.hs := by rw [← hs1]
  have ers : s1.rs = s.rs := by rw [← hs1]
  have HEB := Lib.hid ebl
  have hhr := hSE.hr
  have hrr := hSE.rr
  have hbk := hSE.hd
  rw [ebl] at hbk
  obtain ⟨lh, hlh⟩ : ∃ lh, s1.hs.length = lh := ⟨_, rfl⟩
  obtain ⟨lr, hlr⟩ : ∃ lr, s1.rs.length = lr := ⟨_, rfl⟩
  obtain ⟨A5, c5, hv5⟩ := Kd.R_slice hhr
  obtain ⟨A6, c6, hv6⟩ := Kd.R_slice hrr
  rw [hlh] at hv5
  rw [hlr] at hv6
  have hva : ∀ k, s1.hv.ownBlock = some k → k < ab := by rw [ehv]; exact HVA.out
  have hbb : ∀ k, s1.hv.ownBlock = some k → k < bb := fun k hk => by
    have h1 := hva k hk
    have h2 := HBB0.out
    omega
  have HNE := Lib.hid (show some bl ≠ (Value.slice A5 lh c5).ownBlock ∧ some ab ≠ (Value.slice A5 lh c5).ownBlock ∧ some bb ≠ (Value.slice A5 lh c5).ownBlock by
    rw [← hv5]
    exact ⟨Kd.R_ne hhr hbk (by decide), fun e => by have := hva _ e.symm; omega, fun e => by have := hbb _ e.symm; omega⟩)
  have HNE2 := Lib.hid (show some bl ≠ (Value.slice A6 lr c6).ownBlock by rw [← hv6]; exact Kd.R_ne hrr hbk (by decide))
  have HNAB := Lib.hid (show ab ≠ bl ∧ bb ≠ bl from ⟨fun e => by have h1 := HA6.out; unfold Hn at h1; rw [e, hbk] at h1; injection h1 with h1; injection h1 with _ h1 _; exact absurd h1 (by decide), fun e => by have h1 := HB6.out; unfold Hn at h1; rw [e, hbk] at h1; injection h1 with h1; injection h1 with _ h1 _; exact absurd h1 (by decide)⟩)
  have HLO := Lib.hid (show w.heap.size ≤ bl by rw [← ebl]; exact hSE.lo)
  rw [hv5, hv6] at hbk
  have HHV := Lib.hid hv5
  have HRVV := Lib.hid hv6
  rw [hv5] at hhr
  rw [hv6] at hrr
  have HRH := Lib.hid hhr
  have HRR := Lib.hid hrr
  have HBK := Lib.hid hbk
  have HLT := Lib.hid (fun (j : Nat) (hj : w7.heap.size ≤ j) => show some j ≠ (Value.slice A5 lh c5).ownBlock from fun e => by have := Kd.R_lt hhr j e.symm; omega)
  have HLH := Lib.hid (show s1.hs.length ≤ 1000 ∧ s1.rs.length ≤ 1000 from ⟨by rw [ehs]; have := HMS.out.hl; have := HI.out; omega, by rw [ers]; have := HMS.out.hl; have := HMS.out.rh.len; have := HI.out; omega⟩)
  have HW7 := Lib.hid (show w.heap.size ≤ w7.heap.size from HM6.out.size)
  have k5 := (blk_cell hbk 5).trans (show _ = some (Value.slice A5 lh c5) from rfl)
  have k6 := (blk_cell hbk 6).trans (show _ = some (Value.slice A6 lr c6) from rfl)
  have b0 := (blk_cell HB6.out 0).trans (show _ = some (Value.int .i64 (i0 : Int)) from rfl)
  have b1 := (blk_cell HB6.out 1).trans (show _ = some (Value.int .i64 t0) from rfl)
  clear hs1 hk1 hSE ebl ehv erv ehs ers hhr hrr hbk hlh hlr hv5 hv6 hva hbb
  go_cut [] from 508 to 529 (fun wc => ∃ hv rv, Hid (WM w wc d pg M rp N Ns (cnt ps : Int) ps ps snaps cp Dm (upF F p ((F p).1, keptS (F p).2 i0 r0)) ((L.set k s1).set k { s1 with hv := hv, hs := s1.hs ++ [⟨(i0 : Int), t0⟩], rv := rv, rs := s1.rs ++ [r0] }) va vo os) ∧ Hid (Hn wc ab (i0 : Int) t0) ∧ Hid (Hn wc bb (i0 : Int) t0))
  case first =>
    as_aux_lemma =>
      refine wp_region_noPanic ?_
      refine start_ (n := 24) (S := fun w' => w'.cell? ⟨bl, 5, none⟩ = some (.slice A5 lh c5) ∧ w'.cell? ⟨bl, 6, none⟩ = some (.slice A6 lr c6) ∧ w'.cell? ⟨bb, 0, none⟩ = some (.int .i64 (i0 : Int)) ∧ w'.cell? ⟨bb, 1, none⟩ = some (.int .i64 t0)) (ds := [20, 23]) #[false, false, false, false, false, false, false, false, false, false, false, false, false, false, false, false, false, false, false, false, false, false, false, false] (by kernel_rfl) rfl rfl ⟨k5, k6, b0, b1⟩ (fun hHeld => ?_)
      refine with_tabW deskP.tab107 deskP.bits107 (fun HT_ HW_ => ?_)
      refine pure_ (i := 0) (N := some 508) (v := ?_) (a' := ?_) #[true, false, false, false, false, false, false, false, false, false, false, false, false, false, false, false, false, false, false, false, false, false, false, false] rfl rfl (any_of HT_.out (by kernel_rfl)) (fun _ _ _ h => h) (Or.inl ⟨by rfl, ?_⟩) ?_ ?_
      rotate_left
      · intro w'
        go_simp
        with_reducible rfl
      rotate_left
      · simp only [Act.put, List.setIfInBounds_toArray, List.set_cons_zero, List.set_cons_succ]
        rfl
      refine pure_ (i := 1) (N := some 509) (v := ?_) (a' := ?_) #[true, true, false, false, false, false, false, false, false, false, false, false, false, false, false, false, false, false, false, false, false, false, false, false] rfl rfl (any_of HT_.out (by kernel_rfl)) (fun _ _ _ h => h) (Or.inl ⟨by rfl, ?_⟩) ?_ ?_
      rotate_left
      · intro w'
        go_simp
        with_reducible rfl
      rotate_left
      · simp only [Act.put, List.setIfInBounds_toArray, List.set_cons_zero, List.set_cons_succ]
        rfl
      refine pure_ (i := 2) (N := some 510) (v := ?_) (a' := ?_) #[true, true, true, false, false, false, false, false, false, false, false, false, false, false, false, false, false, false, false, false, false, false, false, false] rfl rfl (any_of HT_.out (by kernel_rfl)) (fun _ _ _ h => h) (Or.inl ⟨by rfl, ?_⟩) ?_ ?_
      rotate_left
      · intro w'
        go_simp
        with_reducible rfl
      rotate_left
      · simp only [Act.put, List.setIfInBounds_toArray, List.set_cons_zero, List.set_cons_succ]
        rfl
      refine pure_ (i := 3) (N := some 511) (v := ?_) (a' := ?_) #[true, true, true, true, false, false, false, false, false, false, false, false, false, false, false, false, false, false, false, false, false, false, false, false] rfl rfl (any_of HT_.out (by kernel_rfl)) (fun _ _ _ h => h) (Or.inl ⟨by rfl, ?_⟩) ?_ ?_
      rotate_left
      · intro w'
        go_simp
        with_reducible rfl
      rotate_left
      · simp only [Act.put, List.setIfInBounds_toArray, List.set_cons_zero, List.set_cons_succ]
        rfl
      refine pure_ (i := 4) (N := some 512) (v := ?_) (a' := ?_) #[true, true, true, true, true, false, false, false, false, false, false, false, false, false, false, false, false, false, false, false, false, false, false, false] rfl rfl (any_of HT_.out (by kernel_rfl)) (fun _ _ _ h => h) (Or.inl ⟨by rfl, ?_⟩) ?_ ?_
      rotate_left
      · intro w'
        go_simp
        with_reducible rfl
      rotate_left
      · simp only [Act.put, List.setIfInBounds_toArray, List.set_cons_zero, List.set_cons_succ]
        rfl
      refine pure_ (i := 9) (N := some 517) (v := ?_) (a' := ?_) #[true, true, true, true, true, false, false, false, false, true, false, false, false, false, false, false, false, false, false, false, false, false, false, false] rfl rfl (any_of HT_.out (by kernel_rfl)) (fun _ _ _ h => h) (Or.inl ⟨by rfl, ?_⟩) ?_ ?_
      rotate_left
      · intro w'
        go_simp
        with_reducible rfl
      rotate_left
      · simp only [Act.put, List.setIfInBounds_toArray, List.set_cons_zero, List.set_cons_succ]
        rfl
      refine pure_ (i := 10) (N := some 518) (v := ?_) (a' := ?_) #[true, true, true, true, true, false, false, false, false, true, true, false, false, false, false, false, false, false, false, false, false, false, false, false] rfl rfl (any_of HT_.out (by kernel_rfl)) (fun _ _ _ h => h) (Or.inl ⟨by rfl, ?_⟩) ?_ ?_
      rotate_left
      · intro w'
        go_simp
        with_reducible rfl
      rotate_left
      · simp only [Act.put, List.setIfInBounds_toArray, List.set_cons_zero, List.set_cons_succ]
        rfl
      refine pure_ (i := 11) (N := some 519) (v := ?_) (a' := ?_) #[true, true, true, true, true, false, false, false, false, true, true, true, false, false, false, false, false, false, false, false, false, false, false, false] rfl rfl (any_of HT_.out (by kernel_rfl)) (fun _ _ _ h => h) (Or.inl ⟨by rfl, ?_⟩) ?_ ?_
      rotate_left
      · intro w'
        go_simp
        with_reducible rfl
      rotate_left
      · simp only [Act.put, List.setIfInBounds_toArray, List.set_cons_zero, List.set_cons_succ]
        rfl
      refine pure_ (i := 13) (N := some 521) (v := ?_) (a' := ?_) #[true, true, true, true, true, false, false, false, false, true, true, true, false, true, false, false, false, false, false, false, false, false, false, false] rfl rfl (any_of HT_.out (by kernel_rfl)) (fun _ _ _ h => h) (Or.inl ⟨by rfl, ?_⟩) ?_ ?_
      rotate_left
      · intro w'
        go_simp
        with_reducible rfl
      rotate_left
      · simp only [Act.put, List.setIfInBounds_toArray, List.set_cons_zero, List.set_cons_succ]
        rfl
      refine pure_ (i := 14) (N := some 522) (v := ?_) (a' := ?_) #[true, true, true, true, true, false, false, false, false, true, true, true, false, true, true, false, false, false, false, false, false, false, false, false] rfl rfl (any_of HT_.out (by kernel_rfl)) (fun _ _ _ h => h) (Or.inl ⟨by rfl, ?_⟩) ?_ ?_
      rotate_left
      · intro w'
        go_simp
        with_reducible rfl
      rotate_left
      · simp only [Act.put, List.setIfInBounds_toArray, List.set_cons_zero, List.set_cons_succ]
        rfl
      refine pure_ (i := 15) (N := some 523) (v := ?_) (a' := ?_) #[true, true, true, true, true, false, false, false, false, true, true, true, false, true, true, true, false, false, false, false, false, false, false, false] rfl rfl (any_of HT_.out (by kernel_rfl)) (fun _ _ _ h => h) (Or.inl ⟨by rfl, ?_⟩) ?_ ?_
      rotate_left
      · intro w'
        go_simp
        with_reducible rfl
      rotate_left
      · simp only [Act.put, List.setIfInBounds_toArray, List.set_cons_zero, List.set_cons_succ]
        rfl
      refine take_ (i := 5) (N := some 513) (v := ?_) (a' := ?_) #[true, true, true, true, true, true, false, false, false, true, true, true, false, true, true, true, false, false, false, false, false, false, false, false] rfl rfl (take_ofW HT_.out HW_.out (by kernel_rfl)) (fun _ _ _ h => h) (Or.inl ⟨by rfl, ?_⟩) hHeld ?_ ?_
      rotate_left
      · rintro w' ⟨s0, s1, s2, s3⟩
        go_simp
        with_reducible rfl
      rotate_left
      · simp only [Act.put, List.setIfInBounds_toArray, List.set_cons_zero, List.set_cons_succ]
        rfl
      refine take_ (i := 6) (N := some 514) (v := ?_) (a' := ?_) #[true, true, true, true, true, true, true, false, false, true, true, true, false, true, true, true, false, false, false, false, false, false, false, false] rfl rfl (take_ofW HT_.out HW_.out (by kernel_rfl)) (fun _ _ _ h => h) (Or.inl ⟨by rfl, ?_⟩) hHeld ?_ ?_
      rotate_left
      · rintro w' ⟨s0, s1, s2, s3⟩
        go_simp
        with_reducible rfl
      rotate_left
      · simp only [Act.put, List.setIfInBounds_toArray, List.set_cons_zero, List.set_cons_succ]
        rfl
      refine take_ (i := 12) (N := some 520) (v := ?_) (a' := ?_) #[true, true, true, true, true, true, true, false, false, true, true, true, true, true, true, true, false, false, false, false, false, false, false, false] rfl rfl (take_ofW HT_.out HW_.out (by kernel_rfl)) (fun _ _ _ h => h) (Or.inl ⟨by rfl, ?_⟩) hHeld ?_ ?_
      rotate_left
      · rintro w' ⟨s0, s1, s2, s3⟩
        go_simp
        with_reducible rfl
      rotate_left
      · simp only [Act.put, List.setIfInBounds_toArray, List.set_cons_zero, List.set_cons_succ]
        rfl
      refine two_ (i := 7) (j := 16) (Ni := some 515) (Nj := some 524) #[true, true, true, true, true, true, true, true, false, true, true, true, true, true, true, true, false, false, false, false, false, false, false, false] #[true, true, true, true, true, true, true, false, false, true, true, true, true, true, true, true, true, false, false, false, false, false, false, false] rfl rfl rfl rfl (two_of HT_.out (by kernel_rfl)) (by decide) (by decide) (fun K hK => ?_) (fun K hK => ?_)
      · skip
        refine value_ (w1 := ?_) (v := ?_) (by rfl) rfl ?_ ?_
        rotate_left 2
        · go_simp
          constructor
          · rfl
          · rfl
        refine hK.out _ _ ⟨((show Below w7.heap.size w7 _ from (by repeat (first | (with_reducible first | exact Below.refl _ _ | apply below_alloc | apply pw_below_drewN | apply below_drew1) | exact Below.refl _ _))).cell (cell_lt k5)).trans k5, ((show Below w7.heap.size w7 _ from (by repeat (first | (with_reducible first | exact Below.refl _ _ | apply below_alloc | apply pw_below_drewN | apply below_drew1) | exact Below.refl _ _))).cell (cell_lt k6)).trans k6, ((show Below w7.heap.size w7 _ from (by repeat (first | (with_reducible first | exact Below.refl _ _ | apply below_alloc | apply pw_below_drewN | apply below_drew1) | exact Below.refl _ _))).cell (cell_lt b0)).trans b0, ((show Below w7.heap.size w7 _ from (by repeat (first | (with_reducible first | exact Below.refl _ _ | apply below_alloc | apply pw_below_drewN | apply below_drew1) | exact Below.refl _ _))).cell (cell_lt b1)).trans b1⟩ (fun hHeld => ?_)
        clear hK K
        refine norm_ (a' := ?_) ?_ ?_
        rotate_left
        · show Act.put _ (some 515) _ = _
          simp only [Act.put, List.setIfInBounds_toArray, List.set_cons_zero, List.set_cons_succ]
          rfl
        refine two_ (i := 8) (j := 16) (Ni := some 516) (Nj := some 524) #[true, true, true, true, true, true, true, true, true, true, true, true, true, true, true, true, false, false, false, false, false, false, false, false] #[true, true, true, true, true, true, true, true, false, true, true, true, true, true, true, true, true, false, false, false, false, false, false, false] rfl rfl rfl rfl (two_of HT_.out (by kernel_rfl)) (by decide) (by decide) (fun K hK => ?_) (fun K hK => ?_)
        · skip
          refine Kd.R_append_rows_step k40 (Rr := k40.K _) (w0 := w7) w.heap.size (by rfl) (.tmp 513) (.tmp 515) 38 40 (.agg #[(.int .i64 0), (.int .i64 0)]) 16 (by rfl) Tryd.underlying38 info40 rfl (by decide) (by decide) (.slice A5 lh c5) s1.hs [⟨(i0 : Int), t0⟩] _ 1 1 (fun _ => True) (fun _ => False) (by rfl) (by rfl) (by (with_reducible repeat (first | apply Kd.R_alloc | apply Kd.R_drewN | apply Kd.R_drew)); exact HRH.out) (C_one40 (by first | exact heap_alloc_new _ _ | exact heap_at2 (by simp) | exact (Below.heap_alloc _ _ _ (by simp)).trans (heap_alloc_new _ _))) (fun _ _ h => h) (fun _ h => h.elim) (fun _ _ => trivial) (Below.mono (by repeat (first | (with_reducible first | exact Below.refl _ _ | apply below_alloc | apply pw_below_drewN | apply below_drew1) | exact Below.refl _ _)) HW7.out) (Nat.le_trans HW7.out (below_size (by repeat (first | (with_reducible first | exact Below.refl _ _ | apply below_alloc | apply pw_below_drewN | apply below_drew1) | exact Below.refl _ _)))) (by have := HLH.out; omega) ?_
          intro v1 w1 ho hb hg hat
          obtain ⟨Ax, lx, cx, rfl⟩ := R_sl2 ho
          have HO1 := Lib.hid ho
          have HB1 := Lib.hid hb
          have HBK1 := Lib.hid ((hg.block bl (Nat.lt_of_lt_of_le (blk_lt HBK.out) (below_size (by repeat (first | (with_reducible first | exact Below.refl _ _ | apply below_alloc | apply pw_below_drewN | apply below_drew1) | exact Below.refl _ _)))) HNE.out.1).trans (blk_below HBK.out (by repeat (first | (with_reducible first | exact Below.refl _ _ | apply below_alloc | apply pw_below_drewN | apply below_drew1) | exact Below.refl _ _))))
          have HA1 := Lib.hid (show Hn w1 ab (i0 : Int) t0 from (hg.block ab (Nat.lt_of_lt_of_le (blk_lt HA6.out) (below_size (by repeat (first | (with_reducible first | exact Below.refl _ _ | apply below_alloc | apply pw_below_drewN | apply below_drew1) | exact Below.refl _ _)))) HNE.out.2.1).trans (blk_below HA6.out (by repeat (first | (with_reducible first | exact Below.refl _ _ | apply below_alloc | apply pw_below_drewN | apply below_drew1) | exact Below.refl _ _))))
          have HBB1 := Lib.hid (show Hn w1 bb (i0 : Int) t0 from (hg.block bb (Nat.lt_of_lt_of_le (blk_lt HB6.out) (below_size (by repeat (first | (with_reducible first | exact Below.refl _ _ | apply below_alloc | apply pw_below_drewN | apply below_drew1) | exact Below.refl _ _)))) HNE.out.2.2).trans (blk_below HB6.out (by repeat (first | (with_reducible first | exact Below.refl _ _ | apply below_alloc | apply pw_below_drewN | apply below_drew1) | exact Below.refl _ _))))
          have HAT1 := Lib.hid (own_new (b := w7.heap.size) hat (below_size (by repeat (first | (with_reducible first | exact Below.refl _ _ | apply below_alloc | apply pw_below_drewN | apply below_drew1) | exact Below.refl _ _))))
          have HRV1 := Lib.hid (Kd.R_over' (by (with_reducible repeat (first | apply Kd.R_alloc | apply Kd.R_drewN | apply Kd.R_drew)); exact HRR.out) (Kd.R_typed (by (with_reducible repeat (first | apply Kd.R_alloc | apply Kd.R_drewN | apply Kd.R_drew)); exact HRH.out)) (fun q hq => by rw [E3 q hq]; decide) hg)
          have HT1 := Lib.hid (Tch.grown (T := (fun k => k = bl ∨ s1.hv.ownBlock = some k ∨ s1.rv.ownBlock = some k)) (Tch.below (Tch.refl w7 _) (by repeat (first | (with_reducible first | exact Below.refl _ _ | apply below_alloc | apply pw_below_drewN | apply below_drew1) | exact Below.refl _ _))) hg (fun k hk => .inl (.inr (.inl (by rw [HHV.out]; exact hk)))))
          clear ho hb hg hat
          refine hK.out _ _ ⟨(blk_cell HBK1.out 5).trans rfl, (blk_cell HBK1.out 6).trans rfl, (blk_cell HBB1.out 0).trans rfl, (blk_cell HBB1.out 1).trans rfl⟩ (fun hHeld => ?_)
          clear hK K
          refine norm_ (a' := ?_) ?_ ?_
          rotate_left
          · show Act.put _ (some 516) _ = _
            simp only [Act.put, List.setIfInBounds_toArray, List.set_cons_zero, List.set_cons_succ]
            rfl
          refine one_ (i := 16) (N := some 524) #[true, true, true, true, true, true, true, true, true, true, true, true, true, true, true, true, true, false, false, false, false, false, false, false] rfl rfl (one_of HT_.out (by kernel_rfl)) (by decide) (fun K hK => ?_)
          refine value_ (w1 := ?_) (v := ?_) (by rfl) rfl ?_ ?_
          rotate_left 2
          · go_simp
            constructor
            · rfl
            · rfl
          refine hK.out _ _ ⟨((show Below w1.heap.size w1 _ from (by repeat (first | (with_reducible first | exact Below.refl _ _ | apply below_alloc | apply pw_below_drewN | apply below_drew1) | exact Below.refl _ _))).cell (cell_lt ((blk_cell HBK1.out 5).trans (show _ = some (Value.slice A5 lh c5) from rfl)))).trans ((blk_cell HBK1.out 5).trans (show _ = some (Value.slice A5 lh c5) from rfl)), ((show Below w1.heap.size w1 _ from (by repeat (first | (with_reducible first | exact Below.refl _ _ | apply below_alloc | apply pw_below_drewN | apply below_drew1) | exact Below.refl _ _))).cell (cell_lt ((blk_cell HBK1.out 6).trans (show _ = some (Value.slice A6 lr c6) from rfl)))).trans ((blk_cell HBK1.out 6).trans (show _ = some (Value.slice A6 lr c6) from rfl)), ((show Below w1.heap.size w1 _ from (by repeat (first | (with_reducible first | exact Below.refl _ _ | apply below_alloc | apply pw_below_drewN | apply below_drew1) | exact Below.refl _ _))).cell (cell_lt ((blk_cell HBB1.out 0).trans (show _ = some (Value.int .i64 (i0 : Int)) from rfl)))).trans ((blk_cell HBB1.out 0).trans (show _ = some (Value.int .i64 (i0 : Int)) from rfl)), ((show Below w1.heap.size w1 _ from (by repeat (first | (with_reducible first | exact Below.refl _ _ | apply below_alloc | apply pw_below_drewN | apply below_drew1) | exact Below.refl _ _))).cell (cell_lt ((blk_cell HBB1.out 1).trans (show _ = some (Value.int .i64 t0) from rfl)))).trans ((blk_cell HBB1.out 1).trans (show _ = some (Value.int .i64 t0) from rfl))⟩ (fun hHeld => ?_)
          clear hK K
          refine norm_ (a' := ?_) ?_ ?_
          rotate_left
          · show Act.put _ (some 524) _ = _
            simp only [Act.put, List.setIfInBounds_toArray, List.set_cons_zero, List.set_cons_succ]
            rfl
          refine one_ (i := 17) (N := some 525) #[true, true, true, true, true, true, true, true, true, true, true, true, true, true, true, true, true, true, false, false, false, false, false, false] rfl rfl (one_of HT_.out (by kernel_rfl)) (by decide) (fun K hK => ?_)
          have HW1 : w.heap.size ≤ w1.heap.size := Nat.le_trans HW7.out HT1.out.sz
          refine Kd.R_append_rows_step (Kd.int .i64) (Rr := (Kd.int .i64).K _) (w0 := w7) w.heap.size (by rfl) (.tmp 520) (.tmp 524) 35 3 (.int .i64 0) 8 (by rfl) Tryd.underlying35 info3 rfl (by decide) (by decide) (.slice A6 lr c6) s1.rs [r0] _ 1 1 (fun _ => True) (fun _ => False) (by rfl) (by rfl) (by (with_reducible repeat (first | apply Kd.R_alloc | apply Kd.R_drewN | apply Kd.R_drew)); exact HRV1.out) (C_one3 (heap_alloc_new _ _)) (fun _ _ h => h) (fun _ h => h.elim) (fun _ _ => trivial) (Below.trans HB1.out (Below.mono (by repeat (first | (with_reducible first | exact Below.refl _ _ | apply below_alloc | apply pw_below_drewN | apply below_drew1) | exact Below.refl _ _)) HW1)) (Nat.le_trans HW1 (below_size (by repeat (first | (with_reducible first | exact Below.refl _ _ | apply below_alloc | apply pw_below_drewN | apply below_drew1) | exact Below.refl _ _)))) (by have := HLH.out; omega) ?_
          intro v2 w2 ho hb hg hat
          obtain ⟨Ay, ly, cy, rfl⟩ := R_sl2 ho
          have HO2 := Lib.hid ho
          have HB2 := Lib.hid hb
          have HBK2 := Lib.hid ((hg.block bl (Nat.lt_of_lt_of_le (blk_lt HBK1.out) (below_size (by repeat (first | (with_reducible first | exact Below.refl _ _ | apply below_alloc | apply pw_below_drewN | apply below_drew1) | exact Below.refl _ _)))) HNE2.out).trans (blk_below HBK1.out (by repeat (first | (with_reducible first | exact Below.refl _ _ | apply below_alloc | apply pw_below_drewN | apply below_drew1) | exact Below.refl _ _))))
          have HA2 := Lib.hid (show Hn w2 ab (i0 : Int) t0 from (hg.block ab (Nat.lt_of_lt_of_le (blk_lt HA1.out) (below_size (by repeat (first | (with_reducible first | exact Below.refl _ _ | apply below_alloc | apply pw_below_drewN | apply below_drew1) | exact Below.refl _ _)))) (Kd.R_ne HRV1.out HA1.out (by decide))).trans (blk_below HA1.out (by repeat (first | (with_reducible first | exact Below.refl _ _ | apply below_alloc | apply pw_below_drewN | apply below_drew1) | exact Below.refl _ _))))
          have HBB2 := Lib.hid (show Hn w2 bb (i0 : Int) t0 from (hg.block bb (Nat.lt_of_lt_of_le (blk_lt HBB1.out) (below_size (by repeat (first | (with_reducible first | exact Below.refl _ _ | apply below_alloc | apply pw_below_drewN | apply below_drew1) | exact Below.refl _ _)))) (Kd.R_ne HRV1.out HBB1.out (by decide))).trans (blk_below HBB1.out (by repeat (first | (with_reducible first | exact Below.refl _ _ | apply below_alloc | apply pw_below_drewN | apply below_drew1) | exact Below.refl _ _))))
          have HAT2 := Lib.hid (own_new (b := w7.heap.size) hat (Nat.le_trans HT1.out.sz (below_size (by repeat (first | (with_reducible first | exact Below.refl _ _ | apply below_alloc | apply pw_below_drewN | apply below_drew1) | exact Below.refl _ _)))))
          have HRH2 := Lib.hid (Kd.R_over' (by (with_reducible repeat (first | apply Kd.R_alloc | apply Kd.R_drewN | apply Kd.R_drew)); exact HO1.out) (Kd.R_typed (by (with_reducible repeat (first | apply Kd.R_alloc | apply Kd.R_drewN | apply Kd.R_drew)); exact HRV1.out)) (fun q hq => by rw [E40 q hq]; decide) hg)
          have HT2 := Lib.hid (Tch.grown (Tch.below HT1.out (by repeat (first | (with_reducible first | exact Below.refl _ _ | apply below_alloc | apply pw_below_drewN | apply below_drew1) | exact Below.refl _ _))) hg (fun k hk => .inl (.inr (.inr (by rw [HRVV.out]; exact hk)))))
          have cc5 := (blk_cell HBK2.out 5).trans (show _ = some (Value.slice A5 lh c5) from rfl)
          have cc6 := (blk_cell HBK2.out 6).trans (show _ = some (Value.slice A6 lr c6) from rfl)
          have f5 := blk_frozen HBK2.out 5
          have f6 := blk_frozen HBK2.out 6
          clear ho hb hg hat HW1
          refine hK.out _ _ ⟨(blk_cell HBK2.out 5).trans rfl, (blk_cell HBK2.out 6).trans rfl, (blk_cell HBB2.out 0).trans rfl, (blk_cell HBB2.out 1).trans rfl⟩ (fun hHeld => ?_)
          clear hK K
          refine norm_ (a' := ?_) ?_ ?_
          rotate_left
          · show Act.put _ (some 525) _ = _
            simp only [Act.put, List.setIfInBounds_toArray, List.set_cons_zero, List.set_cons_succ]
            rfl
          refine pure_ (i := 18) (N := some 526) (v := ?_) (a' := ?_) #[true, true, true, true, true, true, true, true, true, true, true, true, true, true, true, true, true, true, true, false, false, false, false, false] rfl rfl (any_of HT_.out (by kernel_rfl)) (fun _ _ _ h => h) (Or.inl ⟨by rfl, ?_⟩) ?_ ?_
          rotate_left
          · intro w'
            go_simp
            with_reducible rfl
          rotate_left
          · simp only [Act.put, List.setIfInBounds_toArray, List.set_cons_zero, List.set_cons_succ]
            rfl
          refine pure_ (i := 19) (N := some 527) (v := ?_) (a' := ?_) #[true, true, true, true, true, true, true, true, true, true, true, true, true, true, true, true, true, true, true, true, false, false, false, false] rfl rfl (any_of HT_.out (by kernel_rfl)) (fun _ _ _ h => h) (Or.inl ⟨by rfl, ?_⟩) ?_ ?_
          rotate_left
          · intro w'
            go_simp
            with_reducible rfl
          rotate_left
          · simp only [Act.put, List.setIfInBounds_toArray, List.set_cons_zero, List.set_cons_succ]
            rfl
          refine last_ (i := 20) (N := none) #[true, true, true, true, true, true, true, true, true, true, true, true, true, true, true, true, true, true, true, true, true, false, false, false] rfl rfl (one_of HT_.out (by kernel_rfl)) (by decide) (fun K hK => ?_)
          refine skip_ (w1 := ?_) (by rfl) rfl ?_ ?_
          rotate_left
          · go_simp
            rfl
          refine hK.out _ _ ?_
          clear hK K
          refine pure_ (i := 21) (N := some 528) (v := ?_) (a' := ?_) #[true, true, true, true, true, true, true, true, true, true, true, true, true, true, true, true, true, true, true, true, true, true, false, false] rfl rfl (any_of HT_.out (by kernel_rfl)) (fun _ _ _ h => h) (Or.inl ⟨by rfl, ?_⟩) ?_ ?_
          rotate_left
          · intro w'
            go_simp
            with_reducible rfl
          rotate_left
          · simp only [Act.put, List.setIfInBounds_toArray, List.set_cons_zero, List.set_cons_succ]
            rfl
          refine pure_ (i := 22) (N := some 529) (v := ?_) (a' := ?_) #[true, true, true, true, true, true, true, true, true, true, true, true, true, true, true, true, true, true, true, true, true, true, true, false] rfl rfl (any_of HT_.out (by kernel_rfl)) (fun _ _ _ h => h) (Or.inl ⟨by rfl, ?_⟩) ?_ ?_
          rotate_left
          · intro w'
            go_simp
            with_reducible rfl
          rotate_left
          · simp only [Act.put, List.setIfInBounds_toArray, List.set_cons_zero, List.set_cons_succ]
            rfl
          refine last_ (i := 23) (N := none) #[true, true, true, true, true, true, true, true, true, true, true, true, true, true, true, true, true, true, true, true, true, true, true, true] rfl rfl (one_of HT_.out (by kernel_rfl)) (by decide) (fun K hK => ?_)
          refine skip_ (w1 := ?_) (by rfl) rfl ?_ ?_
          rotate_left
          · go_simp
            rfl
          refine hK.out _ _ ?_
          clear hK K
          refine done_ (done_of HT_.out (by kernel_rfl)) ?_
          refine NoPanic.normal ?_
          go_wp2
          go_meet
          case rel => exact ⟨_, _, Lib.hid (HM6.out.rowsS HK1.out HEB.out (blk_set (blk_set HBK2.out 5 (.slice Ax lx cx)) 6 (.slice Ay ly cy)) (Kd.R_set (Kd.R_set HRH2.out HBK2.out (fun q hq => by rw [E40 q hq]; decide) 5 _) (blk_set HBK2.out 5 _) (fun q hq => by rw [E40 q hq]; decide) 6 _) (Kd.R_set (Kd.R_set HO2.out HBK2.out (fun q hq => by rw [E3 q hq]; decide) 5 _) (blk_set HBK2.out 5 _) (fun q hq => by rw [E3 q hq]; decide) 6 _) (by rw [HHV.out]; exact HAT1.out) (by rw [HRVV.out]; exact HAT2.out) ((HT2.out.set (.inl (.inl rfl))).set (.inl (.inl rfl))) (((HM6.out.ds.bl.trans HB2.out).setCell (p := ⟨bl, 5, none⟩) HLO.out _).setCell (p := ⟨bl, 6, none⟩) HLO.out _)), Lib.hid (((Below.heap_setCell _ ⟨bl, 6, none⟩ _ ab HNAB.out.1).trans (Below.heap_setCell w2 ⟨bl, 5, none⟩ _ ab HNAB.out.1)).trans HA2.out), Lib.hid (((Below.heap_setCell _ ⟨bl, 6, none⟩ _ bb HNAB.out.2).trans (Below.heap_setCell w2 ⟨bl, 5, none⟩ _ bb HNAB.out.2)).trans HBB2.out)⟩
        · skip
          refine value_ (w1 := ?_) (v := ?_) (by rfl) rfl ?_ ?_
          rotate_left 2
          · go_simp
            constructor
            · rfl
            · rfl
          refine hK.out _ _ ⟨((show Below w7.heap.size w7 _ from (by repeat (first | (with_reducible first | exact Below.refl _ _ | apply below_alloc | apply pw_below_drewN | apply below_drew1) | exact Below.refl _ _))).cell (cell_lt k5)).trans k5, ((show Below w7.heap.size w7 _ from (by repeat (first | (with_reducible first | exact Below.refl _ _ | apply below_alloc | apply pw_below_drewN | apply below_drew1) | exact Below.refl _ _))).cell (cell_lt k6)).trans k6, ((show Below w7.heap.size w7 _ from (by repeat (first | (with_reducible first | exact Below.refl _ _ | apply below_alloc | apply pw_below_drewN | apply below_drew1) | exact Below.refl _ _))).cell (cell_lt b0)).trans b0, ((show Below w7.heap.size w7 _ from (by repeat (first | (with_reducible first | exact Below.refl _ _ | apply below_alloc | apply pw_below_drewN | apply below_drew1) | exact Below.refl _ _))).cell (cell_lt b1)).trans b1⟩ (fun hHeld => ?_)
          clear hK K
          refine norm_ (a' := ?_) ?_ ?_
          rotate_left
          · show Act.put _ (some 524) _ = _
            simp only [Act.put, List.setIfInBounds_toArray, List.set_cons_zero, List.set_cons_succ]
            rfl
          refine one_ (i := 8) (N := some 516) #[true, true, true, true, true, true, true, true, true, true, true, true, true, true, true, true, true, false, false, false, false, false, false, false] rfl rfl (one_of HT_.out (by kernel_rfl)) (by decide) (fun K hK => ?_)
          refine Kd.R_append_rows_step k40 (Rr := k40.K _) (w0 := w7) w.heap.size (by rfl) (.tmp 513) (.tmp 515) 38 40 (.agg #[(.int .i64 0), (.int .i64 0)]) 16 (by rfl) Tryd.underlying38 info40 rfl (by decide) (by decide) (.slice A5 lh c5) s1.hs [⟨(i0 : Int), t0⟩] _ 1 1 (fun _ => True) (fun _ => False) (by rfl) (by rfl) (by (with_reducible repeat (first | apply Kd.R_alloc | apply Kd.R_drewN | apply Kd.R_drew)); exact HRH.out) (C_one40 (by first | exact heap_alloc_new _ _ | exact heap_at2 (by simp) | exact (Below.heap_alloc _ _ _ (by simp)).trans (heap_alloc_new _ _))) (fun _ _ h => h) (fun _ h => h.elim) (fun _ _ => trivial) (Below.mono (by repeat (first | (with_reducible first | exact Below.refl _ _ | apply below_alloc | apply pw_below_drewN | apply below_drew1) | exact Below.refl _ _)) HW7.out) (Nat.le_trans HW7.out (below_size (by repeat (first | (with_reducible first | exact Below.refl _ _ | apply below_alloc | apply pw_below_drewN | apply below_drew1) | exact Below.refl _ _)))) (by have := HLH.out; omega) ?_
          intro v1 w1 ho hb hg hat
          obtain ⟨Ax, lx, cx, rfl⟩ := R_sl2 ho
          have HO1 := Lib.hid ho
          have HB1 := Lib.hid hb
          have HBK1 := Lib.hid ((hg.block bl (Nat.lt_of_lt_of_le (blk_lt HBK.out) (below_size (by repeat (first | (with_reducible first | exact Below.refl _ _ | apply below_alloc | apply pw_below_drewN | apply below_drew1) | exact Below.refl _ _)))) HNE.out.1).trans (blk_below HBK.out (by repeat (first | (with_reducible first | exact Below.refl _ _ | apply below_alloc | apply pw_below_drewN | apply below_drew1) | exact Below.refl _ _))))
          have HA1 := Lib.hid (show Hn w1 ab (i0 : Int) t0 from (hg.block ab (Nat.lt_of_lt_of_le (blk_lt HA6.out) (below_size (by repeat (first | (with_reducible first | exact Below.refl _ _ | apply below_alloc | apply pw_below_drewN | apply below_drew1) | exact Below.refl _ _)))) HNE.out.2.1).trans (blk_below HA6.out (by repeat (first | (with_reducible first | exact Below.refl _ _ | apply below_alloc | apply pw_below_drewN | apply below_drew1) | exact Below.refl _ _))))
          have HBB1 := Lib.hid (show Hn w1 bb (i0 : Int) t0 from (hg.block bb (Nat.lt_of_lt_of_le (blk_lt HB6.out) (below_size (by repeat (first | (with_reducible first | exact Below.refl _ _ | apply below_alloc | apply pw_below_drewN | apply below_drew1) | exact Below.refl _ _)))) HNE.out.2.2).trans (blk_below HB6.out (by repeat (first | (with_reducible first | exact Below.refl _ _ | apply below_alloc | apply pw_below_drewN | apply below_drew1) | exact Below.refl _ _))))
          have HAT1 := Lib.hid (own_new (b := w7.heap.size) hat (below_size (by repeat (first | (with_reducible first | exact Below.refl _ _ | apply below_alloc | apply pw_below_drewN | apply below_drew1) | exact Below.refl _ _))))
          have HRV1 := Lib.hid (Kd.R_over' (by (with_reducible repeat (first | apply Kd.R_alloc | apply Kd.R_drewN | apply Kd.R_drew)); exact HRR.out) (Kd.R_typed (by (with_reducible repeat (first | apply Kd.R_alloc | apply Kd.R_drewN | apply Kd.R_drew)); exact HRH.out)) (fun q hq => by rw [E3 q hq]; decide) hg)
          have HT1 := Lib.hid (Tch.grown (T := (fun k => k = bl ∨ s1.hv.ownBlock = some k ∨ s1.rv.ownBlock = some k)) (Tch.below (Tch.refl w7 _) (by repeat (first | (with_reducible first | exact Below.refl _ _ | apply below_alloc | apply pw_below_drewN | apply below_drew1) | exact Below.refl _ _))) hg (fun k hk => .inl (.inr (.inl (by rw [HHV.out]; exact hk)))))
          have HE1 := Lib.hid (C_one3 (r := r0) ((hg.block (w7.heap.size + 1) (by simp <;> omega) (HLT.out _ (by omega))).trans (by first | exact heap_alloc_new _ _ | exact heap_at2 (by simp) | exact (Below.heap_alloc _ _ _ (by simp)).trans (heap_alloc_new _ _))))
          clear ho hb hg hat
          refine hK.out _ _ ⟨(blk_cell HBK1.out 5).trans rfl, (blk_cell HBK1.out 6).trans rfl, (blk_cell HBB1.out 0).trans rfl, (blk_cell HBB1.out 1).trans rfl⟩ (fun hHeld => ?_)
          clear hK K
          refine norm_ (a' := ?_) ?_ ?_
          rotate_left
          · show Act.put _ (some 516) _ = _
            simp only [Act.put, List.setIfInBounds_toArray, List.set_cons_zero, List.set_cons_succ]
            rfl
          refine one_ (i := 17) (N := some 525) #[true, true, true, true, true, true, true, true, true, true, true, true, true, true, true, true, true, true, false, false, false, false, false, false] rfl rfl (one_of HT_.out (by kernel_rfl)) (by decide) (fun K hK => ?_)
          have HW1 : w.heap.size ≤ w1.heap.size := Nat.le_trans HW7.out HT1.out.sz
          refine Kd.R_append_rows_step (Kd.int .i64) (Rr := (Kd.int .i64).K _) (w0 := w7) w.heap.size (by rfl) (.tmp 520) (.tmp 524) 35 3 (.int .i64 0) 8 (by rfl) Tryd.underlying35 info3 rfl (by decide) (by decide) (.slice A6 lr c6) s1.rs [r0] _ 1 1 (fun _ => True) (fun _ => False) (by rfl) (by rfl) HRV1.out HE1.out (fun _ _ h => h) (fun _ h => h.elim) (fun _ _ => trivial) (Below.trans HB1.out (Below.mono (by repeat (first | (with_reducible first | exact Below.refl _ _ | apply below_alloc | apply pw_below_drewN | apply below_drew1) | exact Below.refl _ _)) HW1)) (Nat.le_trans HW1 (below_size (by repeat (first | (with_reducible first | exact Below.refl _ _ | apply below_alloc | apply pw_below_drewN | apply below_drew1) | exact Below.refl _ _)))) (by have := HLH.out; omega) ?_
          intro v2 w2 ho hb hg hat
          obtain ⟨Ay, ly, cy, rfl⟩ := R_sl2 ho
          have HO2 := Lib.hid ho
          have HB2 := Lib.hid hb
          have HBK2 := Lib.hid ((hg.block bl (Nat.lt_of_lt_of_le (blk_lt HBK1.out) (below_size (by repeat (first | (with_reducible first | exact Below.refl _ _ | apply below_alloc | apply pw_below_drewN | apply below_drew1) | exact Below.refl _ _)))) HNE2.out).trans (blk_below HBK1.out (by repeat (first | (with_reducible first | exact Below.refl _ _ | apply below_alloc | apply pw_below_drewN | apply below_drew1) | exact Below.refl _ _))))
          have HA2 := Lib.hid (show Hn w2 ab (i0 : Int) t0 from (hg.block ab (Nat.lt_of_lt_of_le (blk_lt HA1.out) (below_size (by repeat (first | (with_reducible first | exact Below.refl _ _ | apply below_alloc | apply pw_below_drewN | apply below_drew1) | exact Below.refl _ _)))) (Kd.R_ne HRV1.out HA1.out (by decide))).trans (blk_below HA1.out (by repeat (first | (with_reducible first | exact Below.refl _ _ | apply below_alloc | apply pw_below_drewN | apply below_drew1) | exact Below.refl _ _))))
          have HBB2 := Lib.hid (show Hn w2 bb (i0 : Int) t0 from (hg.block bb (Nat.lt_of_lt_of_le (blk_lt HBB1.out) (below_size (by repeat (first | (with_reducible first | exact Below.refl _ _ | apply below_alloc | apply pw_below_drewN | apply below_drew1) | exact Below.refl _ _)))) (Kd.R_ne HRV1.out HBB1.out (by decide))).trans (blk_below HBB1.out (by repeat (first | (with_reducible first | exact Below.refl _ _ | apply below_alloc | apply pw_below_drewN | apply below_drew1) | exact Below.refl _ _))))
          have HAT2 := Lib.hid (own_new (b := w7.heap.size) hat (Nat.le_trans HT1.out.sz (below_size (by repeat (first | (with_reducible first | exact Below.refl _ _ | apply below_alloc | apply pw_below_drewN | apply below_drew1) | exact Below.refl _ _)))))
          have HRH2 := Lib.hid (Kd.R_over' (by (with_reducible repeat (first | apply Kd.R_alloc | apply Kd.R_drewN | apply Kd.R_drew)); exact HO1.out) (Kd.R_typed (by (with_reducible repeat (first | apply Kd.R_alloc | apply Kd.R_drewN | apply Kd.R_drew)); exact HRV1.out)) (fun q hq => by rw [E40 q hq]; decide) hg)
          have HT2 := Lib.hid (Tch.grown (Tch.below HT1.out (by repeat (first | (with_reducible first | exact Below.refl _ _ | apply below_alloc | apply pw_below_drewN | apply below_drew1) | exact Below.refl _ _))) hg (fun k hk => .inl (.inr (.inr (by rw [HRVV.out]; exact hk)))))
          have cc5 := (blk_cell HBK2.out 5).trans (show _ = some (Value.slice A5 lh c5) from rfl)
          have cc6 := (blk_cell HBK2.out 6).trans (show _ = some (Value.slice A6 lr c6) from rfl)
          have f5 := blk_frozen HBK2.out 5
          have f6 := blk_frozen HBK2.out 6
          clear ho hb hg hat HW1
          refine hK.out _ _ ⟨(blk_cell HBK2.out 5).trans rfl, (blk_cell HBK2.out 6).trans rfl, (blk_cell HBB2.out 0).trans rfl, (blk_cell HBB2.out 1).trans rfl⟩ (fun hHeld => ?_)
          clear hK K
          refine norm_ (a' := ?_) ?_ ?_
          rotate_left
          · show Act.put _ (some 525) _ = _
            simp only [Act.put, List.setIfInBounds_toArray, List.set_cons_zero, List.set_cons_succ]
            rfl
          refine pure_ (i := 18) (N := some 526) (v := ?_) (a' := ?_) #[true, true, true, true, true, true, true, true, true, true, true, true, true, true, true, true, true, true, true, false, false, false, false, false] rfl rfl (any_of HT_.out (by kernel_rfl)) (fun _ _ _ h => h) (Or.inl ⟨by rfl, ?_⟩) ?_ ?_
          rotate_left
          · intro w'
            go_simp
            with_reducible rfl
          rotate_left
          · simp only [Act.put, List.setIfInBounds_toArray, List.set_cons_zero, List.set_cons_succ]
            rfl
          refine pure_ (i := 19) (N := some 527) (v := ?_) (a' := ?_) #[true, true, true, true, true, true, true, true, true, true, true, true, true, true, true, true, true, true, true, true, false, false, false, false] rfl rfl (any_of HT_.out (by kernel_rfl)) (fun _ _ _ h => h) (Or.inl ⟨by rfl, ?_⟩) ?_ ?_
          rotate_left
          · intro w'
            go_simp
            with_reducible rfl
          rotate_left
          · simp only [Act.put, List.setIfInBounds_toArray, List.set_cons_zero, List.set_cons_succ]
            rfl
          refine last_ (i := 20) (N := none) #[true, true, true, true, true, true, true, true, true, true, true, true, true, true, true, true, true, true, true, true, true, false, false, false] rfl rfl (one_of HT_.out (by kernel_rfl)) (by decide) (fun K hK => ?_)
          refine skip_ (w1 := ?_) (by rfl) rfl ?_ ?_
          rotate_left
          · go_simp
            rfl
          refine hK.out _ _ ?_
          clear hK K
          refine pure_ (i := 21) (N := some 528) (v := ?_) (a' := ?_) #[true, true, true, true, true, true, true, true, true, true, true, true, true, true, true, true, true, true, true, true, true, true, false, false] rfl rfl (any_of HT_.out (by kernel_rfl)) (fun _ _ _ h => h) (Or.inl ⟨by rfl, ?_⟩) ?_ ?_
          rotate_left
          · intro w'
            go_simp
            with_reducible rfl
          rotate_left
          · simp only [Act.put, List.setIfInBounds_toArray, List.set_cons_zero, List.set_cons_succ]
            rfl
          refine pure_ (i := 22) (N := some 529) (v := ?_) (a' := ?_) #[true, true, true, true, true, true, true, true, true, true, true, true, true, true, true, true, true, true, true, true, true, true, true, false] rfl rfl (any_of HT_.out (by kernel_rfl)) (fun _ _ _ h => h) (Or.inl ⟨by rfl, ?_⟩) ?_ ?_
          rotate_left
          · intro w'
            go_simp
            with_reducible rfl
          rotate_left
          · simp only [Act.put, List.setIfInBounds_toArray, List.set_cons_zero, List.set_cons_succ]
            rfl
          refine last_ (i := 23) (N := none) #[true, true, true, true, true, true, true, true, true, true, true, true, true, true, true, true, true, true, true, true, true, true, true, true] rfl rfl (one_of HT_.out (by kernel_rfl)) (by decide) (fun K hK => ?_)
          refine skip_ (w1 := ?_) (by rfl) rfl ?_ ?_
          rotate_left
          · go_simp
            rfl
          refine hK.out _ _ ?_
          clear hK K
          refine done_ (done_of HT_.out (by kernel_rfl)) ?_
          refine NoPanic.normal ?_
          go_wp2
          go_meet
          case rel => exact ⟨_, _, Lib.hid (HM6.out.rowsS HK1.out HEB.out (blk_set (blk_set HBK2.out 5 (.slice Ax lx cx)) 6 (.slice Ay ly cy)) (Kd.R_set (Kd.R_set HRH2.out HBK2.out (fun q hq => by rw [E40 q hq]; decide) 5 _) (blk_set HBK2.out 5 _) (fun q hq => by rw [E40 q hq]; decide) 6 _) (Kd.R_set (Kd.R_set HO2.out HBK2.out (fun q hq => by rw [E3 q hq]; decide) 5 _) (blk_set HBK2.out 5 _) (fun q hq => by rw [E3 q hq]; decide) 6 _) (by rw [HHV.out]; exact HAT1.out) (by rw [HRVV.out]; exact HAT2.out) ((HT2.out.set (.inl (.inl rfl))).set (.inl (.inl rfl))) (((HM6.out.ds.bl.trans HB2.out).setCell (p := ⟨bl, 5, none⟩) HLO.out _).setCell (p := ⟨bl, 6, none⟩) HLO.out _)), Lib.hid (((Below.heap_setCell _ ⟨bl, 6, none⟩ _ ab HNAB.out.1).trans (Below.heap_setCell w2 ⟨bl, 5, none⟩ _ ab HNAB.out.1)).trans HA2.out), Lib.hid (((Below.heap_setCell _ ⟨bl, 6, none⟩ _ bb HNAB.out.2).trans (Below.heap_setCell w2 ⟨bl, 5, none⟩ _ bb HNAB.out.2)).trans HBB2.out)⟩
      · skip
        refine value_ (w1 := ?_) (v := ?_) (by rfl) rfl ?_ ?_
        rotate_left 2
        · go_simp
          constructor
          · rfl
          · rfl
        refine hK.out _ _ ⟨((show Below w7.heap.size w7 _ from (by repeat (first | (with_reducible first | exact Below.refl _ _ | apply below_alloc | apply pw_below_drewN | apply below_drew1) | exact Below.refl _ _))).cell (cell_lt k5)).trans k5, ((show Below w7.heap.size w7 _ from (by repeat (first | (with_reducible first | exact Below.refl _ _ | apply below_alloc | apply pw_below_drewN | apply below_drew1) | exact Below.refl _ _))).cell (cell_lt k6)).trans k6, ((show Below w7.heap.size w7 _ from (by repeat (first | (with_reducible first | exact Below.refl _ _ | apply below_alloc | apply pw_below_drewN | apply below_drew1) | exact Below.refl _ _))).cell (cell_lt b0)).trans b0, ((show Below w7.heap.size w7 _ from (by repeat (first | (with_reducible first | exact Below.refl _ _ | apply below_alloc | apply pw_below_drewN | apply below_drew1) | exact Below.refl _ _))).cell (cell_lt b1)).trans b1⟩ (fun hHeld => ?_)
        clear hK K
        refine norm_ (a' := ?_) ?_ ?_
        rotate_left
        · show Act.put _ (some 524) _ = _
          simp only [Act.put, List.setIfInBounds_toArray, List.set_cons_zero, List.set_cons_succ]
          rfl
        refine one_ (i := 7) (N := some 515) #[true, true, true, true, true, true, true, true, false, true, true, true, true, true, true, true, true, false, false, false, false, false, false, false] rfl rfl (one_of HT_.out (by kernel_rfl)) (by decide) (fun K hK => ?_)
        refine value_ (w1 := ?_) (v := ?_) (by rfl) rfl ?_ ?_
        rotate_left 2
        · go_simp
          constructor
          · rfl
          · rfl
        refine hK.out _ _ ⟨((show Below w7.heap.size w7 _ from (by repeat (first | (with_reducible first | exact Below.refl _ _ | apply below_alloc | apply pw_below_drewN | apply below_drew1) | exact Below.refl _ _))).cell (cell_lt k5)).trans k5, ((show Below w7.heap.size w7 _ from (by repeat (first | (with_reducible first | exact Below.refl _ _ | apply below_alloc | apply pw_below_drewN | apply below_drew1) | exact Below.refl _ _))).cell (cell_lt k6)).trans k6, ((show Below w7.heap.size w7 _ from (by repeat (first | (with_reducible first | exact Below.refl _ _ | apply below_alloc | apply pw_below_drewN | apply below_drew1) | exact Below.refl _ _))).cell (cell_lt b0)).trans b0, ((show Below w7.heap.size w7 _ from (by repeat (first | (with_reducible first | exact Below.refl _ _ | apply below_alloc | apply pw_below_drewN | apply below_drew1) | exact Below.refl _ _))).cell (cell_lt b1)).trans b1⟩ (fun hHeld => ?_)
        clear hK K
        refine norm_ (a' := ?_) ?_ ?_
        rotate_left
        · show Act.put _ (some 515) _ = _
          simp only [Act.put, List.setIfInBounds_toArray, List.set_cons_zero, List.set_cons_succ]
          rfl
        refine one_ (i := 8) (N := some 516) #[true, true, true, true, true, true, true, true, true, true, true, true, true, true, true, true, true, false, false, false, false, false, false, false] rfl rfl (one_of HT_.out (by kernel_rfl)) (by decide) (fun K hK => ?_)
        refine Kd.R_append_rows_step k40 (Rr := k40.K _) (w0 := w7) w.heap.size (by rfl) (.tmp 513) (.tmp 515) 38 40 (.agg #[(.int .i64 0), (.int .i64 0)]) 16 (by rfl) Tryd.underlying38 info40 rfl (by decide) (by decide) (.slice A5 lh c5) s1.hs [⟨(i0 : Int), t0⟩] _ 1 1 (fun _ => True) (fun _ => False) (by rfl) (by rfl) (by (with_reducible repeat (first | apply Kd.R_alloc | apply Kd.R_drewN | apply Kd.R_drew)); exact HRH.out) (C_one40 (by first | exact heap_alloc_new _ _ | exact heap_at2 (by simp) | exact (Below.heap_alloc _ _ _ (by simp)).trans (heap_alloc_new _ _))) (fun _ _ h => h) (fun _ h => h.elim) (fun _ _ => trivial) (Below.mono (by repeat (first | (with_reducible first | exact Below.refl _ _ | apply below_alloc | apply pw_below_drewN | apply below_drew1) | exact Below.refl _ _)) HW7.out) (Nat.le_trans HW7.out (below_size (by repeat (first | (with_reducible first | exact Below.refl _ _ | apply below_alloc | apply pw_below_drewN | apply below_drew1) | exact Below.refl _ _)))) (by have := HLH.out; omega) ?_
        intro v1 w1 ho hb hg hat
        obtain ⟨Ax, lx, cx, rfl⟩ := R_sl2 ho
        have HO1 := Lib.hid ho
        have HB1 := Lib.hid hb
        have HBK1 := Lib.hid ((hg.block bl (Nat.lt_of_lt_of_le (blk_lt HBK.out) (below_size (by repeat (first | (with_reducible first | exact Below.refl _ _ | apply below_alloc | apply pw_below_drewN | apply below_drew1) | exact Below.refl _ _)))) HNE.out.1).trans (blk_below HBK.out (by repeat (first | (with_reducible first | exact Below.refl _ _ | apply below_alloc | apply pw_below_drewN | apply below_drew1) | exact Below.refl _ _))))
        have HA1 := Lib.hid (show Hn w1 ab (i0 : Int) t0 from (hg.block ab (Nat.lt_of_lt_of_le (blk_lt HA6.out) (below_size (by repeat (first | (with_reducible first | exact Below.refl _ _ | apply below_alloc | apply pw_below_drewN | apply below_drew1) | exact Below.refl _ _)))) HNE.out.2.1).trans (blk_below HA6.out (by repeat (first | (with_reducible first | exact Below.refl _ _ | apply below_alloc | apply pw_below_drewN | apply below_drew1) | exact Below.refl _ _))))
        have HBB1 := Lib.hid (show Hn w1 bb (i0 : Int) t0 from (hg.block bb (Nat.lt_of_lt_of_le (blk_lt HB6.out) (below_size (by repeat (first | (with_reducible first | exact Below.refl _ _ | apply below_alloc | apply pw_below_drewN | apply below_drew1) | exact Below.refl _ _)))) HNE.out.2.2).trans (blk_below HB6.out (by repeat (first | (with_reducible first | exact Below.refl _ _ | apply below_alloc | apply pw_below_drewN | apply below_drew1) | exact Below.refl _ _))))
        have HAT1 := Lib.hid (own_new (b := w7.heap.size) hat (below_size (by repeat (first | (with_reducible first | exact Below.refl _ _ | apply below_alloc | apply pw_below_drewN | apply below_drew1) | exact Below.refl _ _))))
        have HRV1 := Lib.hid (Kd.R_over' (by (with_reducible repeat (first | apply Kd.R_alloc | apply Kd.R_drewN | apply Kd.R_drew)); exact HRR.out) (Kd.R_typed (by (with_reducible repeat (first | apply Kd.R_alloc | apply Kd.R_drewN | apply Kd.R_drew)); exact HRH.out)) (fun q hq => by rw [E3 q hq]; decide) hg)
        have HT1 := Lib.hid (Tch.grown (T := (fun k => k = bl ∨ s1.hv.ownBlock = some k ∨ s1.rv.ownBlock = some k)) (Tch.below (Tch.refl w7 _) (by repeat (first | (with_reducible first | exact Below.refl _ _ | apply below_alloc | apply pw_below_drewN | apply below_drew1) | exact Below.refl _ _))) hg (fun k hk => .inl (.inr (.inl (by rw [HHV.out]; exact hk)))))
        have HE1 := Lib.hid (C_one3 (r := r0) ((hg.block w7.heap.size (by simp <;> omega) (HLT.out _ (by omega))).trans (by first | exact heap_alloc_new _ _ | exact heap_at2 (by simp) | exact (Below.heap_alloc _ _ _ (by simp)).trans (heap_alloc_new _ _))))
        clear ho hb hg hat
        refine hK.out _ _ ⟨(blk_cell HBK1.out 5).trans rfl, (blk_cell HBK1.out 6).trans rfl, (blk_cell HBB1.out 0).trans rfl, (blk_cell HBB1.out 1).trans rfl⟩ (fun hHeld => ?_)
        clear hK K
        refine norm_ (a' := ?_) ?_ ?_
        rotate_left
        · show Act.put _ (some 516) _ = _
          simp only [Act.put, List.setIfInBounds_toArray, List.set_cons_zero, List.set_cons_succ]
          rfl
        refine one_ (i := 17) (N := some 525) #[true, true, true, true, true, true, true, true, true, true, true, true, true, true, true, true, true, true, false, false, false, false, false, false] rfl rfl (one_of HT_.out (by kernel_rfl)) (by decide) (fun K hK => ?_)
        have HW1 : w.heap.size ≤ w1.heap.size := Nat.le_trans HW7.out HT1.out.sz
        refine Kd.R_append_rows_step (Kd.int .i64) (Rr := (Kd.int .i64).K _) (w0 := w7) w.heap.size (by rfl) (.tmp 520) (.tmp 524) 35 3 (.int .i64 0) 8 (by rfl) Tryd.underlying35 info3 rfl (by decide) (by decide) (.slice A6 lr c6) s1.rs [r0] _ 1 1 (fun _ => True) (fun _ => False) (by rfl) (by rfl) HRV1.out HE1.out (fun _ _ h => h) (fun _ h => h.elim) (fun _ _ => trivial) (Below.trans HB1.out (Below.mono (by repeat (first | (with_reducible first | exact Below.refl _ _ | apply below_alloc | apply pw_below_drewN | apply below_drew1) | exact Below.refl _ _)) HW1)) (Nat.le_trans HW1 (below_size (by repeat (first | (with_reducible first | exact Below.refl _ _ | apply below_alloc | apply pw_below_drewN | apply below_drew1) | exact Below.refl _ _)))) (by have := HLH.out; omega) ?_
        intro v2 w2 ho hb hg hat
        obtain ⟨Ay, ly, cy, rfl⟩ := R_sl2 ho
        have HO2 := Lib.hid ho
        have HB2 := Lib.hid hb
        have HBK2 := Lib.hid ((hg.block bl (Nat.lt_of_lt_of_le (blk_lt HBK1.out) (below_size (by repeat (first | (with_reducible first | exact Below.refl _ _ | apply below_alloc | apply pw_below_drewN | apply below_drew1) | exact Below.refl _ _)))) HNE2.out).trans (blk_below HBK1.out (by repeat (first | (with_reducible first | exact Below.refl _ _ | apply below_alloc | apply pw_below_drewN | apply below_drew1) | exact Below.refl _ _))))
        have HA2 := Lib.hid (show Hn w2 ab (i0 : Int) t0 from (hg.block ab (Nat.lt_of_lt_of_le (blk_lt HA1.out) (below_size (by repeat (first | (with_reducible first | exact Below.refl _ _ | apply below_alloc | apply pw_below_drewN | apply below_drew1) | exact Below.refl _ _)))) (Kd.R_ne HRV1.out HA1.out (by decide))).trans (blk_below HA1.out (by repeat (first | (with_reducible first | exact Below.refl _ _ | apply below_alloc | apply pw_below_drewN | apply below_drew1) | exact Below.refl _ _))))
        have HBB2 := Lib.hid (show Hn w2 bb (i0 : Int) t0 from (hg.block bb (Nat.lt_of_lt_of_le (blk_lt HBB1.out) (below_size (by repeat (first | (with_reducible first | exact Below.refl _ _ | apply below_alloc | apply pw_below_drewN | apply below_drew1) | exact Below.refl _ _)))) (Kd.R_ne HRV1.out HBB1.out (by decide))).trans (blk_below HBB1.out (by repeat (first | (with_reducible first | exact Below.refl _ _ | apply below_alloc | apply pw_below_drewN | apply below_drew1) | exact Below.refl _ _))))
        have HAT2 := Lib.hid (own_new (b := w7.heap.size) hat (Nat.le_trans HT1.out.sz (below_size (by repeat (first | (with_reducible first | exact Below.refl _ _ | apply below_alloc | apply pw_below_drewN | apply below_drew1) | exact Below.refl _ _)))))
        have HRH2 := Lib.hid (Kd.R_over' (by (with_reducible repeat (first | apply Kd.R_alloc | apply Kd.R_drewN | apply Kd.R_drew)); exact HO1.out) (Kd.R_typed (by (with_reducible repeat (first | apply Kd.R_alloc | apply Kd.R_drewN | apply Kd.R_drew)); exact HRV1.out)) (fun q hq => by rw [E40 q hq]; decide) hg)
        have HT2 := Lib.hid (Tch.grown (Tch.below HT1.out (by repeat (first | (with_reducible first | exact Below.refl _ _ | apply below_alloc | apply pw_below_drewN | apply below_drew1) | exact Below.refl _ _))) hg (fun k hk => .inl (.inr (.inr (by rw [HRVV.out]; exact hk)))))
        have cc5 := (blk_cell HBK2.out 5).trans (show _ = some (Value.slice A5 lh c5) from rfl)
        have cc6 := (blk_cell HBK2.out 6).trans (show _ = some (Value.slice A6 lr c6) from rfl)
        have f5 := blk_frozen HBK2.out 5
        have f6 := blk_frozen HBK2.out 6
        clear ho hb hg hat HW1
        refine hK.out _ _ ⟨(blk_cell HBK2.out 5).trans rfl, (blk_cell HBK2.out 6).trans rfl, (blk_cell HBB2.out 0).trans rfl, (blk_cell HBB2.out 1).trans rfl⟩ (fun hHeld => ?_)
        clear hK K
        refine norm_ (a' := ?_) ?_ ?_
        rotate_left
        · show Act.put _ (some 525) _ = _
          simp only [Act.put, List.setIfInBounds_toArray, List.set_cons_zero, List.set_cons_succ]
          rfl
        refine pure_ (i := 18) (N := some 526) (v := ?_) (a' := ?_) #[true, true, true, true, true, true, true, true, true, true, true, true, true, true, true, true, true, true, true, false, false, false, false, false] rfl rfl (any_of HT_.out (by kernel_rfl)) (fun _ _ _ h => h) (Or.inl ⟨by rfl, ?_⟩) ?_ ?_
        rotate_left
        · intro w'
          go_simp
          with_reducible rfl
        rotate_left
        · simp only [Act.put, List.setIfInBounds_toArray, List.set_cons_zero, List.set_cons_succ]
          rfl
        refine pure_ (i := 19) (N := some 527) (v := ?_) (a' := ?_) #[true, true, true, true, true, true, true, true, true, true, true, true, true, true, true, true, true, true, true, true, false, false, false, false] rfl rfl (any_of HT_.out (by kernel_rfl)) (fun _ _ _ h => h) (Or.inl ⟨by rfl, ?_⟩) ?_ ?_
        rotate_left
        · intro w'
          go_simp
          with_reducible rfl
        rotate_left
        · simp only [Act.put, List.setIfInBounds_toArray, List.set_cons_zero, List.set_cons_succ]
          rfl
        refine last_ (i := 20) (N := none) #[true, true, true, true, true, true, true, true, true, true, true, true, true, true, true, true, true, true, true, true, true, false, false, false] rfl rfl (one_of HT_.out (by kernel_rfl)) (by decide) (fun K hK => ?_)
        refine skip_ (w1 := ?_) (by rfl) rfl ?_ ?_
        rotate_left
        · go_simp
          rfl
        refine hK.out _ _ ?_
        clear hK K
        refine pure_ (i := 21) (N := some 528) (v := ?_) (a' := ?_) #[true, true, true, true, true, true, true, true, true, true, true, true, true, true, true, true, true, true, true, true, true, true, false, false] rfl rfl (any_of HT_.out (by kernel_rfl)) (fun _ _ _ h => h) (Or.inl ⟨by rfl, ?_⟩) ?_ ?_
        rotate_left
        · intro w'
          go_simp
          with_reducible rfl
        rotate_left
        · simp only [Act.put, List.setIfInBounds_toArray, List.set_cons_zero, List.set_cons_succ]
          rfl
        refine pure_ (i := 22) (N := some 529) (v := ?_) (a' := ?_) #[true, true, true, true, true, true, true, true, true, true, true, true, true, true, true, true, true, true, true, true, true, true, true, false] rfl rfl (any_of HT_.out (by kernel_rfl)) (fun _ _ _ h => h) (Or.inl ⟨by rfl, ?_⟩) ?_ ?_
        rotate_left
        · intro w'
          go_simp
          with_reducible rfl
        rotate_left
        · simp only [Act.put, List.setIfInBounds_toArray, List.set_cons_zero, List.set_cons_succ]
          rfl
        refine last_ (i := 23) (N := none) #[true, true, true, true, true, true, true, true, true, true, true, true, true, true, true, true, true, true, true, true, true, true, true, true] rfl rfl (one_of HT_.out (by kernel_rfl)) (by decide) (fun K hK => ?_)
        refine skip_ (w1 := ?_) (by rfl) rfl ?_ ?_
        rotate_left
        · go_simp
          rfl
        refine hK.out _ _ ?_
        clear hK K
        refine done_ (done_of HT_.out (by kernel_rfl)) ?_
        refine NoPanic.normal ?_
        go_wp2
        go_meet
        case rel => exact ⟨_, _, Lib.hid (HM6.out.rowsS HK1.out HEB.out (blk_set (blk_set HBK2.out 5 (.slice Ax lx cx)) 6 (.slice Ay ly cy)) (Kd.R_set (Kd.R_set HRH2.out HBK2.out (fun q hq => by rw [E40 q hq]; decide) 5 _) (blk_set HBK2.out 5 _) (fun q hq => by rw [E40 q hq]; decide) 6 _) (Kd.R_set (Kd.R_set HO2.out HBK2.out (fun q hq => by rw [E3 q hq]; decide) 5 _) (blk_set HBK2.out 5 _) (fun q hq => by rw [E3 q hq]; decide) 6 _) (by rw [HHV.out]; exact HAT1.out) (by rw [HRVV.out]; exact HAT2.out) ((HT2.out.set (.inl (.inl rfl))).set (.inl (.inl rfl))) (((HM6.out.ds.bl.trans HB2.out).setCell (p := ⟨bl, 5, none⟩) HLO.out _).setCell (p := ⟨bl, 6, none⟩) HLO.out _)), Lib.hid (((Below.heap_setCell _ ⟨bl, 6, none⟩ _ ab HNAB.out.1).trans (Below.heap_setCell w2 ⟨bl, 5, none⟩ _ ab HNAB.out.1)).trans HA2.out), Lib.hid (((Below.heap_setCell _ ⟨bl, 6, none⟩ _ bb HNAB.out.2).trans (Below.heap_setCell w2 ⟨bl, 5, none⟩ _ bb HNAB.out.2)).trans HBB2.out)⟩
  case rest =>
    obtain ⟨hv, rv, HMF, HAF, HBF⟩ := hcut
    have a0 := (blk_cell HAF.out 0).trans (show _ = some (Value.int .i64 (i0 : Int)) from rfl)
    have a1 := (blk_cell HAF.out 1).trans (show _ = some (Value.int .i64 t0) from rfl)
    have b0 := (blk_cell HBF.out 0).trans (show _ = some (Value.int .i64 (i0 : Int)) from rfl)
    have b1 := (blk_cell HBF.out 1).trans (show _ = some (Value.int .i64 t0) from rfl)
    have HLF := Lib.hid (HL.out.turnS HK.out HX.out.1 (s' := { s with ps := tookL s.ps i0, hv := hv, hs := s.hs ++ [⟨(i0 : Int), t0⟩], rv := rv, rs := s.rs ++ [r0] }) (u' := keptS (F p).2 i0 r0) ⟨rfl, rfl⟩ (by have := HMK.out hv rv r0; rw [HT0.out] at this; exact this) HPL.out (fun r hr => by
      rcases List.mem_append.1 hr with h1 | h1
      · exact HL.out.refs s HSM.out r h1
      · simp at h1; subst h1; exact HR16.out))
    go_wp2
    refine Met.intro (hJ _ _ ?_)
    exact ⟨⟨⟨rfl, rfl⟩, rfl, rfl, rfl, rfl, rfl, rfl, rfl⟩, rfl, _, _, _, rfl, rfl, rfl, rfl, ps, cp, Dm, _, _, os, by have h := HMF.out; rw [← HS1.out, List.set_set] at h; exact h, HLF.out⟩
end
end Go.Proofs.YtphaaagcdjpceaaDoor
namespace Go.Proofs.YtphaaagcdjpceaaDoor
open Go.RowKit Go.Extern.Stop Go.Stop Go.Extern Go.Proofs.YtphaaagcdjpceaaDoorW.PrintWords Go.Proofs.YtphaaagcdjpceaaDoorW.PrintLast Go.Proofs.YtphaaagcdjpceaaDoorW.PrintMore
set_option linter.unusedVariables false
theorem R_empty40 {W : World} {H base : Nat} (h : W.heap[H]? = some (.cells #[] 40 (0, 0))) (hb : base ≤ H) : Kd.R k40 40 W base (fun _ => True) (.slice (some ⟨H, 0, none⟩) 0 0) [] :=
  ⟨fun _ _ => trivial, [], ⟨rfl, .inr ⟨H, 0, #[], rfl, hb, h, Nat.le_refl _, by unfold maxLen; omega, rfl, rfl⟩⟩, Reps.none _ _⟩
theorem R_empty3 {W : World} {H base : Nat} (h : W.heap[H]? = some (.cells #[] 3 (0, 0))) (hb : base ≤ H) : Kd.R (Kd.int .i64) 3 W base (fun _ => True) (.slice (some ⟨H, 0, none⟩) 0 0) [] :=
  ⟨fun _ _ => trivial, [], ⟨rfl, .inr ⟨H, 0, #[], rfl, hb, h, Nat.le_refl _, by unfold maxLen; omega, rfl, rfl⟩⟩, Reps.none _ _⟩
section
variable {w W : World} {d pg M Ns : Nat} {most n : Int} {ps : List S108} {snaps : Int} {cap : Nat} {D : DataW Unit} {F : Int → Nat × Sn} {c : Nat} {s : Seat} {p t : Int}
theorem goneS (hm : MS c s (F p).2) {p2 t2 : Int} (hn : ∀ i, i < s.hs.length → hat s.hs i ≠ ⟨p2, t2⟩) : hasB (F p).2.ps p2 t2 = false := by
  rw [hm.ps]
  cases hh : hasB s.ps p2 t2
  · rfl
  · obtain ⟨j, hj, e⟩ := hm.hb.e p2 t2 hh
    exact absurd e (hn j hj)
theorem foundS (hm : MS c s (F p).2) (hy : Ply s.ps s.hs Ns c) {p2 t2 : Int} {j : Nat} (hj : j < s.hs.length) (he : hat s.hs j = ⟨p2, t2⟩) : ∃ i : Nat, p2 = (i : Int) ∧ i < s.ps.length ∧ (plc s.ps i).f1 = true ∧ hasB s.ps p2 t2 = true ∧ (Lit.int .i64 p2).wf = true ∧ (F p).2.D.atKey (.int .i64 p2) (.lit (.int .i64 0)) = .lit (.int .i64 (s.rs.getD j 0)) := by
  have h1 := hm.hb.i j hj
  have h2 := hm.rh.at_ j hj (.lit (.int .i64 0))
  have h3 := hy.hb j hj
  rw [he] at h1 h2 h3
  obtain ⟨i, e, hi, ht⟩ := hasB_lt h1
  exact ⟨i, e, hi, ht, h1, wf_i64 (by have := h3.1; show _ ≤ p2; exact Int.le_trans (by decide) this) (by have := h3.2; show p2 ≤ _; exact Int.le_trans this (by decide)), h2⟩
theorem dfindS (h : DS w W d pg M most n ps snaps cap D (Ns : Int) F) (hm : MS c s (F p).2) (hy : Ply s.ps s.hs Ns c) (hp : (Lit.int .i64 p).wf = true) (hh : hasB ps p t = true) (hx : hasI D p) {p2 t2 : Int} {j : Nat} (hj : j < s.hs.length) (he : hat s.hs j = ⟨p2, t2⟩) :
    Calls Tryd.prog 47 #[.pointer (some ⟨d, 0, none⟩), .agg #[.int .i64 p, .int .i64 t], .agg #[.int .i64 p2, .int .i64 t2]] W fun e w' => e = .returned (.tuple #[.int .i64 (s.rs.getD j 0), .nilIface]) ∧ DS w w' d pg M most n ps snaps cap D (Ns : Int) F ∧ Below W.heap.size W w' := by
  obtain ⟨i, e, hi, ht, h1, h2, h3⟩ := foundS hm hy hj he
  exact dfind h hp hh hx h2 (by rw [hm.ps]; exact h1) h3
theorem dletS (h : DS w W d pg M most n ps snaps cap D (Ns : Int) F) (hm : MS c s (F p).2) (hy : Ply s.ps s.hs Ns c) (hc : c ≤ 100) (hp : (Lit.int .i64 p).wf = true) (hh : hasB ps p t = true) (hx : hasI D p) {t2 : Int} {j i : Nat} (hj : j < s.hs.length) (he : hat s.hs j = ⟨(i : Int), t2⟩) :
    Calls Tryd.prog 50 #[.pointer (some ⟨d, 0, none⟩), .agg #[.int .i64 p, .int .i64 t], .agg #[.int .i64 (i : Int), .int .i64 t2]] W fun e w' => e = .returned (.tuple #[.int .i64 (s.rs.getD j 0), .nilIface]) ∧ DS w w' d pg M most n ps snaps cap D (Ns : Int) (upF F p ((F p).1, letS (F p).2 i)) ∧ Keeps DT W w' := by
  obtain ⟨i2, e, hi, ht, h1, h2, h3⟩ := foundS hm hy hj he
  obtain rfl : i = i2 := by omega
  have h4 := hy.lc
  have h5 := hm.n
  have h6 := cnt_le s.ps
  exact dlet h hp hh hx i (by rw [hm.ps]; exact hi) (by rw [hm.ps]; omega) (by rw [hm.ps]; exact h1) h3 (by omega) (by omega)
end
def deskD45.T45 : Bool × List (List Nat × List Nat) := (true, [([], []), ([], []), ([], []), ([2], [2]), ([3], [3]), ([4], [4]), ([], []), ([5, 6], [5, 6]), ([1, 7], [1, 7]), ([], []), ([9], [9]), ([10], [10]), ([11], [11]), ([], []), ([13], [13]), ([12, 14], [12, 14]), ([8, 15, 8], [8, 15]), ([0, 0, 1, 2, 3, 4, 5, 6, 7, 8, 9, 10, 11, 12, 13, 14, 15, 16], [0]), ([17, 0, 1, 2, 3, 4, 5, 6, 7, 8, 9, 10, 11, 12, 13, 14, 15, 16], [17]), ([18, 16, 16, 0, 1, 2, 3, 4, 5, 6, 7, 8, 9, 10, 11, 12, 13, 14, 15, 16], [16, 18])])
def deskD45.B45 : List Nat := [0, 0, 0, 4, 12, 28, 0, 124, 254, 0, 512, 1536, 3584, 0, 8192, 32256, 65534, 131071, 262143, 524287]
theorem deskD45.tab45 : rtab .any (opsOf Tryd.f11 45) = deskD45.T45 := by kernel_rfl
theorem deskD45.bits45 : waitsOk deskD45.T45.2 deskD45.B45 = true := by kernel_rfl
def deskD46.T46 : Bool × List (List Nat × List Nat) := (true, [([], []), ([], []), ([], []), ([2], [2]), ([3], [3]), ([4], [4]), ([], []), ([5, 6], [5, 6]), ([1, 7], [1, 7]), ([], []), ([9], [9]), ([10], [10]), ([11], [11]), ([], []), ([13], [13]), ([12, 14], [12, 14]), ([8, 15, 8], [8, 15]), ([0, 0, 1, 2, 3, 4, 5, 6, 7, 8, 9, 10, 11, 12, 13, 14, 15, 16], [0]), ([17, 0, 1, 2, 3, 4, 5, 6, 7, 8, 9, 10, 11, 12, 13, 14, 15, 16], [17]), ([18, 16, 16, 0, 1, 2, 3, 4, 5, 6, 7, 8, 9, 10, 11, 12, 13, 14, 15, 16], [16, 18])])
def deskD46.B46 : List Nat := [0, 0, 0, 4, 12, 28, 0, 124, 254, 0, 512, 1536, 3584, 0, 8192, 32256, 65534, 131071, 262143, 524287]
theorem deskD46.tab46 : rtab .any (opsOf Tryd.f11 46) = deskD46.T46 := by kernel_rfl
theorem deskD46.bits46 : waitsOk deskD46.T46.2 deskD46.B46 = true := by kernel_rfl
attribute [local go_sem high] eq40 ne40
theorem hj3 {W W1 : World} {k : Nat} {n : Int} (h : Joined W k n) (hb : Below W.heap.size W W1) : Joined W1 k n := h.below hb
section
variable {v0 v1 : Value} {A : Option Addr} {len cap : Nat} {B : Option Addr} {lenB capB : Nat} {v9 : Value} {d rp : Nat} {w W0 W : World} {va vo : Value} {i : Nat}
set_option maxHeartbeats 4000000 in
set_option maxRecDepth 100000 in
theorem p34f_n6 {a : Act} (hFD : FD a v0 v1 A len cap B lenB capB v9 d rp)
    {n : Int} {hb sb : Nat} {p t : Int} {M pg N Ns : Nat} {ps : List S108} {snaps : Int} {cp : Nat} {Dm : DataW Unit} {F : Int → Nat × Sn} {L : List Seat} {os : List S40} {v21 : Value} (hG : Good w) (h : WM w W d pg M rp N Ns (cnt ps : Int) ps ps snaps cp Dm F L va vo os) (hl : WL i N Ns ps os cp Dm F L) (hh : Hn W hb p t) (hpr : -9223372036854775808 ≤ p ∧ p ≤ 9223372036854775807) (hi : i < 50) {p2 t2 : Int} (hh2 : Hn W sb p2 t2) (hf : ∀ s ∈ L, ¬ (s.x = p ∧ s.t = t)) (hn : n % 8 = 6) (h12 : sl a 12 = va) (h13 : sl a 13 = vo) (h14 : sl a 14 = .int .i64 (i : Int)) (h15 : sl a 15 = .int .i64 n) (h16 : sl a 16 = .pointer (some ⟨hb, 0, none⟩)) (h17 : sl a 17 = .pointer (some ⟨sb, 0, none⟩)) (h18 : sl a 18 = .pointer none) (h19 : sl a 19 = .int .i64 (-1)) (h21 : sl a 21 = .int .i64 (-1)) (h23 : sl a 23 = .int .i64 0) (h24 : sl a 24 = .int .i64 3) :
    Does (cpart [1, 1, 1, 1, 1, 1, 1, 1, 1, 1, 0] cD) (fun a' w' => FD a' v0 v1 A len cap B lenB capB v9 d rp ∧ sl a' 14 = .int .i64 (i : Int) ∧ ∃ va vo ec, sl a' 12 = va ∧ sl a' 13 = vo ∧ sl a' 23 = .int .i64 ec ∧ sl a' 24 = .int .i64 ec ∧ St11 w w' d pg M rp N Ns snaps (i + 1) va vo) a W := by
  obtain ⟨hf, g0, g1, g2, g3, g9, g10, g11⟩ := hFD
  obtain ⟨u, rfl⟩ := hf.open
  rw [sl_fr u 0 (by decide)] at g0
  rw [sl_fr u 1 (by decide)] at g1
  rw [sl_fr u 2 (by decide)] at g2
  rw [sl_fr u 3 (by decide)] at g3
  rw [sl_fr u 9 (by decide)] at g9
  rw [sl_fr u 10 (by decide)] at g10
  rw [sl_fr u 11 (by decide)] at g11
  rw [sl_fr u 12 (by decide)] at h12
  rw [sl_fr u 13 (by decide)] at h13
  rw [sl_fr u 14 (by decide)] at h14
  rw [sl_fr u 15 (by decide)] at h15
  rw [sl_fr u 16 (by decide)] at h16
  rw [sl_fr u 17 (by decide)] at h17
  rw [sl_fr u 18 (by decide)] at h18
  rw [sl_fr u 19 (by decide)] at h19
  rw [sl_fr u 21 (by decide)] at h21
  rw [sl_fr u 23 (by decide)] at h23
  rw [sl_fr u 24 (by decide)] at h24
  intro J Q hJ hQ
  unfold fr
  rw [g0, g1, g2, g3, g9, g10, g11, h12, h13, h14, h15, h16, h17, h18, h19, h21, h23, h24]
  clear hf g0 g1 g2 g3 g9 g10 g11 h12 h13 h14 h15 h16 h17 h18 h19 h21 h23 h24
  conv => arg 2; whnf
  have HG := Lib.hid hG
  have HM := Lib.hid h
  have HL := Lib.hid hl
  have HH := Lib.hid hh
  have HPR := Lib.hid hpr
  have HI := Lib.hid hi
  clear hG h hl hh hpr hi
  have HS := Lib.hid hh2
  clear hh2
  have HF := Lib.hid hf
  clear hf
  have q : Go.bits .and .i64 n 7 = n % 8 := and_mask n 3 (by decide)
  rw [hn] at q
  clear hn
  have q0 := (blk_cell HH.out 0).trans (show _ = some (Value.int .i64 p) from rfl)
  have q1 := (blk_cell HH.out 1).trans (show _ = some (Value.int .i64 t) from rfl)
  have s0 := (blk_cell HS.out 0).trans (show _ = some (Value.int .i64 p2) from rfl)
  have s1 := (blk_cell HS.out 1).trans (show _ = some (Value.int .i64 t2) from rfl)
  go_wp2_with (fail)
  clear q0 q1 s0 s1
  go_at_call 47
  (with_reducible refine (dfind_no HM.out.ds HG.out HPR.out (HL.out.mt.none HF.out) p2 t2).mono ?_)
  rintro e w2 ⟨k2, rfl, hj, _, hb2⟩
  have HM2 := Lib.hid (HM.out.below hb2)
  have HH2 := Lib.hid (show Hn _ _ _ _ from blk_below HH.out hb2)
  have HS2 := Lib.hid (show Hn _ _ _ _ from blk_below HS.out hb2)
  have HJ2 := Lib.hid hj
  clear hb2 hj HM HH HS
  go_wp2_with (fail)
  go_at_call 14
  (with_reducible refine (code_join k2 3 _ (good_et' (HM2.out.ds.good HG.out)) HJ2.out).mono ?_)
  rintro e w3 ⟨rfl, hb3⟩
  have HM3 := Lib.hid (HM2.out.below hb3)
  have HH3 := Lib.hid (show Hn _ _ _ _ from blk_below HH2.out hb3)
  have HS3 := Lib.hid (show Hn _ _ _ _ from blk_below HS2.out hb3)
  have HJ3 := Lib.hid (hj3 HJ2.out hb3)
  clear hb3 HM2 HH2 HS2 HJ2
  go_wp2_with (fail)
  clear q
  go_at_call 14
  (with_reducible refine (code_join k2 3 _ (good_et' (HM3.out.ds.good HG.out)) HJ3.out).mono ?_)
  rintro e w5 ⟨rfl, hb5⟩
  have HM5 := Lib.hid (HM3.out.below hb5)
  clear hb5 HM3 HJ3
  go_wp2
  refine Met.intro (hJ _ _ ?_)
  exact ⟨⟨⟨rfl, rfl⟩, rfl, rfl, rfl, rfl, rfl, rfl, rfl⟩, rfl, _, _, _, rfl, rfl, rfl, rfl, ps, cp, Dm, F, L, os, HM5.out, HL.out.up⟩
set_option maxHeartbeats 4000000 in
set_option maxRecDepth 100000 in
theorem p34f_g6 {a : Act} (hFD : FD a v0 v1 A len cap B lenB capB v9 d rp)
    {n : Int} {hb sb : Nat} {p t : Int} {M pg N Ns : Nat} {ps : List S108} {snaps : Int} {cp : Nat} {Dm : DataW Unit} {F : Int → Nat × Sn} {L : List Seat} {os : List S40} {v21 : Value} (hG : Good w) (h : WM w W d pg M rp N Ns (cnt ps : Int) ps ps snaps cp Dm F L va vo os) (hl : WL i N Ns ps os cp Dm F L) (hh : Hn W hb p t) (hpr : -9223372036854775808 ≤ p ∧ p ≤ 9223372036854775807) (hi : i < 50) {p2 t2 : Int} (hh2 : Hn W sb p2 t2) {k : Nat} {s : Seat} {bl : Nat} (hk : k < L.length) (hs : L[k] = s) (hx : s.x = p ∧ s.t = t) (hbl : s.bl = bl) (hgo : ∀ i, i < s.hs.length → hat s.hs i ≠ ⟨p2, t2⟩) (hn : n % 8 = 6) (h12 : sl a 12 = va) (h13 : sl a 13 = vo) (h14 : sl a 14 = .int .i64 (i : Int)) (h15 : sl a 15 = .int .i64 n) (h16 : sl a 16 = .pointer (some ⟨hb, 0, none⟩)) (h17 : sl a 17 = .pointer (some ⟨sb, 0, none⟩)) (h18 : sl a 18 = .pointer (some ⟨bl, 0, none⟩)) (h19 : sl a 19 = .int .i64 (k : Int)) (h21 : sl a 21 = .int .i64 (-1)) (h23 : sl a 23 = .int .i64 0) (h24 : sl a 24 = .int .i64 3) :
    Does (cpart [1, 1, 1, 1, 1, 1, 1, 1, 1, 1, 0] cD) (fun a' w' => FD a' v0 v1 A len cap B lenB capB v9 d rp ∧ sl a' 14 = .int .i64 (i : Int) ∧ ∃ va vo ec, sl a' 12 = va ∧ sl a' 13 = vo ∧ sl a' 23 = .int .i64 ec ∧ sl a' 24 = .int .i64 ec ∧ St11 w w' d pg M rp N Ns snaps (i + 1) va vo) a W := by
  obtain ⟨hf, g0, g1, g2, g3, g9, g10, g11⟩ := hFD
  obtain ⟨u, rfl⟩ := hf.open
  rw [sl_fr u 0 (by decide)] at g0
  rw [sl_fr u 1 (by decide)] at g1
  rw [sl_fr u 2 (by decide)] at g2
  rw [sl_fr u 3 (by decide)] at g3
  rw [sl_fr u 9 (by decide)] at g9
  rw [sl_fr u 10 (by decide)] at g10
  rw [sl_fr u 11 (by decide)] at g11
  rw [sl_fr u 12 (by decide)] at h12
  rw [sl_fr u 13 (by decide)] at h13
  rw [sl_fr u 14 (by decide)] at h14
  rw [sl_fr u 15 (by decide)] at h15
  rw [sl_fr u 16 (by decide)] at h16
  rw [sl_fr u 17 (by decide)] at h17
  rw [sl_fr u 18 (by decide)] at h18
  rw [sl_fr u 19 (by decide)] at h19
  rw [sl_fr u 21 (by decide)] at h21
  rw [sl_fr u 23 (by decide)] at h23
  rw [sl_fr u 24 (by decide)] at h24
  intro J Q hJ hQ
  unfold fr
  rw [g0, g1, g2, g3, g9, g10, g11, h12, h13, h14, h15, h16, h17, h18, h19, h21, h23, h24]
  clear hf g0 g1 g2 g3 g9 g10 g11 h12 h13 h14 h15 h16 h17 h18 h19 h21 h23 h24
  conv => arg 2; whnf
  have HG := Lib.hid hG
  have HM := Lib.hid h
  have HL := Lib.hid hl
  have HH := Lib.hid hh
  have HPR := Lib.hid hpr
  have HI := Lib.hid hi
  clear hG h hl hh hpr hi
  have HS := Lib.hid hh2
  clear hh2
  have HSM := Lib.hid (show s ∈ L from hs ▸ List.getElem_mem hk)
  have HK := Lib.hid (show ∃ h : k < L.length, L[k] = s from ⟨hk, hs⟩)
  have HBL := Lib.hid hbl
  have HX := Lib.hid hx
  have hat := HL.out.atS (by have := HI.out; omega) HSM.out hx
  obtain ⟨ix, hix, hil, hB, hD, hMS, hwf⟩ := hat
  have HAT := Lib.hid (And.intro hB (And.intro hD hwf))
  have HIX := Lib.hid (And.intro hix hil)
  have HMS := Lib.hid hMS
  clear hbl hx hs hk hix hil hB hD hMS hwf
  have HGO := Lib.hid hgo
  clear hgo
  have q : Go.bits .and .i64 n 7 = n % 8 := and_mask n 3 (by decide)
  rw [hn] at q
  clear hn
  have q0 := (blk_cell HH.out 0).trans (show _ = some (Value.int .i64 p) from rfl)
  have q1 := (blk_cell HH.out 1).trans (show _ = some (Value.int .i64 t) from rfl)
  have s0 := (blk_cell HS.out 0).trans (show _ = some (Value.int .i64 p2) from rfl)
  have s1 := (blk_cell HS.out 1).trans (show _ = some (Value.int .i64 t2) from rfl)
  go_wp2_with (fail)
  clear q0 q1 s0 s1
  go_at_call 47
  (with_reducible refine (dfind_gone HM.out.ds HG.out HAT.out.2.2 HAT.out.1 HAT.out.2.1 (goneS HMS.out HGO.out)).mono ?_)
  rintro e w2 ⟨k2, rfl, hj, _, hb2⟩
  have HM2 := Lib.hid (HM.out.below hb2)
  have HH2 := Lib.hid (show Hn _ _ _ _ from blk_below HH.out hb2)
  have HS2 := Lib.hid (show Hn _ _ _ _ from blk_below HS.out hb2)
  have HJ2 := Lib.hid hj
  clear hb2 hj HM HH HS
  go_wp2_with (fail)
  go_at_call 14
  (with_reducible refine (code_join k2 3 _ (good_et' (HM2.out.ds.good HG.out)) HJ2.out).mono ?_)
  rintro e w3 ⟨rfl, hb3⟩
  have HM3 := Lib.hid (HM2.out.below hb3)
  have HH3 := Lib.hid (show Hn _ _ _ _ from blk_below HH2.out hb3)
  have HS3 := Lib.hid (show Hn _ _ _ _ from blk_below HS2.out hb3)
  have HJ3 := Lib.hid (hj3 HJ2.out hb3)
  clear hb3 HM2 HH2 HS2 HJ2
  go_wp2_with (fail)
  clear q
  go_at_call 14
  (with_reducible refine (code_join k2 3 _ (good_et' (HM3.out.ds.good HG.out)) HJ3.out).mono ?_)
  rintro e w5 ⟨rfl, hb5⟩
  have HM5 := Lib.hid (HM3.out.below hb5)
  clear hb5 HM3 HJ3
  go_wp2
  refine Met.intro (hJ _ _ ?_)
  exact ⟨⟨⟨rfl, rfl⟩, rfl, rfl, rfl, rfl, rfl, rfl, rfl⟩, rfl, _, _, _, rfl, rfl, rfl, rfl, ps, cp, Dm, F, L, os, HM5.out, HL.out.up⟩
set_option maxHeartbeats 4000000 in
set_option maxRecDepth 100000 in
theorem p34f_n7 {a : Act} (hFD : FD a v0 v1 A len cap B lenB capB v9 d rp)
    {n : Int} {hb sb : Nat} {p t : Int} {M pg N Ns : Nat} {ps : List S108} {snaps : Int} {cp : Nat} {Dm : DataW Unit} {F : Int → Nat × Sn} {L : List Seat} {os : List S40} {v21 : Value} (hG : Good w) (h : WM w W d pg M rp N Ns (cnt ps : Int) ps ps snaps cp Dm F L va vo os) (hl : WL i N Ns ps os cp Dm F L) (hh : Hn W hb p t) (hpr : -9223372036854775808 ≤ p ∧ p ≤ 9223372036854775807) (hi : i < 50) {p2 t2 : Int} (hh2 : Hn W sb p2 t2) (hf : ∀ s ∈ L, ¬ (s.x = p ∧ s.t = t)) (hn : n % 8 = 7) (h12 : sl a 12 = va) (h13 : sl a 13 = vo) (h14 : sl a 14 = .int .i64 (i : Int)) (h15 : sl a 15 = .int .i64 n) (h16 : sl a 16 = .pointer (some ⟨hb, 0, none⟩)) (h17 : sl a 17 = .pointer (some ⟨sb, 0, none⟩)) (h18 : sl a 18 = .pointer none) (h19 : sl a 19 = .int .i64 (-1)) (h21 : sl a 21 = .int .i64 (-1)) (h23 : sl a 23 = .int .i64 0) (h24 : sl a 24 = .int .i64 3) :
    Does (cpart [1, 1, 1, 1, 1, 1, 1, 1, 1, 1, 0] cD) (fun a' w' => FD a' v0 v1 A len cap B lenB capB v9 d rp ∧ sl a' 14 = .int .i64 (i : Int) ∧ ∃ va vo ec, sl a' 12 = va ∧ sl a' 13 = vo ∧ sl a' 23 = .int .i64 ec ∧ sl a' 24 = .int .i64 ec ∧ St11 w w' d pg M rp N Ns snaps (i + 1) va vo) a W := by
  obtain ⟨hf, g0, g1, g2, g3, g9, g10, g11⟩ := hFD
  obtain ⟨u, rfl⟩ := hf.open
  rw [sl_fr u 0 (by decide)] at g0
  rw [sl_fr u 1 (by decide)] at g1
  rw [sl_fr u 2 (by decide)] at g2
  rw [sl_fr u 3 (by decide)] at g3
  rw [sl_fr u 9 (by decide)] at g9
  rw [sl_fr u 10 (by decide)] at g10
  rw [sl_fr u 11 (by decide)] at g11
  rw [sl_fr u 12 (by decide)] at h12
  rw [sl_fr u 13 (by decide)] at h13
  rw [sl_fr u 14 (by decide)] at h14
  rw [sl_fr u 15 (by decide)] at h15
  rw [sl_fr u 16 (by decide)] at h16
  rw [sl_fr u 17 (by decide)] at h17
  rw [sl_fr u 18 (by decide)] at h18
  rw [sl_fr u 19 (by decide)] at h19
  rw [sl_fr u 21 (by decide)] at h21
  rw [sl_fr u 23 (by decide)] at h23
  rw [sl_fr u 24 (by decide)] at h24
  intro J Q hJ hQ
  unfold fr
  rw [g0, g1, g2, g3, g9, g10, g11, h12, h13, h14, h15, h16, h17, h18, h19, h21, h23, h24]
  clear hf g0 g1 g2 g3 g9 g10 g11 h12 h13 h14 h15 h16 h17 h18 h19 h21 h23 h24
  conv => arg 2; whnf
  have HG := Lib.hid hG
  have HM := Lib.hid h
  have HL := Lib.hid hl
  have HH := Lib.hid hh
  have HPR := Lib.hid hpr
  have HI := Lib.hid hi
  clear hG h hl hh hpr hi
  have HS := Lib.hid hh2
  clear hh2
  have HF := Lib.hid hf
  clear hf
  have q : Go.bits .and .i64 n 7 = n % 8 := and_mask n 3 (by decide)
  rw [hn] at q
  clear hn
  have q0 := (blk_cell HH.out 0).trans (show _ = some (Value.int .i64 p) from rfl)
  have q1 := (blk_cell HH.out 1).trans (show _ = some (Value.int .i64 t) from rfl)
  have s0 := (blk_cell HS.out 0).trans (show _ = some (Value.int .i64 p2) from rfl)
  have s1 := (blk_cell HS.out 1).trans (show _ = some (Value.int .i64 t2) from rfl)
  go_wp2_with (fail)
  clear q0 q1 s0 s1
  go_at_call 47
  (with_reducible refine (dfind_no HM.out.ds HG.out HPR.out (HL.out.mt.none HF.out) p2 t2).mono ?_)
  rintro e w2 ⟨k2, rfl, hj, _, hb2⟩
  have HM2 := Lib.hid (HM.out.below hb2)
  have HH2 := Lib.hid (show Hn _ _ _ _ from blk_below HH.out hb2)
  have HS2 := Lib.hid (show Hn _ _ _ _ from blk_below HS.out hb2)
  have HJ2 := Lib.hid hj
  clear hb2 hj HM HH HS
  go_wp2_with (fail)
  go_at_call 14
  (with_reducible refine (code_join k2 3 _ (good_et' (HM2.out.ds.good HG.out)) HJ2.out).mono ?_)
  rintro e w3 ⟨rfl, hb3⟩
  have HM3 := Lib.hid (HM2.out.below hb3)
  have HH3 := Lib.hid (show Hn _ _ _ _ from blk_below HH2.out hb3)
  have HS3 := Lib.hid (show Hn _ _ _ _ from blk_below HS2.out hb3)
  have HJ3 := Lib.hid (hj3 HJ2.out hb3)
  clear hb3 HM2 HH2 HS2 HJ2
  have q0 := (blk_cell HH3.out 0).trans (show _ = some (Value.int .i64 p) from rfl)
  have q1 := (blk_cell HH3.out 1).trans (show _ = some (Value.int .i64 t) from rfl)
  have s0 := (blk_cell HS3.out 0).trans (show _ = some (Value.int .i64 p2) from rfl)
  have s1 := (blk_cell HS3.out 1).trans (show _ = some (Value.int .i64 t2) from rfl)
  go_wp2_with (fail)
  clear q q0 q1 s0 s1
  go_at_call 50
  (with_reducible refine (dlet_no HM3.out.ds HG.out HPR.out (HL.out.mt.none HF.out) p2 t2).mono ?_)
  rintro e w4 ⟨k4, rfl, hj, _, hb4⟩
  have HM4 := Lib.hid (HM3.out.below hb4)
  have HJ4 := Lib.hid hj
  clear hb4 hj HM3 HH3 HS3 HJ3
  go_wp2_with (fail)
  go_at_call 14
  (with_reducible refine (code_join k4 3 _ (good_et' (HM4.out.ds.good HG.out)) HJ4.out).mono ?_)
  rintro e w5 ⟨rfl, hb5⟩
  have HM5 := Lib.hid (HM4.out.below hb5)
  clear hb5 HM4 HJ4
  go_wp2
  refine Met.intro (hJ _ _ ?_)
  exact ⟨⟨⟨rfl, rfl⟩, rfl, rfl, rfl, rfl, rfl, rfl, rfl⟩, rfl, _, _, _, rfl, rfl, rfl, rfl, ps, cp, Dm, F, L, os, HM5.out, HL.out.up⟩
set_option maxHeartbeats 4000000 in
set_option maxRecDepth 100000 in
theorem p34f_g7 {a : Act} (hFD : FD a v0 v1 A len cap B lenB capB v9 d rp)
    {n : Int} {hb sb : Nat} {p t : Int} {M pg N Ns : Nat} {ps : List S108} {snaps : Int} {cp : Nat} {Dm : DataW Unit} {F : Int → Nat × Sn} {L : List Seat} {os : List S40} {v21 : Value} (hG : Good w) (h : WM w W d pg M rp N Ns (cnt ps : Int) ps ps snaps cp Dm F L va vo os) (hl : WL i N Ns ps os cp Dm F L) (hh : Hn W hb p t) (hpr : -9223372036854775808 ≤ p ∧ p ≤ 9223372036854775807) (hi : i < 50) {p2 t2 : Int} (hh2 : Hn W sb p2 t2) {k : Nat} {s : Seat} {bl : Nat} (hk : k < L.length) (hs : L[k] = s) (hx : s.x = p ∧ s.t = t) (hbl : s.bl = bl) (hgo : ∀ i, i < s.hs.length → hat s.hs i ≠ ⟨p2, t2⟩) (hn : n % 8 = 7) (h12 : sl a 12 = va) (h13 : sl a 13 = vo) (h14 : sl a 14 = .int .i64 (i : Int)) (h15 : sl a 15 = .int .i64 n) (h16 : sl a 16 = .pointer (some ⟨hb, 0, none⟩)) (h17 : sl a 17 = .pointer (some ⟨sb, 0, none⟩)) (h18 : sl a 18 = .pointer (some ⟨bl, 0, none⟩)) (h19 : sl a 19 = .int .i64 (k : Int)) (h21 : sl a 21 = .int .i64 (-1)) (h23 : sl a 23 = .int .i64 0) (h24 : sl a 24 = .int .i64 3) :
    Does (cpart [1, 1, 1, 1, 1, 1, 1, 1, 1, 1, 0] cD) (fun a' w' => FD a' v0 v1 A len cap B lenB capB v9 d rp ∧ sl a' 14 = .int .i64 (i : Int) ∧ ∃ va vo ec, sl a' 12 = va ∧ sl a' 13 = vo ∧ sl a' 23 = .int .i64 ec ∧ sl a' 24 = .int .i64 ec ∧ St11 w w' d pg M rp N Ns snaps (i + 1) va vo) a W := by
  obtain ⟨hf, g0, g1, g2, g3, g9, g10, g11⟩ := hFD
  obtain ⟨u, rfl⟩ := hf.open
  rw [sl_fr u 0 (by decide)] at g0
  rw [sl_fr u 1 (by decide)] at g1
  rw [sl_fr u 2 (by decide)] at g2
  rw [sl_fr u 3 (by decide)] at g3
  rw [sl_fr u 9 (by decide)] at g9
  rw [sl_fr u 10 (by decide)] at g10
  rw [sl_fr u 11 (by decide)] at g11
  rw [sl_fr u 12 (by decide)] at h12
  rw [sl_fr u 13 (by decide)] at h13
  rw [sl_fr u 14 (by decide)] at h14
  rw [sl_fr u 15 (by decide)] at h15
  rw [sl_fr u 16 (by decide)] at h16
  rw [sl_fr u 17 (by decide)] at h17
  rw [sl_fr u 18 (by decide)] at h18
  rw [sl_fr u 19 (by decide)] at h19
  rw [sl_fr u 21 (by decide)] at h21
  rw [sl_fr u 23 (by decide)] at h23
  rw [sl_fr u 24 (by decide)] at h24
  intro J Q hJ hQ
  unfold fr
  rw [g0, g1, g2, g3, g9, g10, g11, h12, h13, h14, h15, h16, h17, h18, h19, h21, h23, h24]
  clear hf g0 g1 g2 g3 g9 g10 g11 h12 h13 h14 h15 h16 h17 h18 h19 h21 h23 h24
  conv => arg 2; whnf
  have HG := Lib.hid hG
  have HM := Lib.hid h
  have HL := Lib.hid hl
  have HH := Lib.hid hh
  have HPR := Lib.hid hpr
  have HI := Lib.hid hi
  clear hG h hl hh hpr hi
  have HS := Lib.hid hh2
  clear hh2
  have HSM := Lib.hid (show s ∈ L from hs ▸ List.getElem_mem hk)
  have HK := Lib.hid (show ∃ h : k < L.length, L[k] = s from ⟨hk, hs⟩)
  have HBL := Lib.hid hbl
  have HX := Lib.hid hx
  have hat := HL.out.atS (by have := HI.out; omega) HSM.out hx
  obtain ⟨ix, hix, hil, hB, hD, hMS, hwf⟩ := hat
  have HAT := Lib.hid (And.intro hB (And.intro hD hwf))
  have HIX := Lib.hid (And.intro hix hil)
  have HMS := Lib.hid hMS
  clear hbl hx hs hk hix hil hB hD hMS hwf
  have HGO := Lib.hid hgo
  clear hgo
  have q : Go.bits .and .i64 n 7 = n % 8 := and_mask n 3 (by decide)
  rw [hn] at q
  clear hn
  have q0 := (blk_cell HH.out 0).trans (show _ = some (Value.int .i64 p) from rfl)
  have q1 := (blk_cell HH.out 1).trans (show _ = some (Value.int .i64 t) from rfl)
  have s0 := (blk_cell HS.out 0).trans (show _ = some (Value.int .i64 p2) from rfl)
  have s1 := (blk_cell HS.out 1).trans (show _ = some (Value.int .i64 t2) from rfl)
  go_wp2_with (fail)
  clear q0 q1 s0 s1
  go_at_call 47
  (with_reducible refine (dfind_gone HM.out.ds HG.out HAT.out.2.2 HAT.out.1 HAT.out.2.1 (goneS HMS.out HGO.out)).mono ?_)
  rintro e w2 ⟨k2, rfl, hj, _, hb2⟩
  have HM2 := Lib.hid (HM.out.below hb2)
  have HH2 := Lib.hid (show Hn _ _ _ _ from blk_below HH.out hb2)
  have HS2 := Lib.hid (show Hn _ _ _ _ from blk_below HS.out hb2)
  have HJ2 := Lib.hid hj
  clear hb2 hj HM HH HS
  go_wp2_with (fail)
  go_at_call 14
  (with_reducible refine (code_join k2 3 _ (good_et' (HM2.out.ds.good HG.out)) HJ2.out).mono ?_)
  rintro e w3 ⟨rfl, hb3⟩
  have HM3 := Lib.hid (HM2.out.below hb3)
  have HH3 := Lib.hid (show Hn _ _ _ _ from blk_below HH2.out hb3)
  have HS3 := Lib.hid (show Hn _ _ _ _ from blk_below HS2.out hb3)
  have HJ3 := Lib.hid (hj3 HJ2.out hb3)
  clear hb3 HM2 HH2 HS2 HJ2
  have q0 := (blk_cell HH3.out 0).trans (show _ = some (Value.int .i64 p) from rfl)
  have q1 := (blk_cell HH3.out 1).trans (show _ = some (Value.int .i64 t) from rfl)
  have s0 := (blk_cell HS3.out 0).trans (show _ = some (Value.int .i64 p2) from rfl)
  have s1 := (blk_cell HS3.out 1).trans (show _ = some (Value.int .i64 t2) from rfl)
  go_wp2_with (fail)
  clear q q0 q1 s0 s1
  go_at_call 50
  (with_reducible refine (dlet_gone HM3.out.ds HG.out HAT.out.2.2 HAT.out.1 HAT.out.2.1 (goneS HMS.out HGO.out)).mono ?_)
  rintro e w4 ⟨k4, rfl, hj, _, hb4⟩
  have HM4 := Lib.hid (HM3.out.below hb4)
  have HJ4 := Lib.hid hj
  clear hb4 hj HM3 HH3 HS3 HJ3
  go_wp2_with (fail)
  go_at_call 14
  (with_reducible refine (code_join k4 3 _ (good_et' (HM4.out.ds.good HG.out)) HJ4.out).mono ?_)
  rintro e w5 ⟨rfl, hb5⟩
  have HM5 := Lib.hid (HM4.out.below hb5)
  clear hb5 HM4 HJ4
  go_wp2
  refine Met.intro (hJ _ _ ?_)
  exact ⟨⟨⟨rfl, rfl⟩, rfl, rfl, rfl, rfl, rfl, rfl, rfl⟩, rfl, _, _, _, rfl, rfl, rfl, rfl, ps, cp, Dm, F, L, os, HM5.out, HL.out.up⟩
set_option maxHeartbeats 4000000 in
set_option maxRecDepth 100000 in
theorem p34f_y6 {a : Act} (hFD : FD a v0 v1 A len cap B lenB capB v9 d rp)
    {n : Int} {hb sb : Nat} {p t : Int} {M pg N Ns : Nat} {ps : List S108} {snaps : Int} {cp : Nat} {Dm : DataW Unit} {F : Int → Nat × Sn} {L : List Seat} {os : List S40} {v21 : Value} (hG : Good w) (h : WM w W d pg M rp N Ns (cnt ps : Int) ps ps snaps cp Dm F L va vo os) (hl : WL i N Ns ps os cp Dm F L) (hh : Hn W hb p t) (hpr : -9223372036854775808 ≤ p ∧ p ≤ 9223372036854775807) (hi : i < 50) {p2 t2 : Int} (hh2 : Hn W sb p2 t2) {k : Nat} {s : Seat} {bl : Nat} (hk : k < L.length) (hs : L[k] = s) (hx : s.x = p ∧ s.t = t) (hbl : s.bl = bl) {j : Nat} (hj : j < s.hs.length) (he : hat s.hs j = ⟨p2, t2⟩) (hn : n % 8 = 6) (h12 : sl a 12 = va) (h13 : sl a 13 = vo) (h14 : sl a 14 = .int .i64 (i : Int)) (h15 : sl a 15 = .int .i64 n) (h16 : sl a 16 = .pointer (some ⟨hb, 0, none⟩)) (h17 : sl a 17 = .pointer (some ⟨sb, 0, none⟩)) (h18 : sl a 18 = .pointer (some ⟨bl, 0, none⟩)) (h19 : sl a 19 = .int .i64 (k : Int)) (h21 : sl a 21 = .int .i64 (j : Int)) (h23 : sl a 23 = .int .i64 0) (h24 : sl a 24 = .int .i64 3) :
    Does (cpart [1, 1, 1, 1, 1, 1, 1, 1, 1, 1, 0] cD) (fun a' w' => FD a' v0 v1 A len cap B lenB capB v9 d rp ∧ sl a' 14 = .int .i64 (i : Int) ∧ ∃ va vo ec, sl a' 12 = va ∧ sl a' 13 = vo ∧ sl a' 23 = .int .i64 ec ∧ sl a' 24 = .int .i64 ec ∧ St11 w w' d pg M rp N Ns snaps (i + 1) va vo) a W := by
  obtain ⟨hf, g0, g1, g2, g3, g9, g10, g11⟩ := hFD
  obtain ⟨u, rfl⟩ := hf.open
  rw [sl_fr u 0 (by decide)] at g0
  rw [sl_fr u 1 (by decide)] at g1
  rw [sl_fr u 2 (by decide)] at g2
  rw [sl_fr u 3 (by decide)] at g3
  rw [sl_fr u 9 (by decide)] at g9
  rw [sl_fr u 10 (by decide)] at g10
  rw [sl_fr u 11 (by decide)] at g11
  rw [sl_fr u 12 (by decide)] at h12
  rw [sl_fr u 13 (by decide)] at h13
  rw [sl_fr u 14 (by decide)] at h14
  rw [sl_fr u 15 (by decide)] at h15
  rw [sl_fr u 16 (by decide)] at h16
  rw [sl_fr u 17 (by decide)] at h17
  rw [sl_fr u 18 (by decide)] at h18
  rw [sl_fr u 19 (by decide)] at h19
  rw [sl_fr u 21 (by decide)] at h21
  rw [sl_fr u 23 (by decide)] at h23
  rw [sl_fr u 24 (by decide)] at h24
  intro J Q hJ hQ
  unfold fr
  rw [g0, g1, g2, g3, g9, g10, g11, h12, h13, h14, h15, h16, h17, h18, h19, h21, h23, h24]
  clear hf g0 g1 g2 g3 g9 g10 g11 h12 h13 h14 h15 h16 h17 h18 h19 h21 h23 h24
  conv => arg 2; whnf
  have HG := Lib.hid hG
  have HM := Lib.hid h
  have HL := Lib.hid hl
  have HH := Lib.hid hh
  have HPR := Lib.hid hpr
  have HI := Lib.hid hi
  clear hG h hl hh hpr hi
  have HS := Lib.hid hh2
  clear hh2
  have HSM := Lib.hid (show s ∈ L from hs ▸ List.getElem_mem hk)
  have HK := Lib.hid (show ∃ h : k < L.length, L[k] = s from ⟨hk, hs⟩)
  have HBL := Lib.hid hbl
  have HX := Lib.hid hx
  have hat := HL.out.atS (by have := HI.out; omega) HSM.out hx
  obtain ⟨ix, hix, hil, hB, hD, hMS, hwf⟩ := hat
  have HAT := Lib.hid (And.intro hB (And.intro hD hwf))
  have HIX := Lib.hid (And.intro hix hil)
  have HMS := Lib.hid hMS
  clear hbl hx hs hk hix hil hB hD hMS hwf
  have HJE := Lib.hid he
  have HJL := Lib.hid (show j < s.hs.length ∧ s.hs.length ≤ 1000 from ⟨hj, by have := HMS.out.hl; have := HI.out; omega⟩)
  obtain ⟨rj, hrj⟩ : ∃ rj, s.rs.getD j 0 = rj := ⟨_, rfl⟩
  have HRJ := Lib.hid hrj
  have cj9 : (j : Int) ≤ 1000 := by have := HJL.out; omega
  have cj0 : (0 : Int) ≤ (j : Int) := by omega
  clear hj he hrj
  have q : Go.bits .and .i64 n 7 = n % 8 := and_mask n 3 (by decide)
  rw [hn] at q
  clear hn
  have q0 := (blk_cell HH.out 0).trans (show _ = some (Value.int .i64 p) from rfl)
  have q1 := (blk_cell HH.out 1).trans (show _ = some (Value.int .i64 t) from rfl)
  have s0 := (blk_cell HS.out 0).trans (show _ = some (Value.int .i64 p2) from rfl)
  have s1 := (blk_cell HS.out 1).trans (show _ = some (Value.int .i64 t2) from rfl)
  go_wp2_with (fail)
  clear q0 q1 s0 s1
  go_at_call 47
  (with_reducible refine (dfindS HM.out.ds HMS.out (HL.out.sps _ HSM.out) HAT.out.2.2 HAT.out.1 HAT.out.2.1 HJL.out.1 HJE.out).mono ?_)
  rw [HRJ.out]
  rintro e w2 ⟨rfl, _, hb2⟩
  have HM2 := Lib.hid (HM.out.below hb2)
  have HH2 := Lib.hid (show Hn _ _ _ _ from blk_below HH.out hb2)
  have HS2 := Lib.hid (show Hn _ _ _ _ from blk_below HS.out hb2)
  clear hb2 HM HH HS
  have hSE := HM2.out.sl.all _ HSM.out
  have hbk := hSE.hd
  rw [HBL.out] at hbk
  obtain ⟨A6, c6, hv6⟩ := Kd.R_slice hSE.rr
  obtain ⟨lr, hlr⟩ : ∃ lr, s.rs.length = lr := ⟨_, rfl⟩
  rw [hlr] at hv6
  rw [hv6] at hbk
  have k6 := (blk_cell hbk 6).trans (show _ = some (Value.slice A6 lr c6) from rfl)
  have hC : Kd.C (Kd.int .i64) w2 A6 lr s.rs := by
    have h := (Kd.R_reads' (show Kd.R (Kd.int .i64) 3 w2 w.heap.size (fun _ => True) (.slice A6 s.rs.length c6) s.rs from by rw [hlr, ← hv6]; exact hSE.rr)).2.2
    rwa [hlr] at h
  have hjr : j < lr := by rw [← hlr, ← HMS.out.rh.len]; exact HJL.out.1
  obtain ⟨ar, rfl, kr⟩ := Kd.at_int hC (j : Int) (by omega) (by omega)
  rw [Int.toNat_natCast, show rd s.rs (j : Int) = rj by rw [← HRJ.out]; simp [rd]] at kr
  have cjr : (j : Int) < (lr : Int) := by omega
  clear hSE hbk hv6 hlr hC hjr
  go_wp2_with (fail)
  clear q k6 kr cjr
  go_at_call 14
  (with_reducible refine (code_nil _).mono ?_)
  rintro e w5 ⟨rfl, rfl⟩
  go_wp2
  refine Met.intro (hJ _ _ ?_)
  exact ⟨⟨⟨rfl, rfl⟩, rfl, rfl, rfl, rfl, rfl, rfl, rfl⟩, rfl, _, _, _, rfl, rfl, rfl, rfl, ps, cp, Dm, F, L, os, HM2.out, HL.out.up⟩
set_option maxHeartbeats 4000000 in
set_option maxRecDepth 100000 in
theorem p34f_y7 {a : Act} (hFD : FD a v0 v1 A len cap B lenB capB v9 d rp)
    {n : Int} {hb sb : Nat} {p t : Int} {M pg N Ns : Nat} {ps : List S108} {snaps : Int} {cp : Nat} {Dm : DataW Unit} {F : Int → Nat × Sn} {L : List Seat} {os : List S40} {v21 : Value} (hG : Good w) (h : WM w W d pg M rp N Ns (cnt ps : Int) ps ps snaps cp Dm F L va vo os) (hl : WL i N Ns ps os cp Dm F L) (hh : Hn W hb p t) (hpr : -9223372036854775808 ≤ p ∧ p ≤ 9223372036854775807) (hi : i < 50) {p2 t2 : Int} (hh2 : Hn W sb p2 t2) {k : Nat} {s : Seat} {bl : Nat} (hk : k < L.length) (hs : L[k] = s) (hx : s.x = p ∧ s.t = t) (hbl : s.bl = bl) {j : Nat} (hj : j < s.hs.length) (he : hat s.hs j = ⟨p2, t2⟩) (hn : n % 8 = 7) (h12 : sl a 12 = va) (h13 : sl a 13 = vo) (h14 : sl a 14 = .int .i64 (i : Int)) (h15 : sl a 15 = .int .i64 n) (h16 : sl a 16 = .pointer (some ⟨hb, 0, none⟩)) (h17 : sl a 17 = .pointer (some ⟨sb, 0, none⟩)) (h18 : sl a 18 = .pointer (some ⟨bl, 0, none⟩)) (h19 : sl a 19 = .int .i64 (k : Int)) (h21 : sl a 21 = .int .i64 (j : Int)) (h23 : sl a 23 = .int .i64 0) (h24 : sl a 24 = .int .i64 3) :
    Does (cpart [1, 1, 1, 1, 1, 1, 1, 1, 1, 1, 0] cD) (fun a' w' => FD a' v0 v1 A len cap B lenB capB v9 d rp ∧ sl a' 14 = .int .i64 (i : Int) ∧ ∃ va vo ec, sl a' 12 = va ∧ sl a' 13 = vo ∧ sl a' 23 = .int .i64 ec ∧ sl a' 24 = .int .i64 ec ∧ St11 w w' d pg M rp N Ns snaps (i + 1) va vo) a W := by
  obtain ⟨hf, g0, g1, g2, g3, g9, g10, g11⟩ := hFD
  obtain ⟨u, rfl⟩ := hf.open
  rw [sl_fr u 0 (by decide)] at g0
  rw [sl_fr u 1 (by decide)] at g1
  rw [sl_fr u 2 (by decide)] at g2
  rw [sl_fr u 3 (by decide)] at g3
  rw [sl_fr u 9 (by decide)] at g9
  rw [sl_fr u 10 (by decide)] at g10
  rw [sl_fr u 11 (by decide)] at g11
  rw [sl_fr u 12 (by decide)] at h12
  rw [sl_fr u 13 (by decide)] at h13
  rw [sl_fr u 14 (by decide)] at h14
  rw [sl_fr u 15 (by decide)] at h15
  rw [sl_fr u 16 (by decide)] at h16
  rw [sl_fr u 17 (by decide)] at h17
  rw [sl_fr u 18 (by decide)] at h18
  rw [sl_fr u 19 (by decide)] at h19
  rw [sl_fr u 21 (by decide)] at h21
  rw [sl_fr u 23 (by decide)] at h23
  rw [sl_fr u 24 (by decide)] at h24
  intro J Q hJ hQ
  unfold fr
  rw [g0, g1, g2, g3, g9, g10, g11, h12, h13, h14, h15, h16, h17, h18, h19, h21, h23, h24]
  clear hf g0 g1 g2 g3 g9 g10 g11 h12 h13 h14 h15 h16 h17 h18 h19 h21 h23 h24
  conv => arg 2; whnf
  have HG := Lib.hid hG
  have HM := Lib.hid h
  have HL := Lib.hid hl
  have HH := Lib.hid hh
  have HPR := Lib.hid hpr
  have HI := Lib.hid hi
  clear hG h hl hh hpr hi
  have HS := Lib.hid hh2
  clear hh2
  have HSM := Lib.hid (show s ∈ L from hs ▸ List.getElem_mem hk)
  have HK := Lib.hid (show ∃ h : k < L.length, L[k] = s from ⟨hk, hs⟩)
  have HBL := Lib.hid hbl
  have HX := Lib.hid hx
  have hat := HL.out.atS (by have := HI.out; omega) HSM.out hx
  obtain ⟨ix, hix, hil, hB, hD, hMS, hwf⟩ := hat
  have HAT := Lib.hid (And.intro hB (And.intro hD hwf))
  have HIX := Lib.hid (And.intro hix hil)
  have HMS := Lib.hid hMS
  clear hbl hx hs hk hix hil hB hD hMS hwf
  have HJE := Lib.hid he
  have HJL := Lib.hid (show j < s.hs.length ∧ s.hs.length ≤ 1000 from ⟨hj, by have := HMS.out.hl; have := HI.out; omega⟩)
  obtain ⟨rj, hrj⟩ : ∃ rj, s.rs.getD j 0 = rj := ⟨_, rfl⟩
  have HRJ := Lib.hid hrj
  have cj9 : (j : Int) ≤ 1000 := by have := HJL.out; omega
  have cj0 : (0 : Int) ≤ (j : Int) := by omega
  clear hj he hrj
  have q : Go.bits .and .i64 n 7 = n % 8 := and_mask n 3 (by decide)
  rw [hn] at q
  clear hn
  have q0 := (blk_cell HH.out 0).trans (show _ = some (Value.int .i64 p) from rfl)
  have q1 := (blk_cell HH.out 1).trans (show _ = some (Value.int .i64 t) from rfl)
  have s0 := (blk_cell HS.out 0).trans (show _ = some (Value.int .i64 p2) from rfl)
  have s1 := (blk_cell HS.out 1).trans (show _ = some (Value.int .i64 t2) from rfl)
  go_wp2_with (fail)
  clear q0 q1 s0 s1
  go_at_call 47
  (with_reducible refine (dfindS HM.out.ds HMS.out (HL.out.sps _ HSM.out) HAT.out.2.2 HAT.out.1 HAT.out.2.1 HJL.out.1 HJE.out).mono ?_)
  rw [HRJ.out]
  rintro e w2 ⟨rfl, _, hb2⟩
  have HM2 := Lib.hid (HM.out.below hb2)
  have HH2 := Lib.hid (show Hn _ _ _ _ from blk_below HH.out hb2)
  have HS2 := Lib.hid (show Hn _ _ _ _ from blk_below HS.out hb2)
  clear hb2 HM HH HS
  have hSE := HM2.out.sl.all _ HSM.out
  have hbk := hSE.hd
  rw [HBL.out] at hbk
  obtain ⟨A6, c6, hv6⟩ := Kd.R_slice hSE.rr
  obtain ⟨lr, hlr⟩ : ∃ lr, s.rs.length = lr := ⟨_, rfl⟩
  rw [hlr] at hv6
  rw [hv6] at hbk
  have k6 := (blk_cell hbk 6).trans (show _ = some (Value.slice A6 lr c6) from rfl)
  have hC : Kd.C (Kd.int .i64) w2 A6 lr s.rs := by
    have h := (Kd.R_reads' (show Kd.R (Kd.int .i64) 3 w2 w.heap.size (fun _ => True) (.slice A6 s.rs.length c6) s.rs from by rw [hlr, ← hv6]; exact hSE.rr)).2.2
    rwa [hlr] at h
  have hjr : j < lr := by rw [← hlr, ← HMS.out.rh.len]; exact HJL.out.1
  obtain ⟨ar, rfl, kr⟩ := Kd.at_int hC (j : Int) (by omega) (by omega)
  rw [Int.toNat_natCast, show rd s.rs (j : Int) = rj by rw [← HRJ.out]; simp [rd]] at kr
  have cjr : (j : Int) < (lr : Int) := by omega
  clear hSE hbk hv6 hlr hC hjr
  have hfd := foundS HMS.out (HL.out.sps _ HSM.out) HJL.out.1 HJE.out
  obtain ⟨ix, hix, hil, hit, hhb, _, _⟩ := hfd
  subst hix
  have HIX2 := Lib.hid (And.intro hil (And.intro hit hhb))
  clear hil hit hhb
  have q0 := (blk_cell HH2.out 0).trans (show _ = some (Value.int .i64 p) from rfl)
  have q1 := (blk_cell HH2.out 1).trans (show _ = some (Value.int .i64 t) from rfl)
  have s0 := (blk_cell HS2.out 0).trans (show _ = some (Value.int .i64 (ix : Int)) from rfl)
  have s1 := (blk_cell HS2.out 1).trans (show _ = some (Value.int .i64 t2) from rfl)
  go_wp2_with (fail)
  clear q q0 q1 s0 s1 k6 kr cjr
  go_at_call 50
  (with_reducible refine (dletS HM2.out.ds HMS.out (HL.out.sps _ HSM.out) (by have := HI.out; omega) HAT.out.2.2 HAT.out.1 HAT.out.2.1 HJL.out.1 HJE.out).mono ?_)
  rw [HRJ.out]
  rintro e w3 ⟨rfl, hd3, hk3⟩
  have HM3 := Lib.hid (HM2.out.keeps hk3 hd3)
  have HS3 := Lib.hid (keeps_hn HS2.out hk3)
  clear hd3 hk3 HM2 HH2 HS2
  have hSE := HM3.out.sl.all _ HSM.out
  have hbk := hSE.hd
  rw [HBL.out] at hbk
  obtain ⟨A6, c6, hv6⟩ := Kd.R_slice hSE.rr
  obtain ⟨lr, hlr⟩ : ∃ lr, s.rs.length = lr := ⟨_, rfl⟩
  rw [hlr] at hv6
  rw [hv6] at hbk
  have k6 := (blk_cell hbk 6).trans (show _ = some (Value.slice A6 lr c6) from rfl)
  have hC : Kd.C (Kd.int .i64) w3 A6 lr s.rs := by
    have h := (Kd.R_reads' (show Kd.R (Kd.int .i64) 3 w3 w.heap.size (fun _ => True) (.slice A6 s.rs.length c6) s.rs from by rw [hlr, ← hv6]; exact hSE.rr)).2.2
    rwa [hlr] at h
  have hjr : j < lr := by rw [← hlr, ← HMS.out.rh.len]; exact HJL.out.1
  obtain ⟨ar, rfl, kr⟩ := Kd.at_int hC (j : Int) (by omega) (by omega)
  rw [Int.toNat_natCast, show rd s.rs (j : Int) = rj by rw [← HRJ.out]; simp [rd]] at kr
  have cjr : (j : Int) < (lr : Int) := by omega
  clear hSE hbk hv6 hlr hC hjr
  go_upto_region 44 with (fail)
  clear k6 kr cjr
  have hSE := HM3.out.sl.all _ HSM.out
  have hbk := hSE.hd
  rw [HBL.out] at hbk
  have HBK := Lib.hid hbk
  have k4 := (blk_cell hbk 4).trans (show _ = some (Value.pointer (some ⟨s.rp, 0, none⟩)) from rfl)
  have s0 := (blk_cell HS3.out 0).trans (show _ = some (Value.int .i64 (ix : Int)) from rfl)
  have s1 := (blk_cell HS3.out 1).trans (show _ = some (Value.int .i64 t2) from rfl)
  have HC : Hid (∀ W', Below w3.heap.size w3 W' → Calls Tryd.prog 24 #[.pointer (some ⟨s.rp, 0, none⟩), .agg #[.int .i64 (ix : Int), .int .i64 t2]] W' fun e w' => e = .returned (.bool true) ∧ RP w' w.heap.size s.rp (freed s.ps ix) Ns ∧ Fe w.heap.size s.rp w3 w') := Lib.hid (fun W' hb' => (rfree_q s.rp w.heap.size Ns s.ps ix t2 W' (hSE.rp.below hb') (HL.out.sps _ HSM.out).lp HIX2.out.1 HIX2.out.2.2).mono (fun e w' ⟨e1, h1, h2⟩ => ⟨e1, h1, (Fe.of_below hb' HM3.out.size hSE.rp.rlt).trans h2⟩))
  clear hSE hbk
  go_cut [] from 240 to 245 (fun wc => Hid (WM w wc d pg M rp N Ns (cnt ps : Int) ps ps snaps cp Dm (upF F p ((F p).1, letS (F p).2 ix)) (L.set k { s with ps := freed s.ps ix }) va vo os))
  case first =>
    as_aux_lemma =>
      have HK1 := Lib.hid (Below.refl w3.heap.size w3)
      go_region_held3 (fun w' => w'.cell? ⟨bl, 4, none⟩ = some (.pointer (some ⟨s.rp, 0, none⟩)) ∧ w'.cell? ⟨sb, 0, none⟩ = some (.int .i64 (ix : Int)) ∧ w'.cell? ⟨sb, 1, none⟩ = some (.int .i64 t2)) (first | exact ⟨k4, s0, s1⟩ | exact ⟨(blk_cell ((HF2.out.fd.2.2 bl _ _ _ HBK.out (by decide)).trans HBK.out) 4).trans rfl, (blk_cell ((HF2.out.fd.2.2 sb _ _ _ HS3.out (by decide)).trans HS3.out) 0).trans rfl, (blk_cell ((HF2.out.fd.2.2 sb _ _ _ HS3.out (by decide)).trans HS3.out) 1).trans rfl⟩ | go_keep) ((go_at_call 24; (with_reducible refine (HC.out _ (by first | exact HK1.out | exact below_drew1 HK1.out)).mono ?_); rintro e wx ⟨rfl, hp, hf⟩; have HP2 := Lib.hid hp; have HF2 := Lib.hid hf; clear hp hf))
      all_goals
        go_wp2
        go_meet
        case rel => exact Lib.hid (HM3.out.spoolS HK.out HP2.out HF2.out)
  case rest =>
    have HM4 := hcut
    clear hcut HM3 HS3 HBK HC k4 s0 s1
    generalize wc = w4 at *
    obtain ⟨sA, hsA⟩ : ∃ sA : Seat, { s with ps := freed s.ps ix } = sA := ⟨_, rfl⟩
    have HSA := Lib.hid hsA
    rw [hsA] at HM4
    have HKA := Lib.hid (show ∃ h : k < (L.set k sA).length, (L.set k sA)[k] = sA from by
      obtain ⟨h1, _⟩ := HK.out
      exact ⟨by rw [List.length_set]; exact h1, List.getElem_set_self _⟩)
    have HEA := Lib.hid (show sA.bl = bl by rw [← hsA]; exact HBL.out)
    have HJLs := HJL
    have HJLA : Hid (j < sA.hs.length ∧ sA.hs.length ≤ 1000) := Lib.hid (by rw [← hsA]; exact HJL.out)
    have HJLB : Hid (j < sA.rs.length ∧ sA.rs.length ≤ 1000) := Lib.hid (by rw [← hsA]; have := HMS.out.rh.len; have := HJL.out; show j < s.rs.length ∧ s.rs.length ≤ 1000; omega)
    clear hsA HJL
    have HJL := HJLA
    obtain ⟨i40, hi40, hz40, hs40, _⟩ := info_parts info40
    obtain ⟨i3, hi3, hz3, hs3, _⟩ := info_parts info3
    go_upto_region 45 with (fail)
    obtain ⟨lh, hlh⟩ : ∃ lh, sA.hs.length = lh := ⟨_, rfl⟩
    have hSE : SE w4 w.heap.size Ns sA := HM4.out.sl.all _ (by obtain ⟨h1, h2⟩ := HKA.out; exact List.mem_iff_getElem.2 ⟨k, h1, h2⟩)
    have hrw := hSE.hr
    have HOR := Lib.hid hSE.rr
    have hbk := hSE.hd
    rw [HEA.out] at hbk
    obtain ⟨A5, c5, hv5⟩ := Kd.R_slice hrw
    rw [hv5] at hrw hbk
    have hrd := Kd.R_reads' hrw
    rw [hlh] at hv5 hbk
    rw [hlh] at hrd
    have HBK := Lib.hid hbk
    have HLO := Lib.hid (show w.heap.size ≤ bl by rw [← HEA.out]; exact hSE.lo)
    have HWA := Lib.hid (show w.heap.size ≤ w4.heap.size from HM4.out.size)
    have hjl := HJL.out.1
    rw [hlh] at hjl
    have HJL2 := Lib.hid (show lh ≤ 1000 by have := HJL.out.2; omega)
    have HCT : Hid (Kd.C k40 w4 A5 j (sA.hs.take j)) := Lib.hid (by
      have h := Kd.C_take (m := j) (by rw [← hlh] at hrd; exact hrd.2.2) (by omega)
      have e : (sA.hs.take j).length = j := by rw [List.length_take]; omega
      rwa [e] at h)
    obtain ⟨A9, hA9⟩ : ∃ A9, (if c5 = j + 1 then A5 else A5.map (·.add ((j + 1) * 2))) = A9 := ⟨_, rfl⟩
    have HCD : Hid (Kd.C k40 w4 A9 (lh - (j + 1)) (sA.hs.drop (j + 1))) := Lib.hid (by
      have h := Kd.C_drop (m := j + 1) (c := c5) (by rw [← hlh] at hrd; exact hrd.2.2) (by omega) (by have := hrd.2.1; omega)
      have e : (sA.hs.drop (j + 1)).length = lh - (j + 1) := by rw [List.length_drop, hlh]
      rw [e] at h
      rw [← hA9]; exact h)
    have cut1 := cut_to (P := Tryd.prog) 38 40 .i64 Tryd.underlying38 hi40 A5 lh c5 (j : Int) (by omega) (by omega) hrd.2.1
    have cut2 := cut_from (P := Tryd.prog) 38 40 .i64 Tryd.underlying38 hi40 2 hs40 A5 lh c5 ((j : Int) + 1) (by omega) (by omega)
    rw [show ((j : Int) + 1).toNat = j + 1 by omega, hA9] at cut2
    rw [Int.toNat_natCast] at cut1
    have kx := (blk_cell hbk 5).trans (show _ = some (Value.slice A5 lh c5) from rfl)
    have cj9 : (j : Int) ≤ 1000 := by have := HJL2.out; omega
    have cj0 : (0 : Int) ≤ (j : Int) := by omega
    have cjn : (j : Int) + 1 ≤ (lh : Int) := by omega
    have w1 : IntKind.i64.wrap ((j : Int) + 1) = (j : Int) + 1 := IntWalk.i64_in _ (by omega)
    clear hlh hSE hrw hbk hv5 hrd hjl hA9
    go_cut [] from 246 to 264 (fun wc => ∃ vx, Hid (WM w wc d pg M rp N Ns (cnt ps : Int) ps ps snaps cp Dm (upF F p ((F p).1, letS (F p).2 ix)) ((L.set k sA).set k { sA with hv := vx, hs := sA.hs.eraseIdx j }) va vo os))
    case first =>
      as_aux_lemma =>
        refine wp_region_noPanic ?_
        refine start_ (n := 20) (S := fun w' => w'.cell? ⟨bl, 5, none⟩ = some (.slice A5 lh c5)) (ds := [19]) #[false, false, false, false, false, false, false, false, false, false, false, false, false, false, false, false, false, false, false, false] (by kernel_rfl) rfl rfl (kx) (fun hHeld => ?_)
        refine with_tabW deskD45.tab45 deskD45.bits45 (fun HT_ HW_ => ?_)
        refine pure_ (i := 0) (N := some 246) (v := ?_) (a' := ?_) #[true, false, false, false, false, false, false, false, false, false, false, false, false, false, false, false, false, false, false, false] rfl rfl (any_of HT_.out (by kernel_rfl)) (fun _ _ _ h => h) (Or.inl ⟨by rfl, ?_⟩) ?_ ?_
        rotate_left
        · intro w'
          go_simp
          with_reducible rfl
        rotate_left
        · simp only [Act.put, List.setIfInBounds_toArray, List.set_cons_zero, List.set_cons_succ]
          rfl
        refine pure_ (i := 2) (N := some 248) (v := ?_) (a' := ?_) #[true, false, true, false, false, false, false, false, false, false, false, false, false, false, false, false, false, false, false, false] rfl rfl (any_of HT_.out (by kernel_rfl)) (fun _ _ _ h => h) (Or.inl ⟨by rfl, ?_⟩) ?_ ?_
        rotate_left
        · intro w'
          go_simp
          with_reducible rfl
        rotate_left
        · simp only [Act.put, List.setIfInBounds_toArray, List.set_cons_zero, List.set_cons_succ]
          rfl
        refine pure_ (i := 3) (N := some 249) (v := ?_) (a' := ?_) #[true, false, true, true, false, false, false, false, false, false, false, false, false, false, false, false, false, false, false, false] rfl rfl (any_of HT_.out (by kernel_rfl)) (fun _ _ _ h => h) (Or.inl ⟨by rfl, ?_⟩) ?_ ?_
        rotate_left
        · intro w'
          go_simp
          with_reducible rfl
        rotate_left
        · simp only [Act.put, List.setIfInBounds_toArray, List.set_cons_zero, List.set_cons_succ]
          rfl
        refine pure_ (i := 4) (N := some 250) (v := ?_) (a' := ?_) #[true, false, true, true, true, false, false, false, false, false, false, false, false, false, false, false, false, false, false, false] rfl rfl (any_of HT_.out (by kernel_rfl)) (fun _ _ _ h => h) (Or.inl ⟨by rfl, ?_⟩) ?_ ?_
        rotate_left
        · intro w'
          go_simp
          with_reducible rfl
        rotate_left
        · simp only [Act.put, List.setIfInBounds_toArray, List.set_cons_zero, List.set_cons_succ]
          rfl
        refine pure_ (i := 6) (N := some 252) (v := ?_) (a' := ?_) #[true, false, true, true, true, false, true, false, false, false, false, false, false, false, false, false, false, false, false, false] rfl rfl (any_of HT_.out (by kernel_rfl)) (fun _ _ _ h => h) (Or.inl ⟨by rfl, ?_⟩) ?_ ?_
        rotate_left
        · intro w'
          go_simp
          with_reducible rfl
        rotate_left
        · simp only [Act.put, List.setIfInBounds_toArray, List.set_cons_zero, List.set_cons_succ]
          rfl
        refine pure_ (i := 9) (N := some 255) (v := ?_) (a' := ?_) #[true, false, true, true, true, false, true, false, false, true, false, false, false, false, false, false, false, false, false, false] rfl rfl (any_of HT_.out (by kernel_rfl)) (fun _ _ _ h => h) (Or.inl ⟨by rfl, ?_⟩) ?_ ?_
        rotate_left
        · intro w'
          go_simp
          with_reducible rfl
        rotate_left
        · simp only [Act.put, List.setIfInBounds_toArray, List.set_cons_zero, List.set_cons_succ]
          rfl
        refine pure_ (i := 10) (N := some 256) (v := ?_) (a' := ?_) #[true, false, true, true, true, false, true, false, false, true, true, false, false, false, false, false, false, false, false, false] rfl rfl (any_of HT_.out (by kernel_rfl)) (fun _ _ _ h => h) (Or.inl ⟨by rfl, ?_⟩) ?_ ?_
        rotate_left
        · intro w'
          go_simp
          with_reducible rfl
        rotate_left
        · simp only [Act.put, List.setIfInBounds_toArray, List.set_cons_zero, List.set_cons_succ]
          rfl
        refine pure_ (i := 11) (N := some 257) (v := ?_) (a' := ?_) #[true, false, true, true, true, false, true, false, false, true, true, true, false, false, false, false, false, false, false, false] rfl rfl (any_of HT_.out (by kernel_rfl)) (fun _ _ _ h => h) (Or.inl ⟨by rfl, ?_⟩) ?_ ?_
        rotate_left
        · intro w'
          go_simp
          with_reducible rfl
        rotate_left
        · simp only [Act.put, List.setIfInBounds_toArray, List.set_cons_zero, List.set_cons_succ]
          rfl
        refine pure_ (i := 13) (N := some 259) (v := ?_) (a' := ?_) #[true, false, true, true, true, false, true, false, false, true, true, true, false, true, false, false, false, false, false, false] rfl rfl (any_of HT_.out (by kernel_rfl)) (fun _ _ _ h => h) (Or.inl ⟨by rfl, ?_⟩) ?_ ?_
        rotate_left
        · intro w'
          go_simp
          with_reducible rfl
        rotate_left
        · simp only [Act.put, List.setIfInBounds_toArray, List.set_cons_zero, List.set_cons_succ]
          rfl
        refine pure_ (i := 14) (N := some 260) (v := ?_) (a' := ?_) #[true, false, true, true, true, false, true, false, false, true, true, true, false, true, true, false, false, false, false, false] rfl rfl (any_of HT_.out (by kernel_rfl)) (fun _ _ _ h => h) (Or.inl ⟨by rfl, ?_⟩) ?_ ?_
        rotate_left
        · intro w'
          go_simp
          with_reducible rfl
        rotate_left
        · simp only [Act.put, List.setIfInBounds_toArray, List.set_cons_zero, List.set_cons_succ]
          rfl
        refine take_ (i := 5) (N := some 251) (v := ?_) (a' := ?_) #[true, false, true, true, true, true, true, false, false, true, true, true, false, true, true, false, false, false, false, false] rfl rfl (take_ofW HT_.out HW_.out (by kernel_rfl)) (fun _ _ _ h => h) (Or.inl ⟨by rfl, ?_⟩) hHeld ?_ ?_
        rotate_left
        · intro w' s0
          go_simp
          with_reducible rfl
        rotate_left
        · simp only [Act.put, List.setIfInBounds_toArray, List.set_cons_zero, List.set_cons_succ]
          rfl
        refine pure_ (i := 7) (N := some 253) (v := ?_) (a' := ?_) #[true, false, true, true, true, true, true, true, false, true, true, true, false, true, true, false, false, false, false, false] rfl rfl (any_of HT_.out (by kernel_rfl)) (fun _ _ _ h => h) (Or.inl ⟨by rfl, ?_⟩) ?_ ?_
        rotate_left
        · intro w'
          go_simp
          with_reducible rfl
        rotate_left
        · simp only [Act.put, List.setIfInBounds_toArray, List.set_cons_zero, List.set_cons_succ]
          rfl
        refine take_ (i := 12) (N := some 258) (v := ?_) (a' := ?_) #[true, false, true, true, true, true, true, true, false, true, true, true, true, true, true, false, false, false, false, false] rfl rfl (take_ofW HT_.out HW_.out (by kernel_rfl)) (fun _ _ _ h => h) (Or.inl ⟨by rfl, ?_⟩) hHeld ?_ ?_
        rotate_left
        · intro w' s0
          go_simp
          with_reducible rfl
        rotate_left
        · simp only [Act.put, List.setIfInBounds_toArray, List.set_cons_zero, List.set_cons_succ]
          rfl
        refine pure_ (i := 15) (N := some 261) (v := ?_) (a' := ?_) #[true, false, true, true, true, true, true, true, false, true, true, true, true, true, true, true, false, false, false, false] rfl rfl (any_of HT_.out (by kernel_rfl)) (fun _ _ _ h => h) (Or.inl ⟨by rfl, ?_⟩) ?_ ?_
        rotate_left
        · intro w'
          go_simp
          with_reducible rfl
        rotate_left
        · simp only [Act.put, List.setIfInBounds_toArray, List.set_cons_zero, List.set_cons_succ]
          rfl
        refine one_ (i := 1) (N := some 247) #[true, true, true, true, true, true, true, true, false, true, true, true, true, true, true, true, false, false, false, false] rfl rfl (one_of HT_.out (by kernel_rfl)) (by decide) (fun K hK => ?_)
        refine value_ (w1 := ?_) (v := ?_) (by rfl) rfl ?_ ?_
        rotate_left 2
        · go_simp
          constructor
          · rfl
          · rfl
        refine hK.out _ _ (((show Below w4.heap.size w4 _ from (by repeat (first | (with_reducible first | exact Below.refl _ _ | apply below_alloc | apply pw_below_drewN | apply below_drew1) | exact Below.refl _ _))).cell (cell_lt kx)).trans kx) (fun hHeld => ?_)
        clear hK K
        refine norm_ (a' := ?_) ?_ ?_
        rotate_left
        · show Act.put _ (some 247) _ = _
          simp only [Act.put, List.setIfInBounds_toArray, List.set_cons_zero, List.set_cons_succ]
          rfl
        refine one_ (i := 8) (N := some 254) #[true, true, true, true, true, true, true, true, true, true, true, true, true, true, true, true, false, false, false, false] rfl rfl (one_of HT_.out (by kernel_rfl)) (by decide) (fun K hK => ?_)
        refine Kd.R_append_rows_step k40 (Rr := k40.K _) (w0 := w4) w4.heap.size (by rfl) (.tmp 247) (.tmp 253) 38 40 (.agg #[(.int .i64 0), (.int .i64 0)]) 16 (by rfl) Tryd.underlying38 info40 rfl (by decide) (by decide) (.slice (some ⟨w4.heap.size, 0, none⟩) 0 0) [] (sA.hs.take j) A5 j c5 (fun _ => True) (fun _ => False) (by rfl) (by rfl) (R_empty40 (by first | exact heap_alloc_new _ _ | exact heap_at2 (by simp) | exact (Below.heap_alloc _ _ _ (by simp)).trans (heap_alloc_new _ _)) (Nat.le_refl _)) (Kd.C_below HCT.out (by repeat (first | (with_reducible first | exact Below.refl _ _ | apply below_alloc | apply pw_below_drewN | apply below_drew1) | exact Below.refl _ _))) (fun _ _ h => h) (fun _ h => h.elim) (fun _ _ => trivial) (by repeat (first | (with_reducible first | exact Below.refl _ _ | apply below_alloc | apply pw_below_drewN | apply below_drew1) | exact Below.refl _ _)) (below_size (by repeat (first | (with_reducible first | exact Below.refl _ _ | apply below_alloc | apply pw_below_drewN | apply below_drew1) | exact Below.refl _ _))) (by have := HJL.out; simp only [List.length_nil]; omega) ?_
        intro v1 w1 ho hb hg hat
        obtain ⟨Ax, lx, cx, rfl⟩ := R_sl2 ho
        have HO1 := Lib.hid ho
        have HB1 := Lib.hid hb
        clear ho hb hg hat
        refine hK.out _ _ (((HB1.out).cell (cell_lt kx)).trans kx) (fun hHeld => ?_)
        clear hK K
        refine norm_ (a' := ?_) ?_ ?_
        rotate_left
        · show Act.put _ (some 254) _ = _
          simp only [Act.put, List.setIfInBounds_toArray, List.set_cons_zero, List.set_cons_succ]
          rfl
        refine one_ (i := 16) (N := some 262) #[true, true, true, true, true, true, true, true, true, true, true, true, true, true, true, true, true, false, false, false] rfl rfl (one_of HT_.out (by kernel_rfl)) (by decide) (fun K hK => ?_)
        refine Kd.R_append_rows_step k40 (Rr := k40.K _) (w0 := w4) w4.heap.size (by rfl) (.tmp 254) (.tmp 261) 38 40 (.agg #[(.int .i64 0), (.int .i64 0)]) 16 (by rfl) Tryd.underlying38 info40 rfl (by decide) (by decide) (.slice Ax lx cx) (sA.hs.take j) (sA.hs.drop (j + 1)) A9 (lh - (j + 1)) (c5 - (j + 1)) (fun _ => True) (fun _ => False) (by rfl) (by rfl) HO1.out (Kd.C_below HCD.out HB1.out) (fun _ _ h => h) (fun _ h => h.elim) (fun _ _ => trivial) HB1.out (below_size HB1.out) (by have := HJL.out; have := HJL2.out; rw [List.length_take]; omega) ?_
        intro v2 w2 ho hb hg hat
        obtain ⟨Ay, ly, cy, rfl⟩ := R_sl2 ho
        have HO2 := Lib.hid ho
        have HB2 := Lib.hid hb
        have hbk2 := blk_below HBK.out hb
        have HBK2 := Lib.hid hbk2
        have cc5 := (blk_cell hbk2 5).trans (show _ = some (Value.slice A5 lh c5) from rfl)
        have ff5 := blk_frozen hbk2 5
        clear ho hb hg hat hbk2
        refine hK.out _ _ (((HB2.out).cell (cell_lt kx)).trans kx) (fun hHeld => ?_)
        clear hK K
        refine norm_ (a' := ?_) ?_ ?_
        rotate_left
        · show Act.put _ (some 262) _ = _
          simp only [Act.put, List.setIfInBounds_toArray, List.set_cons_zero, List.set_cons_succ]
          rfl
        refine pure_ (i := 17) (N := some 263) (v := ?_) (a' := ?_) #[true, true, true, true, true, true, true, true, true, true, true, true, true, true, true, true, true, true, false, false] rfl rfl (any_of HT_.out (by kernel_rfl)) (fun _ _ _ h => h) (Or.inl ⟨by rfl, ?_⟩) ?_ ?_
        rotate_left
        · intro w'
          go_simp
          with_reducible rfl
        rotate_left
        · simp only [Act.put, List.setIfInBounds_toArray, List.set_cons_zero, List.set_cons_succ]
          rfl
        refine pure_ (i := 18) (N := some 264) (v := ?_) (a' := ?_) #[true, true, true, true, true, true, true, true, true, true, true, true, true, true, true, true, true, true, true, false] rfl rfl (any_of HT_.out (by kernel_rfl)) (fun _ _ _ h => h) (Or.inl ⟨by rfl, ?_⟩) ?_ ?_
        rotate_left
        · intro w'
          go_simp
          with_reducible rfl
        rotate_left
        · simp only [Act.put, List.setIfInBounds_toArray, List.set_cons_zero, List.set_cons_succ]
          rfl
        refine last_ (i := 19) (N := none) #[true, true, true, true, true, true, true, true, true, true, true, true, true, true, true, true, true, true, true, true] rfl rfl (one_of HT_.out (by kernel_rfl)) (by decide) (fun K hK => ?_)
        refine skip_ (w1 := ?_) (by rfl) rfl ?_ ?_
        rotate_left
        · go_simp
          rfl
        refine hK.out _ _ ?_
        clear hK K
        refine done_ (done_of HT_.out (by kernel_rfl)) ?_
        refine NoPanic.normal ?_
        go_wp2
        go_meet
        case rel => exact ⟨_, Lib.hid (by rw [List.eraseIdx_eq_take_drop_succ]; exact (HM4.out.rowsS HKA.out HEA.out (blk_set HBK2.out 5 (.slice Ay ly cy)) (Kd.R_set (Kd.R_lower HO2.out HWA.out) HBK2.out (fun q hq => by rw [E40 q hq]; decide) 5 _) (Kd.R_set (Kd.R_below HOR.out HB2.out) HBK2.out (fun q hq => by rw [E3 q hq]; decide) 5 _) (fun k hk => .inr (Kd.R_base HO2.out k hk)) (fun k hk => .inl hk) ((Tch.below (Tch.refl w4 _) HB2.out).set (.inl (.inl rfl))) ((HM4.out.ds.bl.trans (HB2.out.mono HWA.out)).setCell (p := ⟨bl, 5, none⟩) HLO.out _)))⟩
    case rest =>
      obtain ⟨vx, HM5⟩ := hcut
      clear HCT HCD cut1 cut2 kx w1 cjn HBK HOR HM4 HWA HLO HJL HJL2 HKA
      generalize wc = w5 at *
      obtain ⟨sB, hsB⟩ : ∃ sB : Seat, { sA with hv := vx, hs := sA.hs.eraseIdx j } = sB := ⟨_, rfl⟩
      have HSB := Lib.hid hsB
      rw [hsB] at HM5
      rw [List.set_set] at HM5
      have HKA := Lib.hid (show ∃ h : k < (L.set k sB).length, (L.set k sB)[k] = sB from by
        obtain ⟨h1, _⟩ := HK.out
        exact ⟨by rw [List.length_set]; exact h1, List.getElem_set_self _⟩)
      have HEB := Lib.hid (show sB.bl = bl by rw [← hsB]; exact HEA.out)
      have HJL : Hid (j < sB.rs.length ∧ sB.rs.length ≤ 1000) := Lib.hid (by rw [← hsB]; exact HJLB.out)
      clear hsB
      go_upto_region 46 with (fail)
      obtain ⟨lh, hlh⟩ : ∃ lh, sB.rs.length = lh := ⟨_, rfl⟩
      have hSE : SE w5 w.heap.size Ns sB := HM5.out.sl.all _ (by obtain ⟨h1, h2⟩ := HKA.out; exact List.mem_iff_getElem.2 ⟨k, h1, h2⟩)
      have hrw := hSE.rr
      have HOR := Lib.hid hSE.hr
      have hbk := hSE.hd
      rw [HEB.out] at hbk
      obtain ⟨A5, c5, hv5⟩ := Kd.R_slice hrw
      rw [hv5] at hrw hbk
      have hrd := Kd.R_reads' hrw
      rw [hlh] at hv5 hbk
      rw [hlh] at hrd
      have HBK := Lib.hid hbk
      have HLO := Lib.hid (show w.heap.size ≤ bl by rw [← HEB.out]; exact hSE.lo)
      have HWA := Lib.hid (show w.heap.size ≤ w5.heap.size from HM5.out.size)
      have hjl := HJL.out.1
      rw [hlh] at hjl
      have HJL2 := Lib.hid (show lh ≤ 1000 by have := HJL.out.2; omega)
      have HCT : Hid (Kd.C (Kd.int .i64) w5 A5 j (sB.rs.take j)) := Lib.hid (by
        have h := Kd.C_take (m := j) (by rw [← hlh] at hrd; exact hrd.2.2) (by omega)
        have e : (sB.rs.take j).length = j := by rw [List.length_take]; omega
        rwa [e] at h)
      obtain ⟨A9, hA9⟩ : ∃ A9, (if c5 = j + 1 then A5 else A5.map (·.add ((j + 1) * 1))) = A9 := ⟨_, rfl⟩
      have HCD : Hid (Kd.C (Kd.int .i64) w5 A9 (lh - (j + 1)) (sB.rs.drop (j + 1))) := Lib.hid (by
        have h := Kd.C_drop (m := j + 1) (c := c5) (by rw [← hlh] at hrd; exact hrd.2.2) (by omega) (by have := hrd.2.1; omega)
        have e : (sB.rs.drop (j + 1)).length = lh - (j + 1) := by rw [List.length_drop, hlh]
        rw [e] at h
        rw [← hA9]; exact h)
      have cut1 := cut_to (P := Tryd.prog) 35 3 .i64 Tryd.underlying35 hi3 A5 lh c5 (j : Int) (by omega) (by omega) hrd.2.1
      have cut2 := cut_from (P := Tryd.prog) 35 3 .i64 Tryd.underlying35 hi3 1 hs3 A5 lh c5 ((j : Int) + 1) (by omega) (by omega)
      rw [show ((j : Int) + 1).toNat = j + 1 by omega, hA9] at cut2
      rw [Int.toNat_natCast] at cut1
      have kx := (blk_cell hbk 6).trans (show _ = some (Value.slice A5 lh c5) from rfl)
      have cj9 : (j : Int) ≤ 1000 := by have := HJL2.out; omega
      have cj0 : (0 : Int) ≤ (j : Int) := by omega
      have cjn : (j : Int) + 1 ≤ (lh : Int) := by omega
      have w1 : IntKind.i64.wrap ((j : Int) + 1) = (j : Int) + 1 := IntWalk.i64_in _ (by omega)
      clear hlh hSE hrw hbk hv5 hrd hjl hA9
      go_cut [] from 265 to 283 (fun wc => ∃ vx, Hid (WM w wc d pg M rp N Ns (cnt ps : Int) ps ps snaps cp Dm (upF F p ((F p).1, letS (F p).2 ix)) ((L.set k sB).set k { sB with rv := vx, rs := sB.rs.eraseIdx j }) va vo os))
      case first =>
        as_aux_lemma =>
          refine wp_region_noPanic ?_
          refine start_ (n := 20) (S := fun w' => w'.cell? ⟨bl, 6, none⟩ = some (.slice A5 lh c5)) (ds := [19]) #[false, false, false, false, false, false, false, false, false, false, false, false, false, false, false, false, false, false, false, false] (by kernel_rfl) rfl rfl (kx) (fun hHeld => ?_)
          refine with_tabW deskD46.tab46 deskD46.bits46 (fun HT_ HW_ => ?_)
          refine pure_ (i := 0) (N := some 265) (v := ?_) (a' := ?_) #[true, false, false, false, false, false, false, false, false, false, false, false, false, false, false, false, false, false, false, false] rfl rfl (any_of HT_.out (by kernel_rfl)) (fun _ _ _ h => h) (Or.inl ⟨by rfl, ?_⟩) ?_ ?_
          rotate_left
          · intro w'
            go_simp
            with_reducible rfl
          rotate_left
          · simp only [Act.put, List.setIfInBounds_toArray, List.set_cons_zero, List.set_cons_succ]
            rfl
          refine pure_ (i := 2) (N := some 267) (v := ?_) (a' := ?_) #[true, false, true, false, false, false, false, false, false, false, false, false, false, false, false, false, false, false, false, false] rfl rfl (any_of HT_.out (by kernel_rfl)) (fun _ _ _ h => h) (Or.inl ⟨by rfl, ?_⟩) ?_ ?_
          rotate_left
          · intro w'
            go_simp
            with_reducible rfl
          rotate_left
          · simp only [Act.put, List.setIfInBounds_toArray, List.set_cons_zero, List.set_cons_succ]
            rfl
          refine pure_ (i := 3) (N := some 268) (v := ?_) (a' := ?_) #[true, false, true, true, false, false, false, false, false, false, false, false, false, false, false, false, false, false, false, false] rfl rfl (any_of HT_.out (by kernel_rfl)) (fun _ _ _ h => h) (Or.inl ⟨by rfl, ?_⟩) ?_ ?_
          rotate_left
          · intro w'
            go_simp
            with_reducible rfl
          rotate_left
          · simp only [Act.put, List.setIfInBounds_toArray, List.set_cons_zero, List.set_cons_succ]
            rfl
          refine pure_ (i := 4) (N := some 269) (v := ?_) (a' := ?_) #[true, false, true, true, true, false, false, false, false, false, false, false, false, false, false, false, false, false, false, false] rfl rfl (any_of HT_.out (by kernel_rfl)) (fun _ _ _ h => h) (Or.inl ⟨by rfl, ?_⟩) ?_ ?_
          rotate_left
          · intro w'
            go_simp
            with_reducible rfl
          rotate_left
          · simp only [Act.put, List.setIfInBounds_toArray, List.set_cons_zero, List.set_cons_succ]
            rfl
          refine pure_ (i := 6) (N := some 271) (v := ?_) (a' := ?_) #[true, false, true, true, true, false, true, false, false, false, false, false, false, false, false, false, false, false, false, false] rfl rfl (any_of HT_.out (by kernel_rfl)) (fun _ _ _ h => h) (Or.inl ⟨by rfl, ?_⟩) ?_ ?_
          rotate_left
          · intro w'
            go_simp
            with_reducible rfl
          rotate_left
          · simp only [Act.put, List.setIfInBounds_toArray, List.set_cons_zero, List.set_cons_succ]
            rfl
          refine pure_ (i := 9) (N := some 274) (v := ?_) (a' := ?_) #[true, false, true, true, true, false, true, false, false, true, false, false, false, false, false, false, false, false, false, false] rfl rfl (any_of HT_.out (by kernel_rfl)) (fun _ _ _ h => h) (Or.inl ⟨by rfl, ?_⟩) ?_ ?_
          rotate_left
          · intro w'
            go_simp
            with_reducible rfl
          rotate_left
          · simp only [Act.put, List.setIfInBounds_toArray, List.set_cons_zero, List.set_cons_succ]
            rfl
          refine pure_ (i := 10) (N := some 275) (v := ?_) (a' := ?_) #[true, false, true, true, true, false, true, false, false, true, true, false, false, false, false, false, false, false, false, false] rfl rfl (any_of HT_.out (by kernel_rfl)) (fun _ _ _ h => h) (Or.inl ⟨by rfl, ?_⟩) ?_ ?_
          rotate_left
          · intro w'
            go_simp
            with_reducible rfl
          rotate_left
          · simp only [Act.put, List.setIfInBounds_toArray, List.set_cons_zero, List.set_cons_succ]
            rfl
          refine pure_ (i := 11) (N := some 276) (v := ?_) (a' := ?_) #[true, false, true, true, true, false, true, false, false, true, true, true, false, false, false, false, false, false, false, false] rfl rfl (any_of HT_.out (by kernel_rfl)) (fun _ _ _ h => h) (Or.inl ⟨by rfl, ?_⟩) ?_ ?_
          rotate_left
          · intro w'
            go_simp
            with_reducible rfl
          rotate_left
          · simp only [Act.put, List.setIfInBounds_toArray, List.set_cons_zero, List.set_cons_succ]
            rfl
          refine pure_ (i := 13) (N := some 278) (v := ?_) (a' := ?_) #[true, false, true, true, true, false, true, false, false, true, true, true, false, true, false, false, false, false, false, false] rfl rfl (any_of HT_.out (by kernel_rfl)) (fun _ _ _ h => h) (Or.inl ⟨by rfl, ?_⟩) ?_ ?_
          rotate_left
          · intro w'
            go_simp
            with_reducible rfl
          rotate_left
          · simp only [Act.put, List.setIfInBounds_toArray, List.set_cons_zero, List.set_cons_succ]
            rfl
          refine pure_ (i := 14) (N := some 279) (v := ?_) (a' := ?_) #[true, false, true, true, true, false, true, false, false, true, true, true, false, true, true, false, false, false, false, false] rfl rfl (any_of HT_.out (by kernel_rfl)) (fun _ _ _ h => h) (Or.inl ⟨by rfl, ?_⟩) ?_ ?_
          rotate_left
          · intro w'
            go_simp
            with_reducible rfl
          rotate_left
          · simp only [Act.put, List.setIfInBounds_toArray, List.set_cons_zero, List.set_cons_succ]
            rfl
          refine take_ (i := 5) (N := some 270) (v := ?_) (a' := ?_) #[true, false, true, true, true, true, true, false, false, true, true, true, false, true, true, false, false, false, false, false] rfl rfl (take_ofW HT_.out HW_.out (by kernel_rfl)) (fun _ _ _ h => h) (Or.inl ⟨by rfl, ?_⟩) hHeld ?_ ?_
          rotate_left
          · intro w' s0
            go_simp
            with_reducible rfl
          rotate_left
          · simp only [Act.put, List.setIfInBounds_toArray, List.set_cons_zero, List.set_cons_succ]
            rfl
          refine pure_ (i := 7) (N := some 272) (v := ?_) (a' := ?_) #[true, false, true, true, true, true, true, true, false, true, true, true, false, true, true, false, false, false, false, false] rfl rfl (any_of HT_.out (by kernel_rfl)) (fun _ _ _ h => h) (Or.inl ⟨by rfl, ?_⟩) ?_ ?_
          rotate_left
          · intro w'
            go_simp
            with_reducible rfl
          rotate_left
          · simp only [Act.put, List.setIfInBounds_toArray, List.set_cons_zero, List.set_cons_succ]
            rfl
          refine take_ (i := 12) (N := some 277) (v := ?_) (a' := ?_) #[true, false, true, true, true, true, true, true, false, true, true, true, true, true, true, false, false, false, false, false] rfl rfl (take_ofW HT_.out HW_.out (by kernel_rfl)) (fun _ _ _ h => h) (Or.inl ⟨by rfl, ?_⟩) hHeld ?_ ?_
          rotate_left
          · intro w' s0
            go_simp
            with_reducible rfl
          rotate_left
          · simp only [Act.put, List.setIfInBounds_toArray, List.set_cons_zero, List.set_cons_succ]
            rfl
          refine pure_ (i := 15) (N := some 280) (v := ?_) (a' := ?_) #[true, false, true, true, true, true, true, true, false, true, true, true, true, true, true, true, false, false, false, false] rfl rfl (any_of HT_.out (by kernel_rfl)) (fun _ _ _ h => h) (Or.inl ⟨by rfl, ?_⟩) ?_ ?_
          rotate_left
          · intro w'
            go_simp
            with_reducible rfl
          rotate_left
          · simp only [Act.put, List.setIfInBounds_toArray, List.set_cons_zero, List.set_cons_succ]
            rfl
          refine one_ (i := 1) (N := some 266) #[true, true, true, true, true, true, true, true, false, true, true, true, true, true, true, true, false, false, false, false] rfl rfl (one_of HT_.out (by kernel_rfl)) (by decide) (fun K hK => ?_)
          refine value_ (w1 := ?_) (v := ?_) (by rfl) rfl ?_ ?_
          rotate_left 2
          · go_simp
            constructor
            · rfl
            · rfl
          refine hK.out _ _ (((show Below w5.heap.size w5 _ from (by repeat (first | (with_reducible first | exact Below.refl _ _ | apply below_alloc | apply pw_below_drewN | apply below_drew1) | exact Below.refl _ _))).cell (cell_lt kx)).trans kx) (fun hHeld => ?_)
          clear hK K
          refine norm_ (a' := ?_) ?_ ?_
          rotate_left
          · show Act.put _ (some 266) _ = _
            simp only [Act.put, List.setIfInBounds_toArray, List.set_cons_zero, List.set_cons_succ]
            rfl
          refine one_ (i := 8) (N := some 273) #[true, true, true, true, true, true, true, true, true, true, true, true, true, true, true, true, false, false, false, false] rfl rfl (one_of HT_.out (by kernel_rfl)) (by decide) (fun K hK => ?_)
          refine Kd.R_append_rows_step (Kd.int .i64) (Rr := (Kd.int .i64).K _) (w0 := w5) w5.heap.size (by rfl) (.tmp 266) (.tmp 272) 35 3 (.int .i64 0) 8 (by rfl) Tryd.underlying35 info3 rfl (by decide) (by decide) (.slice (some ⟨w5.heap.size, 0, none⟩) 0 0) [] (sB.rs.take j) A5 j c5 (fun _ => True) (fun _ => False) (by rfl) (by rfl) (R_empty3 (by first | exact heap_alloc_new _ _ | exact heap_at2 (by simp) | exact (Below.heap_alloc _ _ _ (by simp)).trans (heap_alloc_new _ _)) (Nat.le_refl _)) (Kd.C_below HCT.out (by repeat (first | (with_reducible first | exact Below.refl _ _ | apply below_alloc | apply pw_below_drewN | apply below_drew1) | exact Below.refl _ _))) (fun _ _ h => h) (fun _ h => h.elim) (fun _ _ => trivial) (by repeat (first | (with_reducible first | exact Below.refl _ _ | apply below_alloc | apply pw_below_drewN | apply below_drew1) | exact Below.refl _ _)) (below_size (by repeat (first | (with_reducible first | exact Below.refl _ _ | apply below_alloc | apply pw_below_drewN | apply below_drew1) | exact Below.refl _ _))) (by have := HJL.out; simp only [List.length_nil]; omega) ?_
          intro v1 w1 ho hb hg hat
          obtain ⟨Ax, lx, cx, rfl⟩ := R_sl2 ho
          have HO1 := Lib.hid ho
          have HB1 := Lib.hid hb
          clear ho hb hg hat
          refine hK.out _ _ (((HB1.out).cell (cell_lt kx)).trans kx) (fun hHeld => ?_)
          clear hK K
          refine norm_ (a' := ?_) ?_ ?_
          rotate_left
          · show Act.put _ (some 273) _ = _
            simp only [Act.put, List.setIfInBounds_toArray, List.set_cons_zero, List.set_cons_succ]
            rfl
          refine one_ (i := 16) (N := some 281) #[true, true, true, true, true, true, true, true, true, true, true, true, true, true, true, true, true, false, false, false] rfl rfl (one_of HT_.out (by kernel_rfl)) (by decide) (fun K hK => ?_)
          refine Kd.R_append_rows_step (Kd.int .i64) (Rr := (Kd.int .i64).K _) (w0 := w5) w5.heap.size (by rfl) (.tmp 273) (.tmp 280) 35 3 (.int .i64 0) 8 (by rfl) Tryd.underlying35 info3 rfl (by decide) (by decide) (.slice Ax lx cx) (sB.rs.take j) (sB.rs.drop (j + 1)) A9 (lh - (j + 1)) (c5 - (j + 1)) (fun _ => True) (fun _ => False) (by rfl) (by rfl) HO1.out (Kd.C_below HCD.out HB1.out) (fun _ _ h => h) (fun _ h => h.elim) (fun _ _ => trivial) HB1.out (below_size HB1.out) (by have := HJL.out; have := HJL2.out; rw [List.length_take]; omega) ?_
          intro v2 w2 ho hb hg hat
          obtain ⟨Ay, ly, cy, rfl⟩ := R_sl2 ho
          have HO2 := Lib.hid ho
          have HB2 := Lib.hid hb
          have hbk2 := blk_below HBK.out hb
          have HBK2 := Lib.hid hbk2
          have cc5 := (blk_cell hbk2 6).trans (show _ = some (Value.slice A5 lh c5) from rfl)
          have ff5 := blk_frozen hbk2 6
          clear ho hb hg hat hbk2
          refine hK.out _ _ (((HB2.out).cell (cell_lt kx)).trans kx) (fun hHeld => ?_)
          clear hK K
          refine norm_ (a' := ?_) ?_ ?_
          rotate_left
          · show Act.put _ (some 281) _ = _
            simp only [Act.put, List.setIfInBounds_toArray, List.set_cons_zero, List.set_cons_succ]
            rfl
          refine pure_ (i := 17) (N := some 282) (v := ?_) (a' := ?_) #[true, true, true, true, true, true, true, true, true, true, true, true, true, true, true, true, true, true, false, false] rfl rfl (any_of HT_.out (by kernel_rfl)) (fun _ _ _ h => h) (Or.inl ⟨by rfl, ?_⟩) ?_ ?_
          rotate_left
          · intro w'
            go_simp
            with_reducible rfl
          rotate_left
          · simp only [Act.put, List.setIfInBounds_toArray, List.set_cons_zero, List.set_cons_succ]
            rfl
          refine pure_ (i := 18) (N := some 283) (v := ?_) (a' := ?_) #[true, true, true, true, true, true, true, true, true, true, true, true, true, true, true, true, true, true, true, false] rfl rfl (any_of HT_.out (by kernel_rfl)) (fun _ _ _ h => h) (Or.inl ⟨by rfl, ?_⟩) ?_ ?_
          rotate_left
          · intro w'
            go_simp
            with_reducible rfl
          rotate_left
          · simp only [Act.put, List.setIfInBounds_toArray, List.set_cons_zero, List.set_cons_succ]
            rfl
          refine last_ (i := 19) (N := none) #[true, true, true, true, true, true, true, true, true, true, true, true, true, true, true, true, true, true, true, true] rfl rfl (one_of HT_.out (by kernel_rfl)) (by decide) (fun K hK => ?_)
          refine skip_ (w1 := ?_) (by rfl) rfl ?_ ?_
          rotate_left
          · go_simp
            rfl
          refine hK.out _ _ ?_
          clear hK K
          refine done_ (done_of HT_.out (by kernel_rfl)) ?_
          refine NoPanic.normal ?_
          go_wp2
          go_meet
          case rel => exact ⟨_, Lib.hid (by rw [List.eraseIdx_eq_take_drop_succ]; exact (HM5.out.rowsS HKA.out HEB.out (blk_set HBK2.out 6 (.slice Ay ly cy)) (Kd.R_set (Kd.R_below HOR.out HB2.out) HBK2.out (fun q hq => by rw [E40 q hq]; decide) 6 _) (Kd.R_set (Kd.R_lower HO2.out HWA.out) HBK2.out (fun q hq => by rw [E3 q hq]; decide) 6 _) (fun k hk => .inl hk) (fun k hk => .inr (Kd.R_base HO2.out k hk)) ((Tch.below (Tch.refl w5 _) HB2.out).set (.inl (.inl rfl))) ((HM5.out.ds.bl.trans (HB2.out.mono HWA.out)).setCell (p := ⟨bl, 6, none⟩) HLO.out _)))⟩
      case rest =>
        obtain ⟨vy, HM6⟩ := hcut
        generalize wc = w6 at *
        clear HCT HCD cut1 cut2 kx w1 cjn HBK HOR HM5 HWA HLO HJL HJL2 HKA hi40 hz40 hs40 hi3 hz3 hs3
        go_wp2_with (fail)
        go_at_call 14
        (with_reducible refine (code_nil _).mono ?_)
        rintro e w7 ⟨rfl, rfl⟩
        have HLF := Lib.hid (HL.out.turnS HK.out HX.out.1 (s' := { s with ps := freed s.ps ix, hv := vx, hs := s.hs.eraseIdx j, rv := vy, rs := s.rs.eraseIdx j }) (u' := letS (F p).2 ix) ⟨rfl, rfl⟩ ((HMS.out.let_ vx vy HJLs.out.1 (by rw [HJE.out]) HIX2.out.1 HIX2.out.2.1).more (Nat.le_succ _)) (((HL.out.sps _ HSM.out).freed HIX2.out.1).erase HJLs.out.1) (fun r hr => HL.out.refs s HSM.out r (List.mem_of_mem_eraseIdx hr)))
        go_wp2
        refine Met.intro (hJ _ _ ?_)
        exact ⟨⟨⟨rfl, rfl⟩, rfl, rfl, rfl, rfl, rfl, rfl, rfl⟩, rfl, _, _, _, rfl, rfl, rfl, rfl, ps, cp, Dm, _, _, os, by have h := HM6.out; rw [List.set_set, ← HSB.out, ← HSA.out] at h; exact h, HLF.out⟩
end
end Go.Proofs.YtphaaagcdjpceaaDoor
