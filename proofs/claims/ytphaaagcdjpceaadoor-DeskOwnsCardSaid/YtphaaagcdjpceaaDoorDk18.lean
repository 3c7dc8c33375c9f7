/- quoinlaw26.awake. -/
import Derived.Test.YtphaaagcdjpceaaDoorDk17
import Derived.Lib.SlBytesConst
namespace Go.Proofs.YtphaaagcdjpceaaDoor
open Go.RowKit Go.Extern.Stop Go.Stop Go.Extern Go.Proofs.YtphaaagcdjpceaaDoorW.PrintWords Go.Proofs.YtphaaagcdjpceaaDoorW.PrintLast Go.Proofs.YtphaaagcdjpceaaDoorW.PrintMore
open Go.Maps (Keyed)
set_option linter.unusedVariables false
theorem upF_up (F : Int → Nat × Sn) (x : Int) (a b : Nat × Sn) : upF (upF F x a) x b = upF F x b := by
  funext y; unfold upF; split <;> rfl
/-- One byte, laid anew, with the run-time's mark behind it. -/
theorem bytes1 (W : World) (b : Int) : Kd.C (Kd.int .u8) (W.alloc (.cells #[.int .u8 b] 5 (1, 2))) (some ⟨W.heap.size, 0, none⟩) [b].length [b] := by
  refine Kd.C_of_reads (d := (0 : Int)) ⟨rfl, by simp, fun _ => ⟨⟨W.heap.size, 0, none⟩, rfl, fun i hi => ?_⟩⟩
  obtain rfl : i = 0 := by simp at hi; omega
  have hb : (W.alloc (.cells #[.int .u8 b] 5 (1, 2))).heap[W.heap.size]? = some (.cells #[.int .u8 b] 5 (1, 2)) := heap_alloc_new W _
  show (W.alloc (.cells #[.int .u8 b] 5 (1, 2))).cell? ⟨W.heap.size, 0, none⟩ = _
  unfold World.cell?
  rw [show ({ block := W.heap.size, off := 0 } : Addr).block = W.heap.size from rfl, hb]
  rfl
theorem str80 {A : Option Addr} {n c : Nat} {xs : List Int} {W : World} (h : Kd.C (Kd.int .u8) W A n xs) : (convert 80 9 (.slice A n c)).run Tryd.prog W = .ok (.string (strOfNums xs)) W := Kd.C_string Tryd.underlying80 Tryd.underlying5 Tryd.underlying9 h
theorem keeps_hn {W W1 : World} {x : Nat} {p t : Int} (h : Hn W x p t) (hk : Keeps DT W W1) : Hn W1 x p t := (hk.2 x _ _ _ h (by decide)).trans h
theorem keeps_R5 {W W1 : World} {base : Nat} {v : Value} {xs : List Int} (h : Kd.R (Kd.int .u8) 5 W base (fun _ => True) v xs) (hk : Keeps DT W W1) : Kd.R (Kd.int .u8) 5 W1 base (fun _ => True) v xs := R_keeps h hk (fun q hq => by
  have : q = 5 := by simpa [Kd.int, Kd.scalar] using hq
  subst this; decide)
theorem keeps_R3 {W W1 : World} {base : Nat} {v : Value} {xs : List Int} (h : Kd.R (Kd.int .i64) 3 W base (fun _ => True) v xs) (hk : Keeps DT W W1) : Kd.R (Kd.int .i64) 3 W1 base (fun _ => True) v xs := R_keeps h hk (fun q hq => by
  have : q = 3 := by simpa [Kd.int, Kd.scalar] using hq
  subst this; decide)
theorem keeps_J {W W1 : World} {k : Nat} {n : Int} (h : Joined W k n) (hk : Keeps DT W W1) : Joined W1 k n := h.keeps hk ⟨by decide, by decide⟩
/-- The desk's one session. -/
abbrev D1 (sb : Nat) : DataW Unit := .map [(.int .i64 0, .lit (.int .i64 (sb : Int)))]
abbrev SA (sg mb : Nat) (wt : Bool) (bv : Value) (bs : List Int) : Sn := ⟨wt, bv, bs, sg, [], 0, mb, 0, .map []⟩
abbrev SB (sg mb : Nat) : Sn := ⟨false, .slice none 0 0, [], sg, [⟨1, true⟩], 1, mb, 1, .map [(.int .i64 0, .lit (.int .i64 7))]⟩
theorem hasI_D1 (sb : Nat) : hasI (D1 sb) 0 := rfl
theorem hasB_one : hasB [⟨1, true⟩] 0 1 = true := rfl
theorem at_one : (DataW.map [(.int .i64 0, .lit (.int .i64 7))] : DataW Unit).atKey (.int .i64 0) (.lit (.int .i64 0)) = .lit (.int .i64 7) := rfl
section
variable {w W : World} {d pg M : Nat} {most n : Int} {ps : List S108} {snaps : Int} {cap : Nat} {D : DataW Unit} {sm : Int} {F : Int → Nat × Sn}
theorem dsend1 (h : DS w W d pg M most n ps snaps cap D sm F) {p t : Int} (hp : (Lit.int .i64 p).wf = true) (hh : hasB ps p t = true) (hx : hasI D p) (hw : (F p).2.wt = false) (A : Option Addr) (b : Int) (hb : Kd.C (Kd.int .u8) W A [b].length [b]) :
    Calls Tryd.prog 41 #[.pointer (some ⟨d, 0, none⟩), .agg #[.int .i64 p, .int .i64 t], .slice A 1 1] W fun e w' => ∃ v', e = .returned .nilIface ∧ DS w w' d pg M most n ps snaps cap D sm (upF F p ((F p).1, { (F p).2 with wt := true, bv := v', bs := [b] })) ∧ Keeps DT W w' :=
  dsend h hp hh hx hw A 1 [b] hb (by simp)
end
theorem dkeep1 {w W : World} {d pg M sb sg mb : Nat} (h : DS w W d pg M 1 1 [⟨1, true⟩] 1 1 (D1 sb) 1 (upF F0 0 (sb, SA sg mb false (.slice none 0 0) []))) :
    Calls Tryd.prog 42 #[.pointer (some ⟨d, 0, none⟩), .agg #[.int .i64 0, .int .i64 1], .int .i64 7] W fun e w' => e = .returned (.tuple #[.agg #[.int .i64 0, .int .i64 1], .nilIface]) ∧ DS w w' d pg M 1 1 [⟨1, true⟩] 1 1 (D1 sb) 1 (upF F0 0 (sb, SB sg mb)) ∧ Keeps DT W w' := by
  refine (dkeep h (p := 0) (t := 1) (r := 7) (i := 0) rfl rfl (hasI_D1 sb) (by rw [upF_same]; dsimp only [SA]; decide) rfl (by rw [upF_same]; dsimp only [SA]; decide) (fun j hj => absurd hj (by omega)) (by rw [upF_same]; dsimp only [SA]; decide) (by decide) (by rw [upF_same]; dsimp only [SA]; decide) (by rw [upF_same]; dsimp only [SA]; decide) (by rw [upF_same]; dsimp only [SA]; decide) (by rw [upF_same]; dsimp only [SA]; decide) (by rw [upF_same]; dsimp only [SA]; decide)).mono ?_
  rintro e w' ⟨rfl, h1, h2⟩
  rw [upF_same, upF_up] at h1
  rw [upF_same]
  exact ⟨rfl, h1, h2⟩
theorem dkept1 {w W : World} {d pg M sb sg mb : Nat} (h : DS w W d pg M 1 1 [⟨1, true⟩] 1 1 (D1 sb) 1 (upF F0 0 (sb, SB sg mb))) :
    Calls Tryd.prog 46 #[.pointer (some ⟨d, 0, none⟩)] W fun e w' => ∃ v, e = .returned v ∧ Kd.R (Kd.int .i64) 3 w' W.heap.size (fun _ => True) v [7] ∧ DS w w' d pg M 1 1 [⟨1, true⟩] 1 1 (D1 sb) 1 (upF F0 0 (sb, SB sg mb)) ∧ Below W.heap.size W w' := by
  have h0 : ∀ x, hasI (D1 sb) x → x = 0 := fun x hx => by
    simp [hasI, Go.Maps.has, Lit.sameKey] at hx; omega
  refine (dkept h (fun _ _ => 7) (fun x hx k hk => ?_) (by simp [Go.Maps.size]) (fun x hx => ?_)).mono ?_
  · obtain rfl := h0 x hx
    rw [upF_same] at hk ⊢
    have hk0 : k = 0 := by simp [hasI, Go.Maps.has, Lit.sameKey] at hk; omega
    subst hk0; rfl
  · obtain rfl := h0 x hx
    rw [upF_same]; simp [Go.Maps.size]
  · rintro e w' ⟨v, V, rfl, hr, hp, h1, h2⟩
    have e1 : ((Go.intKeys (D1 sb)).flatMap fun x => (Go.intKeys ((upF F0 0 (sb, SB sg mb)) x).2.D).map (fun _ => (7 : Int))) = [7] := by
      show (([0] : List Int).flatMap fun x => (Go.intKeys ((upF F0 0 (sb, SB sg mb)) x).2.D).map (fun _ => (7 : Int))) = [7]
      simp [upF_same, Go.intKeys]
    rw [e1] at hp
    obtain rfl := hp.eq_singleton
    exact ⟨v, rfl, by simpa using hr, h1, h2⟩
theorem dclose1 {w W : World} {d pg M sb sg mb : Nat} (h : DS w W d pg M 1 1 [⟨1, true⟩] 1 1 (D1 sb) 1 (upF F0 0 (sb, SB sg mb))) :
    Calls Tryd.prog 43 #[.pointer (some ⟨d, 0, none⟩), .agg #[.int .i64 0, .int .i64 1]] W fun e w' => ∃ v, e = .returned (.tuple #[v, .nilIface]) ∧ Kd.R (Kd.int .i64) 3 w' W.heap.size (fun _ => True) v [7] ∧ DS w w' d pg M 1 0 [⟨1, false⟩] 1 1 (.map []) 1 (upF F0 0 (sb, SB sg mb)) ∧ Keeps DT W w' := by
  refine (dclose h 0 (t := 1) (by decide) (by decide) rfl (hasI_D1 sb) (by decide) (by decide) (by rw [show ((0 : Nat) : Int) = 0 from rfl, upF_same]; simp [Go.Maps.size]) (fun _ => 7) ?_).mono ?_
  · rw [show ((0 : Nat) : Int) = 0 from rfl, upF_same]
    intro k hk
    have hk0 : k = 0 := by simpa [Go.intKeys, Go.intOf] using hk
    subst hk0; exact ⟨rfl, rfl⟩
  · rintro e w' ⟨v, rfl, hr, h1, h2⟩
    rw [show ((0 : Nat) : Int) = 0 from rfl, upF_same] at hr
    exact ⟨v, rfl, by simpa [Go.intKeys, Go.intOf] using hr, h1, h2⟩
set_option maxHeartbeats 8000000 in
set_option maxRecDepth 100000 in
theorem awaked_calls (w : World) (hG : Good w) : Calls Tryd.prog 48 #[] w fun e w' => e = .returned (.bool true) ∧ Below w.heap.size w w' := by
  have HG := Lib.hid hG
  clear hG
  go_enter Tryd.func48, Tryd.ntmps48
  go_wp2_with (fail)
  go_at_call 39
  (with_reducible refine (dnew (w := w) 1 1 (Below.refl _ _)).mono ?_)
  rintro e w1 ⟨d, pg, M, rfl, h1, b1⟩
  have H1 : Hid (DS w w1 d pg M 1 0 [] 1 0 (.map []) 1 F0) := Lib.hid h1
  clear h1 b1
  go_wp2_with (fail)
  go_at_call 40
  (with_reducible refine (dopen H1.out (by decide) 0 (fun h => by simp [hasI, Go.Maps.has] at h) (by decide) (by decide) (fun j hj => absurd hj (by omega)) (fun h => absurd h (by simp)) (by decide) (by decide) (by decide) (by decide) (by decide) (by decide)).mono ?_)
  rintro e w2 ⟨sb, sg, mb, rfl, h2, k2⟩
  have h2' : DS w w2 d pg M 1 1 [⟨1, true⟩] 1 1 (D1 sb) 1 (upF F0 0 (sb, SA sg mb false (.slice none 0 0) [])) := h2
  rw [show turnOf [] 0 = 1 from rfl]
  have B2 := below_alloc (Below.refl w2.heap.size w2) (.cells #[.int .i64 0, .int .i64 1] 40)
  have H2 := Lib.hid (h2'.below B2)
  have HH := Lib.hid (show Hn (w2.alloc (.cells #[.int .i64 0, .int .i64 1] 40)) w2.heap.size 0 1 from heap_alloc_new w2 _)
  clear h2 h2' k2 H1 B2
  go_wp2_with (fail)
  generalize w2.alloc (.cells #[.int .i64 0, .int .i64 1] 40) = W2 at *
  have F1 : ∀ j : Nat, j < 1 → (plc [⟨1, true⟩] j).f1 = true := fun j hj => by
    obtain rfl : j = 0 := by omega
    rfl
  go_at_call 40
  (with_reducible refine (dopen_full (i := 1) H2.out HG.out (by decide) F1 (fun h => absurd h (by simp)) (by decide)).mono ?_)
  rintro e w3 ⟨k1, rfl, hj, h3, b3⟩
  have B3 := below_alloc (Below.refl w3.heap.size w3) (.cells #[.int .i64 0, .int .i64 0] 40)
  have H3 := Lib.hid (h3.below B3)
  have HJ1 := Lib.hid (hj.below B3)
  have HH3 := Lib.hid (show Hn _ _ _ _ from blk_below (blk_below HH.out b3) B3)
  clear hj h3 b3 B3 H2 HH
  have q0 := (blk_cell HH3.out 0).trans (show _ = some (Value.int .i64 0) from rfl)
  have q1 := (blk_cell HH3.out 1).trans (show _ = some (Value.int .i64 1) from rfl)
  have kc := fun (w : World) (C : Array Value) (n c : Nat) => Lib.run_convert_bytes_const (P := Tryd.prog) w 80 5 C n c Tryd.underlying80 Tryd.underlying5
  go_upto_region 6 with (fail)
  generalize w3.alloc (.cells #[.int .i64 0, .int .i64 0] 40) = W3 at *
  go_wp2_with (fail)
  have HC := Lib.hid (bytes1 W3 97)
  have B4 := below_alloc (Below.refl W3.heap.size W3) (.cells #[.int .u8 97] 5 (1, 2))
  have H4 := Lib.hid (H3.out.below B4)
  have HJ4 := Lib.hid (HJ1.out.below B4)
  have HH4 := Lib.hid (show Hn _ _ _ _ from blk_below HH3.out B4)
  clear B4 H3 HJ1 HH3 q0 q1
  go_at_call 41
  (with_reducible refine (dsend1 H4.out (p := 0) (t := 1) rfl rfl (hasI_D1 sb) (by rw [upF_same]) _ 97 HC.out).mono ?_)
  rintro e w5 ⟨v1, rfl, h5, k5⟩
  rw [upF_same, upF_up] at h5
  have H5 : Hid (DS w w5 d pg M 1 1 [⟨1, true⟩] 1 1 (D1 sb) 1 (upF F0 0 (sb, SA sg mb true v1 [97]))) := Lib.hid h5
  have HJ5 := Lib.hid (keeps_J HJ4.out k5)
  have HH5 := Lib.hid (keeps_hn HH4.out k5)
  clear h5 k5 H4 HJ4 HH4 HC
  have q0 := (blk_cell HH5.out 0).trans (show _ = some (Value.int .i64 0) from rfl)
  have q1 := (blk_cell HH5.out 1).trans (show _ = some (Value.int .i64 1) from rfl)
  go_wp2_with (fail)
  go_at_call 41
  (with_reducible refine (dsend_busy H5.out HG.out (p := 0) (t := 1) rfl rfl (hasI_D1 sb) (by rw [upF_same]) none 0 0 (by decide)).mono ?_)
  rintro e w6 ⟨k2, rfl, hj, h6, b6⟩
  have H6 := Lib.hid h6
  have HJ6 := Lib.hid (HJ5.out.below b6)
  have HK6 := Lib.hid hj
  have HH6 := Lib.hid (show Hn _ _ _ _ from blk_below HH5.out b6)
  clear h6 b6 hj H5 HJ5 HH5 q0 q1
  have q0 := (blk_cell HH6.out 0).trans (show _ = some (Value.int .i64 0) from rfl)
  have q1 := (blk_cell HH6.out 1).trans (show _ = some (Value.int .i64 1) from rfl)
  go_wp2_with (fail)
  go_at_call 45
  (with_reducible refine (dwaits H6.out (p := 0) (t := 1) rfl rfl (hasI_D1 sb) (by rw [upF_same]) (by rw [upF_same]; dsimp only [SA]; decide)).mono ?_)
  rintro e w7 ⟨v2, rfl, hr, h7, b7⟩
  rw [upF_same] at hr
  obtain ⟨A2, c2, rfl⟩ := Kd.R_slice hr
  have H7 := Lib.hid h7
  have HJ7 := Lib.hid (HJ6.out.below b7)
  have HK7 := Lib.hid (HK6.out.below b7)
  have HH7 := Lib.hid (show Hn _ _ _ _ from blk_below HH6.out b7)
  have HR7 := Lib.hid hr
  clear h7 b7 hr H6 HJ6 HK6 HH6 q0 q1
  have q0 := (blk_cell HH7.out 0).trans (show _ = some (Value.int .i64 0) from rfl)
  have q1 := (blk_cell HH7.out 1).trans (show _ = some (Value.int .i64 1) from rfl)
  go_wp2_with (fail)
  go_at_call 49
  (with_reducible refine (dtake H7.out (p := 0) (t := 1) rfl rfl (hasI_D1 sb) (by rw [upF_same])).mono ?_)
  rintro e w8 ⟨rfl, hr, h8, k8⟩
  rw [upF_same] at hr ⊢
  rw [upF_same, upF_up] at h8
  have hr' : Kd.R (Kd.int .u8) 5 w8 w.heap.size (fun _ => True) v1 [97] := hr
  obtain ⟨A1, c1, rfl⟩ := Kd.R_slice hr'
  have H8 : Hid (DS w w8 d pg M 1 1 [⟨1, true⟩] 1 1 (D1 sb) 1 (upF F0 0 (sb, SA sg mb false (.slice none 0 0) []))) := Lib.hid h8
  have HJ8 := Lib.hid (keeps_J HJ7.out k8)
  have HK8 := Lib.hid (keeps_J HK7.out k8)
  have HH8 := Lib.hid (keeps_hn HH7.out k8)
  have HR8 := Lib.hid (keeps_R5 HR7.out k8)
  have HT8 := Lib.hid hr'
  clear h8 k8 hr hr' H7 HJ7 HK7 HH7 HR7 q0 q1
  have q0 := (blk_cell HH8.out 0).trans (show _ = some (Value.int .i64 0) from rfl)
  have q1 := (blk_cell HH8.out 1).trans (show _ = some (Value.int .i64 1) from rfl)
  go_wp2_with (fail)
  go_at_call 49
  (with_reducible refine (dtake_idle H8.out HG.out (p := 0) (t := 1) rfl rfl (hasI_D1 sb) (by rw [upF_same])).mono ?_)
  rintro e w9 ⟨k3, rfl, hj, h9, b9⟩
  have H9 := Lib.hid h9
  have HJ9 := Lib.hid (HJ8.out.below b9)
  have HK9 := Lib.hid (HK8.out.below b9)
  have HL9 := Lib.hid hj
  have HH9 := Lib.hid (show Hn _ _ _ _ from blk_below HH8.out b9)
  have HR9 := Lib.hid (Kd.R_below HR8.out b9)
  have HT9 := Lib.hid (Kd.R_below HT8.out b9)
  clear h9 b9 hj H8 HJ8 HK8 HH8 HR8 HT8 q0 q1
  have q0 := (blk_cell HH9.out 0).trans (show _ = some (Value.int .i64 0) from rfl)
  have q1 := (blk_cell HH9.out 1).trans (show _ = some (Value.int .i64 1) from rfl)
  go_wp2_with (fail)
  go_at_call 42
  (with_reducible refine (dkeep1 H9.out).mono ?_)
  rintro e w10 ⟨rfl, h10, k10⟩
  have B10 := below_alloc (Below.refl w10.heap.size w10) (.cells #[.int .i64 0, .int .i64 1] 40)
  have H10 := Lib.hid (h10.below B10)
  have HJ10 := Lib.hid ((keeps_J HJ9.out k10).below B10)
  have HK10 := Lib.hid ((keeps_J HK9.out k10).below B10)
  have HL10 := Lib.hid ((keeps_J HL9.out k10).below B10)
  have HH10 := Lib.hid (show Hn _ _ _ _ from blk_below (keeps_hn HH9.out k10) B10)
  have HR10 := Lib.hid (Kd.R_below (keeps_R5 HR9.out k10) B10)
  have HT10 := Lib.hid (Kd.R_below (keeps_R5 HT9.out k10) B10)
  have HN10 := Lib.hid (show Hn (w10.alloc (.cells #[.int .i64 0, .int .i64 1] 40)) w10.heap.size 0 1 from heap_alloc_new w10 _)
  clear h10 k10 B10 H9 HJ9 HK9 HL9 HH9 HR9 HT9 q0 q1
  go_upto_region 12 with (fail)
  generalize w10.alloc (.cells #[.int .i64 0, .int .i64 1] 40) = W10 at *
  have q0 := (blk_cell HH10.out 0).trans (show _ = some (Value.int .i64 0) from rfl)
  have q1 := (blk_cell HH10.out 1).trans (show _ = some (Value.int .i64 1) from rfl)
  have r0 := (blk_cell HN10.out 0).trans (show _ = some (Value.int .i64 0) from rfl)
  have r1 := (blk_cell HN10.out 1).trans (show _ = some (Value.int .i64 1) from rfl)
  go_wp2_with (fail)
  go_at_call 47
  (with_reducible refine (dfind H10.out (p := 0) (t := 1) (p2 := 0) (t2 := 1) (r := 7) rfl rfl (hasI_D1 sb) rfl (by rw [upF_same]; exact hasB_one) (by rw [upF_same]; exact at_one)).mono ?_)
  rintro e w11 ⟨rfl, h11, b11⟩
  have H11 := Lib.hid h11
  have HJ11 := Lib.hid (HJ10.out.below b11)
  have HK11 := Lib.hid (HK10.out.below b11)
  have HL11 := Lib.hid (HL10.out.below b11)
  have HH11 := Lib.hid (show Hn _ _ _ _ from blk_below HH10.out b11)
  have HR11 := Lib.hid (Kd.R_below HR10.out b11)
  have HT11 := Lib.hid (Kd.R_below HT10.out b11)
  clear h11 b11 H10 HJ10 HK10 HL10 HH10 HR10 HT10 HN10 q0 q1 r0 r1
  go_wp2_with (fail)
  go_at_call 46
  (with_reducible refine (dkept1 H11.out).mono ?_)
  rintro e w12 ⟨v3, rfl, hr, h12, b12⟩
  obtain ⟨A3, c3, rfl⟩ := Kd.R_slice hr
  have H12 := Lib.hid h12
  have HJ12 := Lib.hid (HJ11.out.below b12)
  have HK12 := Lib.hid (HK11.out.below b12)
  have HL12 := Lib.hid (HL11.out.below b12)
  have HH12 := Lib.hid (show Hn _ _ _ _ from blk_below HH11.out b12)
  have HR12 := Lib.hid (Kd.R_below HR11.out b12)
  have HT12 := Lib.hid (Kd.R_below HT11.out b12)
  have HU12 := Lib.hid hr
  clear h12 b12 hr H11 HJ11 HK11 HL11 HH11 HR11 HT11
  have q0 := (blk_cell HH12.out 0).trans (show _ = some (Value.int .i64 0) from rfl)
  have q1 := (blk_cell HH12.out 1).trans (show _ = some (Value.int .i64 1) from rfl)
  go_wp2_with (fail)
  go_at_call 43
  (with_reducible refine (dclose1 H12.out).mono ?_)
  rintro e w13 ⟨v4, rfl, hr, h13, k13⟩
  obtain ⟨A4, c4, rfl⟩ := Kd.R_slice hr
  have H13 := Lib.hid h13
  have HJ13 := Lib.hid (keeps_J HJ12.out k13)
  have HK13 := Lib.hid (keeps_J HK12.out k13)
  have HL13 := Lib.hid (keeps_J HL12.out k13)
  have HH13 := Lib.hid (keeps_hn HH12.out k13)
  have HR13 := Lib.hid (keeps_R5 HR12.out k13)
  have HT13 := Lib.hid (keeps_R5 HT12.out k13)
  have HU13 := Lib.hid (keeps_R3 HU12.out k13)
  have HV13 := Lib.hid hr
  clear h13 k13 hr H12 HJ12 HK12 HL12 HH12 HR12 HT12 HU12 q0 q1
  go_wp2_with (fail)
  go_at_call 14
  (with_reducible refine (code_join k1 2 _ (good_et' (H13.out.good HG.out)) HJ13.out).mono ?_)
  rintro e w14 ⟨rfl, b14⟩
  have H14 := Lib.hid (H13.out.below b14)
  have HK14 := Lib.hid (HK13.out.below b14)
  have HL14 := Lib.hid (HL13.out.below b14)
  have HH14 := Lib.hid (show Hn _ _ _ _ from blk_below HH13.out b14)
  have HR14 := Lib.hid (Kd.R_below HR13.out b14)
  have HT14 := Lib.hid (Kd.R_below HT13.out b14)
  have HU14 := Lib.hid (Kd.R_below HU13.out b14)
  have HV14 := Lib.hid (Kd.R_below HV13.out b14)
  clear b14 H13 HJ13 HK13 HL13 HH13 HR13 HT13 HU13 HV13
  go_wp2_with (fail)
  go_at_call 14
  (with_reducible refine (code_join k2 17 _ (good_et' (H14.out.good HG.out)) HK14.out).mono ?_)
  rintro e w15 ⟨rfl, b15⟩
  have H15 := Lib.hid (H14.out.below b15)
  have HL15 := Lib.hid (HL14.out.below b15)
  have HH15 := Lib.hid (show Hn _ _ _ _ from blk_below HH14.out b15)
  have HR15 := Lib.hid (Kd.R_below HR14.out b15)
  have HT15 := Lib.hid (Kd.R_below HT14.out b15)
  have HU15 := Lib.hid (Kd.R_below HU14.out b15)
  have HV15 := Lib.hid (Kd.R_below HV14.out b15)
  clear b15 H14 HK14 HL14 HH14 HR14 HT14 HU14 HV14
  have s1 : (convert 80 9 (.slice A2 1 c2)).run Tryd.prog w15 = .ok (.string { data := #[97] }) w15 := str80 (W := w15) (c := c2) (Kd.R_reads' HR15.out).2.2
  have s2 : (convert 80 9 (.slice A1 1 c1)).run Tryd.prog w15 = .ok (.string { data := #[97] }) w15 := str80 (W := w15) (c := c1) (Kd.R_reads' HT15.out).2.2
  go_wp2_with (fail)
  go_at_call 14
  (with_reducible refine (code_join k3 18 _ (good_et' (H15.out.good HG.out)) HL15.out).mono ?_)
  rintro e w16 ⟨rfl, b16⟩
  have H16 := Lib.hid (H15.out.below b16)
  have HH16 := Lib.hid (show Hn _ _ _ _ from blk_below HH15.out b16)
  obtain ⟨a3, e3, u3⟩ := Kd.at_int (Kd.R_reads' (Kd.R_below HU15.out b16)).2.2 0 (by decide) (by decide)
  obtain ⟨a4, e4, u4⟩ := Kd.at_int (Kd.R_reads' (Kd.R_below HV15.out b16)).2.2 0 (by decide) (by decide)
  subst e3 e4
  have u3' : w16.cell? a3 = some (.int .i64 7) := u3
  have u4' : w16.cell? a4 = some (.int .i64 7) := u4
  clear b16 H15 HL15 HH15 HR15 HT15 HU15 HV15 s1 s2 u3 u4
  have q0 := (blk_cell HH16.out 0).trans (show _ = some (Value.int .i64 0) from rfl)
  have q1 := (blk_cell HH16.out 1).trans (show _ = some (Value.int .i64 1) from rfl)
  go_wp2_with (fail)
  go_at_call 41
  (with_reducible refine (dsend_no H16.out HG.out (p := 0) (t := 1) (by decide) rfl none 0 0).mono ?_)
  rintro e w17 ⟨k4, rfl, hj, h17, b17⟩
  have H17 := Lib.hid h17
  have HJ17 := Lib.hid hj
  clear h17 hj b17 H16 HH16 q0 q1 u3' u4'
  go_wp2_with (fail)
  go_at_call 14
  (with_reducible refine (code_join k4 3 _ (good_et' (H17.out.good HG.out)) HJ17.out).mono ?_)
  rintro e w18 ⟨rfl, b18⟩
  have HB := Lib.hid (below_step H17.out.bl b18)
  clear b18
  go_wp2
  go_ret
  exact ⟨rfl, HB.out⟩
end Go.Proofs.YtphaaagcdjpceaaDoor
