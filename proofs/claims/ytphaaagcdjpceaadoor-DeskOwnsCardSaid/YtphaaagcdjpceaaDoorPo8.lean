/- quoinlaw3.awake. -/
import Derived.Test.YtphaaagcdjpceaaDoorPo7
namespace Go.Proofs.YtphaaagcdjpceaaDoor
open Go.RowKit Go.Extern.Stop Go.Stop Go.Extern Go.Proofs.YtphaaagcdjpceaaDoorW.PrintWords Go.Proofs.YtphaaagcdjpceaaDoorW.PrintLast Go.Proofs.YtphaaagcdjpceaaDoorW.PrintMore
set_option linter.unusedVariables false
/-- What the laws carry: the pool, the places, memory below as it was. -/
structure St (w W : World) (g : Nat) (most : Int) (ps : List S108) (n : Int) : Prop where
  pl : PL W w.heap.size g most ps n
  bl : Below w.heap.size w W
theorem St.below {w W W1 : World} {g : Nat} {most n : Int} {ps : List S108} (h : St w W g most ps n) (hb : Below W.heap.size W W1) : St w W1 g most ps n := ⟨h.pl.below hb, below_step h.bl hb⟩
theorem St.good {w W : World} {g : Nat} {most n : Int} {ps : List S108} (hG : Good w) (h : St w W g most ps n) : Good W := hG.below h.bl
theorem good_et' {w : World} (h : Good w) : w.cell? ⟨0, 0, none⟩ = some (.iface 166 (.agg #[.pointer (some ⟨4, 31, none⟩)])) := And.left h
theorem new_calls2 (m : Int) (w : World) : Calls Tryd.prog 15 #[.int .i64 m] w fun e w' => e = .returned (.pointer (some ⟨w.heap.size, 0, none⟩)) ∧ St w w' w.heap.size (min (max m 0) 10000) [] 0 :=
  (newpool_calls m w).mono fun e w' ⟨h1, h2, h3⟩ => ⟨h1, h2, h3⟩
theorem take2 (w W : World) (g : Nat) (most n : Int) (ps : List S108) (i : Nat) (h : St w W g most ps n) (hi : i ≤ ps.length) (hf : ∀ j, j < i → (plc ps j).f1 = true) (hf2 : i < ps.length → (plc ps i).f1 = false) (hm : (i : Int) ≠ most) (hl : ps.length ≤ 1000) (ht0 : 0 ≤ turnOf ps i) (ht1 : turnOf ps i ≤ 1000000) (hn0 : -1000000 ≤ n) (hn1 : n ≤ 1000000) :
    Calls Tryd.prog 16 #[.pointer (some ⟨g, 0, none⟩)] W fun e w' => e = .returned (.tuple #[.agg #[.int .i64 (i : Int), .int .i64 (turnOf ps i)], .nilIface]) ∧ St w w' g most (tookL ps i) (n + 1) ∧ Fr w.heap.size W w' :=
  (take_ok g w.heap.size most n ps i W h.pl hi hf hf2 hm hl ht0 ht1 hn0 hn1).mono fun e w' ⟨h1, h2, h3⟩ => ⟨h1, ⟨h2, h.bl.trans h3.1⟩, h3⟩
theorem full2 (w W : World) (hG : Good w) (g : Nat) (n : Int) (ps : List S108) (i : Nat) (h : St w W g (i : Int) ps n) (hi : i ≤ ps.length) (hf : ∀ j, j < i → (plc ps j).f1 = true) (hf2 : i < ps.length → (plc ps i).f1 = false) (hl : ps.length ≤ 1000) :
    Calls Tryd.prog 16 #[.pointer (some ⟨g, 0, none⟩)] W fun e w' => ∃ k, e = .returned (.tuple #[.agg #[.int .i64 0, .int .i64 0], .iface 179 (.pointer (some ⟨k, 0, none⟩))]) ∧ Joined w' k 2 ∧ St w w' g (i : Int) ps n ∧ Below W.heap.size W w' :=
  (take_full g w.heap.size n ps i W (h.good hG) h.pl hi hf hf2 hl).mono fun e w' ⟨k, h1, h2, h3⟩ => ⟨k, h1, h2, h.below h3, h3⟩
theorem has2 (w W : World) (g : Nat) (most n : Int) (ps : List S108) (p t : Int) (h : St w W g most ps n) : Calls Tryd.prog 22 #[.pointer (some ⟨g, 0, none⟩), .agg #[.int .i64 p, .int .i64 t]] W fun e w' => e = .returned (.bool (hasB ps p t)) ∧ St w w' g most ps n ∧ Below W.heap.size W w' :=
  (has_calls g w.heap.size most n ps p t W h.pl).mono fun e w' ⟨h1, h2⟩ => ⟨h1, h.below h2, h2⟩
theorem no2 (w W : World) (hG : Good w) (g : Nat) (most n : Int) (ps : List S108) (p t : Int) (h : St w W g most ps n) (hp : -9223372036854775808 ≤ p ∧ p ≤ 9223372036854775807) (hh : hasB ps p t = false) : Calls Tryd.prog 17 #[.pointer (some ⟨g, 0, none⟩), .agg #[.int .i64 p, .int .i64 t]] W fun e w' => ∃ k, e = .returned (.iface 179 (.pointer (some ⟨k, 0, none⟩))) ∧ Joined w' k 3 ∧ St w w' g most ps n ∧ Below W.heap.size W w' :=
  (free_no g w.heap.size most n ps p t W (h.good hG) hp h.pl hh).mono fun e w' ⟨k, h1, h2, h3⟩ => ⟨k, h1, h2, h.below h3, h3⟩
theorem yes2 (w W : World) (g : Nat) (most n : Int) (ps : List S108) (p : Int) (i : Nat) (t : Int) (hpi : p = (i : Int)) (h : St w W g most ps n) (hi : i < ps.length) (hh : hasB ps p t = true) (hn0 : -1000000 ≤ n) (hn1 : n ≤ 1000000) : Calls Tryd.prog 17 #[.pointer (some ⟨g, 0, none⟩), .agg #[.int .i64 p, .int .i64 t]] W fun e w' => e = .returned .nilIface ∧ St w w' g most (ps.set i ⟨(plc ps i).f0, false⟩) (n - 1) ∧ Fr w.heap.size W w' := by
  subst hpi
  exact (free_yes g w.heap.size most n ps i t W h.pl hi hh hn0 hn1).mono fun e w' ⟨h1, h2, h3⟩ => ⟨h1, ⟨h2, h.bl.trans h3.1⟩, h3⟩
theorem len2 (w W : World) (g : Nat) (most n : Int) (ps : List S108) (h : St w W g most ps n) : Calls Tryd.prog 18 #[.pointer (some ⟨g, 0, none⟩)] W fun e w' => e = .returned (.int .i64 n) ∧ w' = W := len_calls g w.heap.size most n ps W h.pl
set_option maxHeartbeats 4000000 in
set_option maxRecDepth 100000 in
theorem awake_calls (w : World) (hG : Good w) : Calls Tryd.prog 19 #[] w fun e w' => e = .returned (.bool true) ∧ Below w.heap.size w w' := by
  have HG := Lib.hid hG
  clear hG
  go_enter Tryd.func19, Tryd.ntmps19
  go_wp2_with (fail)
  go_at_call 15
  (with_reducible refine (new_calls2 1 _).mono ?_)
  rintro e w1 ⟨rfl, h1⟩
  have H1 : Hid (St w w1 w.heap.size 1 [] 0) := h1
  generalize w.heap.size = g at *
  clear h1
  go_wp2_with (fail)
  go_at_call 16
  (with_reducible refine (take2 w _ g 1 0 [] 0 H1.out (by decide) (fun j hj => absurd hj (by omega)) (fun h => absurd h (by simp)) (by decide) (by decide) (by decide) (by decide) (by decide) (by decide)).mono ?_)
  rintro e w2 ⟨rfl, h2, f2⟩
  rw [show turnOf [] 0 = 1 from rfl, show tookL [] 0 = [⟨1, true⟩] from rfl] at *
  have B2 := below_alloc (Below.refl w2.heap.size w2) (.cells #[.int .i64 0, .int .i64 1] 40)
  have H2 := Lib.hid (h2.below B2)
  have HH := Lib.hid (show Hn (w2.alloc (.cells #[.int .i64 0, .int .i64 1] 40)) w2.heap.size 0 1 from heap_alloc_new w2 _)
  clear h2 f2 H1 B2
  go_wp2_with (fail)
  generalize w2.alloc (.cells #[.int .i64 0, .int .i64 1] 40) = W2 at *
  have F0 : ∀ j : Nat, j < 1 → (plc [⟨1, true⟩] j).f1 = true := fun j hj => by
    obtain rfl : j = 0 := by omega
    rfl
  go_at_call 16
  (with_reducible refine (full2 w _ HG.out g _ [⟨1, true⟩] 1 H2.out (by decide) F0 (fun h => absurd h (by simp)) (by decide)).mono ?_)
  rintro e w3 ⟨k, rfl, hj, h3, b3⟩
  have B3 := below_alloc (Below.refl w3.heap.size w3) (.cells #[.int .i64 0, .int .i64 0] 40)
  have H3 := Lib.hid (h3.below B3)
  have HJ3 := Lib.hid (hj.below B3)
  have HH3 := Lib.hid (show Hn _ _ _ _ from blk_below (blk_below HH.out b3) B3)
  clear hj h3 b3 B3 H2 HH
  have q0 := (blk_cell HH3.out 0).trans (show _ = some (Value.int .i64 0) from rfl)
  have q1 := (blk_cell HH3.out 1).trans (show _ = some (Value.int .i64 1) from rfl)
  go_wp2_with (fail)
  generalize w3.alloc (.cells #[.int .i64 0, .int .i64 0] 40) = W3 at *
  go_at_call 17
  (with_reducible refine (yes2 w _ g _ _ [⟨1, true⟩] 0 0 1 rfl H3.out (by decide) rfl (by decide) (by decide)).mono ?_)
  rintro e w4 ⟨rfl, h4, f4⟩
  rw [show ([⟨1, true⟩] : List S108).set 0 ⟨(plc [⟨1, true⟩] 0).f0, false⟩ = [⟨1, false⟩] from rfl] at h4
  have H4 := Lib.hid h4
  have HJ4 := Lib.hid (HJ3.out.keeps f4.2 ⟨by decide, by decide⟩)
  have HH4 := Lib.hid (HH3.out.fr f4)
  clear h4 f4 q0 q1 H3 HJ3 HH3
  go_wp2_with (fail)
  go_at_call 16
  (with_reducible refine (take2 w _ g _ _ [⟨1, false⟩] 0 H4.out (by decide) (fun j hj => absurd hj (by omega)) (fun h => rfl) (by decide) (by decide) (by decide) (by decide) (by decide) (by decide)).mono ?_)
  rintro e w5 ⟨rfl, h5, f5⟩
  rw [show turnOf [⟨1, false⟩] 0 = 2 from rfl, show tookL [⟨1, false⟩] 0 = [⟨2, true⟩] from rfl] at *
  have B5 := below_alloc (Below.refl w5.heap.size w5) (.cells #[.int .i64 0, .int .i64 2] 40)
  have H5 := Lib.hid (h5.below B5)
  have HJ5 := Lib.hid ((HJ4.out.keeps f5.2 ⟨by decide, by decide⟩).below B5)
  have HH5 := Lib.hid (show Hn _ _ _ _ from blk_below (HH4.out.fr f5) B5)
  have HK5 := Lib.hid (show Hn (w5.alloc (.cells #[.int .i64 0, .int .i64 2] 40)) w5.heap.size 0 2 from heap_alloc_new w5 _)
  clear h5 f5 B5 H4 HJ4 HH4
  have q0 := (blk_cell HH5.out 0).trans (show _ = some (Value.int .i64 0) from rfl)
  have q1 := (blk_cell HH5.out 1).trans (show _ = some (Value.int .i64 1) from rfl)
  go_wp2_with (fail)
  generalize w5.alloc (.cells #[.int .i64 0, .int .i64 2] 40) = W5 at *
  go_at_call 14
  (with_reducible refine (code_join k 2 _ (good_et' (H5.out.good HG.out)) HJ5.out).mono ?_)
  rintro e w6 ⟨rfl, b6⟩
  have H6 := Lib.hid (H5.out.below b6)
  have HH6 := Lib.hid (show Hn _ _ _ _ from blk_below HH5.out b6)
  have HK6 := Lib.hid (show Hn _ _ _ _ from blk_below HK5.out b6)
  clear b6 H5 HJ5 HH5 HK5 q0 q1
  have q0 := (blk_cell HK6.out 0).trans (show _ = some (Value.int .i64 0) from rfl)
  have q1 := (blk_cell HK6.out 1).trans (show _ = some (Value.int .i64 2) from rfl)
  go_wp2_with (fail)
  go_at_call 22
  (with_reducible refine (has2 w _ g _ _ _ 0 2 H6.out).mono ?_)
  rintro e w7 ⟨rfl, h7, b7⟩
  rw [show hasB [⟨2, true⟩] 0 2 = true from rfl]
  have H7 := Lib.hid h7
  have HH7 := Lib.hid (show Hn _ _ _ _ from blk_below HH6.out b7)
  clear h7 b7 H6 HH6 HK6 q0 q1
  have q0 := (blk_cell HH7.out 0).trans (show _ = some (Value.int .i64 0) from rfl)
  have q1 := (blk_cell HH7.out 1).trans (show _ = some (Value.int .i64 1) from rfl)
  go_wp2_with (fail)
  go_at_call 22
  (with_reducible refine (has2 w _ g _ _ _ 0 1 H7.out).mono ?_)
  rintro e w8 ⟨rfl, h8, b8⟩
  rw [show hasB [⟨2, true⟩] 0 1 = false from rfl]
  have H8 := Lib.hid h8
  clear h8 b8 H7 HH7 q0 q1
  go_wp2_with (fail)
  go_at_call 18
  (with_reducible refine (len2 w _ g _ _ _ H8.out).mono ?_)
  rintro e w9 ⟨rfl, rfl⟩
  go_wp2
  go_ret
  exact ⟨rfl, H8.out.bl⟩
end Go.Proofs.YtphaaagcdjpceaaDoor
