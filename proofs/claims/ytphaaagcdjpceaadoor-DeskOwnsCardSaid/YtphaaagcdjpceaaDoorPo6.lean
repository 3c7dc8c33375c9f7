/- pool.Free. -/
import Derived.Test.YtphaaagcdjpceaaDoorPo5
import Derived.Lib.ItoaLen
namespace Go.Proofs.YtphaaagcdjpceaaDoor
open Go.RowKit Go.Extern.Stop Go.Stop Go.Extern Go.Proofs.YtphaaagcdjpceaaDoorW.PrintWords Go.Proofs.YtphaaagcdjpceaaDoorW.PrintLast Go.Proofs.YtphaaagcdjpceaaDoorW.PrintMore
set_option linter.unusedVariables false
/-- What the pool's own calls leave: memory below base as it was, and all blocks of other types. -/
def Fr (base : Nat) (W W1 : World) : Prop := Below base W W1 ∧ Keeps [106, 108] W W1
theorem Fr.of_below {base : Nat} {W W1 : World} (h : Below W.heap.size W W1) (hb : base ≤ W.heap.size) : Fr base W W1 := ⟨h.mono hb, Keeps.below h⟩
theorem Fr.trans {base : Nat} {W W1 W2 : World} (h : Fr base W W1) (h2 : Fr base W1 W2) : Fr base W W2 := ⟨h.1.trans h2.1, h.2.trans h2.2⟩
theorem PL.lt {W : World} {base g : Nat} {most n : Int} {ps : List S108} (h : PL W base g most ps n) : base ≤ W.heap.size := by
  obtain ⟨h0, A, c, h1, h2⟩ := h
  have := blk_lt h1
  omega
theorem itoa2 (n : Int) (hp : -9223372036854775808 ≤ n ∧ n ≤ 9223372036854775807) (w : World) (hg : Good w) : Calls Tryd.prog 52 #[.int .i64 n] w fun e w' => ∃ s : ByteArray, e = .returned (.string s) ∧ s.size ≤ 21 ∧ Below w.heap.size w w' := by
  refine (itoa_calls n hp.1 hp.2 w hg).mono ?_
  rintro e w' ⟨rfl, hb⟩
  exact ⟨_, rfl, by have := Lib.itoa_length_le n hp.1 hp.2; simpa [ByteArray.size] using this, hb⟩
theorem R108_blk {W : World} {base n c : Nat} {ad : Addr} {xs : List S108} (h : Kd.R k108 108 W base (fun _ => True) (.slice (some ad) n c) xs) : ∃ gb, ad = ⟨gb, 0, none⟩ ∧ base ≤ gb ∧ ∃ cur, W.heap[gb]? = some (.cells cur 108 (0, 0)) := by
  obtain ⟨_, inner, ho, _⟩ := h
  rcases ho.2 with ⟨hv, _⟩ | ⟨g, cap, cur, hv, hb, hh, _⟩
  · cases hv
  · injection hv with ha
    injection ha with ha
    exact ⟨g, ha, hb, cur, hh⟩
set_option maxHeartbeats 4000000 in
set_option maxRecDepth 100000 in
theorem free_no (g base : Nat) (most n : Int) (ps : List S108) (p t : Int) (w : World) (hG : Good w) (hp : -9223372036854775808 ≤ p ∧ p ≤ 9223372036854775807) (h : PL w base g most ps n) (hh : hasB ps p t = false) : Calls Tryd.prog 17 #[.pointer (some ⟨g, 0, none⟩), .agg #[.int .i64 p, .int .i64 t]] w fun e w' => ∃ k, e = .returned (.iface 179 (.pointer (some ⟨k, 0, none⟩))) ∧ Joined w' k 3 ∧ Below w.heap.size w w' := by
  have B1 := below_alloc (Below.refl w.heap.size w) (.cells #[.int .i64 p, .int .i64 t] 40)
  have hn := heap_alloc_new w (.cells #[.int .i64 p, .int .i64 t] 40)
  have HP := Lib.hid (h.below B1)
  have HN := Lib.hid hn
  have HB1 := Lib.hid B1
  have HG := Lib.hid (hG.below B1)
  have HI := Lib.hid hp
  have HH := Lib.hid hh
  clear B1 hn h hG hp hh
  go_enter Tryd.func17, Tryd.ntmps17
  go_wp2_with (fail)
  go_at_call 22
  (with_reducible refine (has_calls g base most n ps p t _ HP.out).mono ?_)
  rintro e w2 ⟨rfl, hb⟩
  rw [HH.out]
  have hn2 := blk_below HN.out hb
  have c0 := (blk_cell hn2 0).trans (show _ = some (Value.int .i64 p) from rfl)
  have HG2 := Lib.hid (HG.out.below hb)
  have HB2 := Lib.hid (below_step HB1.out hb)
  clear hb hn2
  go_wp2_with (fail)
  go_at_call 52
  (with_reducible refine (itoa2 p HI.out _ HG2.out).mono ?_)
  rintro e w3 ⟨s, rfl, hs, hb⟩
  have hadd : ∀ w, (Op.stringOp .add { data := #[112, 108, 97, 99, 101, 32] } (s : ByteArray)).run Tryd.prog w = .ok (.string ({ data := #[112, 108, 97, 99, 101, 32] } ++ s)) w := fun w => run_string_add_sum w _ _ (by have : (({ data := #[112, 108, 97, 99, 101, 32] } : ByteArray)).size = 6 := rfl; omega)
  have HB3 := Lib.hid (below_step HB2.out hb)
  clear hb
  go_wp2_with (fail)
  go_at_call 54
  (with_reducible refine (wrong_calls 3 _ _).mono ?_)
  rintro e w4 ⟨k, rfl, hj, hb⟩
  have HJ := Lib.hid hj
  have HB4 := Lib.hid (below_step HB3.out hb)
  clear hb hj
  go_wp2
  go_ret
  exact ⟨k, rfl, HJ.out, HB4.out⟩
set_option maxHeartbeats 4000000 in
set_option maxRecDepth 100000 in
theorem free_yes (g base : Nat) (most n : Int) (ps : List S108) (i : Nat) (t : Int) (w : World) (h : PL w base g most ps n) (hi : i < ps.length) (hh : hasB ps (i : Int) t = true) (hn0 : -1000000 ≤ n) (hn1 : n ≤ 1000000) : Calls Tryd.prog 17 #[.pointer (some ⟨g, 0, none⟩), .agg #[.int .i64 (i : Int), .int .i64 t]] w fun e w' => e = .returned .nilIface ∧ PL w' base g most (ps.set i ⟨(plc ps i).f0, false⟩) (n - 1) ∧ Fr base w w' := by
  have hbw := h.lt
  have B1 := below_alloc (Below.refl w.heap.size w) (.cells #[.int .i64 (i : Int), .int .i64 t] 40)
  have hn := heap_alloc_new w (.cells #[.int .i64 (i : Int), .int .i64 t] 40)
  have HP := Lib.hid (h.below B1)
  have HN := Lib.hid hn
  have HB1 := Lib.hid B1
  have HH := Lib.hid hh
  have HI := Lib.hid hi
  have HBW := Lib.hid hbw
  clear B1 hn h hh hbw
  go_enter Tryd.func17, Tryd.ntmps17
  go_wp2_with (fail)
  go_at_call 22
  (with_reducible refine (has_calls g base most n ps (i : Int) t _ HP.out).mono ?_)
  rintro e w2 ⟨rfl, hb⟩
  rw [HH.out]
  have hn2 := blk_below HN.out hb
  have k0 := (blk_cell hn2 0).trans (show _ = some (Value.int .i64 (i : Int)) from rfl)
  have HP2 := Lib.hid (HP.out.below hb)
  have HB2 := Lib.hid (below_step HB1.out hb)
  clear hb hn2 HP HN HB1 HH
  obtain ⟨g0, A, c, h1, h2⟩ := HP2.out
  obtain ⟨hl, hc, hC⟩ := Kd.R_reads' h2
  obtain ⟨ad, rfl, x0, x1⟩ := at_108 hC i hi
  have c1 := (blk_cell h1 1).trans (show _ = some (Value.slice (some ad) ps.length c) from rfl)
  have c2 := (blk_cell h1 2).trans (show _ = some (Value.int .i64 n) from rfl)
  have f2 : w2.frozen? ⟨g, 2, none⟩ = false := blk_frozen h1 2
  obtain ⟨gb, ead, hgb, cur, hcur⟩ := R108_blk h2
  have fx1 : w2.frozen? ⟨(ad.add (i * 2)).block, (ad.add (i * 2)).off + 1, none⟩ = false := by rw [ead, add0_]; exact blk_frozen hcur _
  have HE := Lib.hid ead; have HGB := Lib.hid hgb; have HCU := Lib.hid hcur
  clear ead hgb hcur
  have ci : (i : Int) < (ps.length : Int) := by omega
  have ci0 : (0 : Int) ≤ (i : Int) := by omega
  have HX := Lib.hid (And.intro h1 h2)
  clear h1 h2 hC hl hc
  go_wp2_with (fail)
  go_region
  have e3 : (⟨(ad.add (i * 2)).block, (ad.add (i * 2)).off + 1, none⟩ : Addr) = ⟨gb, i * 2 + 1, none⟩ := by rw [HE.out, add0_]
  have hne : g ≠ gb := by
    rintro rfl
    have h3 := HX.out.1
    rw [HCU.out] at h3
    injection h3 with h3
    injection h3 with _ h3
    exact absurd h3 (by decide)
  have HX1 : Hid (((w2.setCell ⟨(ad.add (i * 2)).block, (ad.add (i * 2)).off + 1, none⟩ (.bool false)).drew).heap[g]? = some (.cells #[.int .i64 most, .slice (some ad) ps.length c, .int .i64 n] 106 (0, 0))) := by
    rw [e3]
    exact blk_far (p := ⟨gb, i * 2 + 1, none⟩) HX.out.1 hne _
  have HX2 : Hid (Kd.R k108 108 ((w2.setCell ⟨(ad.add (i * 2)).block, (ad.add (i * 2)).off + 1, none⟩ (.bool false)).drew) base (fun _ => True) (.slice (some ad) ps.length c) (ps.set i ⟨(plc ps i).f0, false⟩)) := by
    have h3 := HX.out.2
    rw [HE.out] at h3 ⊢
    rw [add0_]
    exact Kd.R_drew (putb108 h3 i hi false)
  have HF : Hid (Fr base w ((w2.setCell ⟨(ad.add (i * 2)).block, (ad.add (i * 2)).off + 1, none⟩ (.bool false)).drew)) := by
    rw [e3]
    exact ⟨((HB2.out.mono HBW.out).setCell (p := ⟨gb, i * 2 + 1, none⟩) HGB.out _).drew, (Keeps.below HB2.out).set HCU.out (by decide) (i * 2 + 1) _⟩
  generalize (w2.setCell ⟨(ad.add (i * 2)).block, (ad.add (i * 2)).off + 1, none⟩ (.bool false)).drew = W3 at *
  clear c1 c2 f2 x0 x1 fx1 e3 k0
  have c2 := (blk_cell HX1.out 2).trans (show _ = some (Value.int .i64 n) from rfl)
  have f2 : W3.frozen? ⟨g, 2, none⟩ = false := blk_frozen HX1.out 2
  clear HX HP2 HB2 HCU HE
  go_wp2
  go_ret
  refine ⟨rfl, ⟨g0, some ad, c, ?_, ?_⟩, ⟨HF.out.1.setCell (p := ⟨g, 2, none⟩) g0 _, HF.out.2.set HX1.out (by decide) 2 _⟩⟩
  · rw [List.length_set]
    exact blk_set HX1.out 2 (.int .i64 (n - 1))
  · rw [List.length_set]
    exact Kd.R_set HX2.out HX1.out (fun q hq => by
      have : q = 108 := by simpa [k108, Kd.iso, Kd.pair, Kd.int, Kd.bool, Kd.scalar] using hq
      rw [this]; decide) 2 _
end Go.Proofs.YtphaaagcdjpceaaDoor
