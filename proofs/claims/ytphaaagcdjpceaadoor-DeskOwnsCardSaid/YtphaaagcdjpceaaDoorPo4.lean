/- pool: what a pool is in memory; wrong, Itoa, New, Len. -/
import Derived.Test.YtphaaagcdjpceaaDoorPo3
import Derived.Deep.LoopGhost
import Derived.Deep.DeepCutAuto
import Derived.Deep.CutBlock
import Derived.Outline
import Derived.WalkSmall
namespace Go.Proofs.YtphaaagcdjpceaaDoor
open Go.RowKit Go.Extern.Stop Go.Stop Go.Extern Go.Proofs.YtphaaagcdjpceaaDoorW.PrintWords Go.Proofs.YtphaaagcdjpceaaDoorW.PrintLast Go.Proofs.YtphaaagcdjpceaaDoorW.PrintMore
set_option linter.unusedVariables false
structure S108 where
  f0 : Int
  f1 : Bool
def z108 : S108 := ⟨(0 : Int), false⟩
def k108 : Kd S108 := Kd.iso (Kd.pair (Kd.int .i64) Kd.bool) (fun x : S108 => (x.f0, x.f1))
theorem k108_open {w : World} {x : S108} {cs : List Value} (h : k108.K w x cs) : cs = [.int .i64 x.f0, .bool x.f1] := by
  obtain ⟨_, _, rfl, rfl, rfl⟩ := h
  exact rfl
theorem k108_mkM (w : World) (base : Nat) (ok : Nat → Prop) (x : S108)  : k108.M w base ok x [.int .i64 x.f0, .bool x.f1] := ⟨[.int .i64 x.f0], [.bool x.f1], rfl, rfl, rfl⟩
/-- Place i. -/
def plc (xs : List S108) (i : Nat) : S108 := xs.getD i z108
theorem plc_get {xs : List S108} {i : Nat} (h : i < xs.length) : xs[i]? = some (plc xs i) := by simp [plc, h]
theorem at_108 {w : World} {A : Option Addr} {n : Nat} {xs : List S108} (h : Kd.C k108 w A n xs) (i : Nat) (h1 : i < n) : ∃ ad , A = some ad ∧ w.cell? (ad.add (i * 2)) = some (.int .i64 (plc xs i).f0) ∧ w.cell? ⟨(ad.add (i * 2)).block, (ad.add (i * 2)).off + 1, none⟩ = some (.bool (plc xs i).f1) := by
  obtain ⟨ad, c, e, _, hK, hc0⟩ := Kd.C_get h z108 (i : Int) (by omega) (by omega)
  have hc : ∀ j u, c[j]? = some u → w.cell? (ad.add (i * 2 + j)) = some u := hc0
  obtain rfl := k108_open hK
  exact ⟨ad, e, hc 0 _ rfl, by rw [← add_field _ _ 1 (by omega)]; exact hc 1 _ rfl⟩
theorem add0_ (g k : Nat) : (⟨g, 0, none⟩ : Addr).add k = ⟨g, k, none⟩ := by
  cases k <;> simp [Addr.add]
theorem C108_mk {w : World} {g n cap : Nat} {xs : List S108} {base : Nat} {ok : Nat → Prop} (h : Kd.R k108 108 w base ok (.slice (some ⟨g, 0, none⟩) n cap) xs) (i : Nat) (hi : i < xs.length) (j : Nat) (u : Value) (hu : [Value.int .i64 (plc xs i).f0, .bool (plc xs i).f1][j]? = some u) : w.cell? ⟨g, i * 2 + j, none⟩ = some u := by
  obtain ⟨hn, _, hC⟩ := Kd.R_reads' h
  obtain ⟨ad, c, e, _, hK, hc0⟩ := Kd.C_get hC z108 (i : Int) (by omega) (by omega)
  cases e
  have hc : ∀ j u, c[j]? = some u → w.cell? ((⟨g, 0, none⟩ : Addr).add (i * 2 + j)) = some u := hc0
  obtain rfl := k108_open hK
  have := hc j u hu
  rwa [add0_] at this
theorem put108 {w : World} {g n cap : Nat} {xs : List S108} {base : Nat} (h : Kd.R k108 108 w base (fun _ => True) (.slice (some ⟨g, 0, none⟩) n cap) xs) (i : Nat) (hi : i < xs.length) (t : Int) : Kd.R k108 108 (w.setCell ⟨g, i * 2, none⟩ (.int .i64 t)) base (fun _ => True) (.slice (some ⟨g, 0, none⟩) n cap) (xs.set i ⟨t, (plc xs i).f1⟩) := by
  obtain ⟨hn, _, hC⟩ := Kd.R_reads' h
  have := (Kd.R_seg (okp := fun _ => False) h (i : Int) (by omega) (by omega) (c := [.int .i64 (plc xs i).f0, .bool (plc xs i).f1]) (seg := [.int .i64 t]) (j := 0) rfl (fun j u hu => C108_mk h i hi j u hu) (by show 0 + 1 ≤ 2; omega) (x' := ⟨t, (plc xs i).f1⟩) (k108_mkM _ _ _ _) (fun _ hk => hk.elim)).1
  exact this
theorem putb108 {w : World} {g n cap : Nat} {xs : List S108} {base : Nat} (h : Kd.R k108 108 w base (fun _ => True) (.slice (some ⟨g, 0, none⟩) n cap) xs) (i : Nat) (hi : i < xs.length) (t : Bool) : Kd.R k108 108 (w.setCell ⟨g, i * 2 + 1, none⟩ (.bool t)) base (fun _ => True) (.slice (some ⟨g, 0, none⟩) n cap) (xs.set i ⟨(plc xs i).f0, t⟩) := by
  obtain ⟨hn, _, hC⟩ := Kd.R_reads' h
  have := (Kd.R_seg (okp := fun _ => False) h (i : Int) (by omega) (by omega) (c := [.int .i64 (plc xs i).f0, .bool (plc xs i).f1]) (seg := [.bool t]) (j := 1) rfl (fun j u hu => C108_mk h i hi j u hu) (by show 1 + 1 ≤ 2; omega) (x' := ⟨(plc xs i).f0, t⟩) (k108_mkM _ _ _ _) (fun _ hk => hk.elim)).1
  exact this
/-- The package-level variables that a run reads: errors.errorType, and strconv's powers of ten. -/
def Good (w : World) : Prop := w.cell? ⟨0, 0, none⟩ = some (.iface 166 (.agg #[.pointer (some ⟨4, 31, none⟩)])) ∧ Lib.TabIs Tryd.prog w "internal/strconv.uint64pow10" .u64 Lib.pow10Tab
theorem tab_below {w w' : World} (h : Lib.TabIs Tryd.prog w "internal/strconv.uint64pow10" .u64 Lib.pow10Tab) (hb : Below w.heap.size w w') : Lib.TabIs Tryd.prog w' "internal/strconv.uint64pow10" .u64 Lib.pow10Tab := by
  have hg : Tryd.prog.globalNamed "internal/strconv.uint64pow10" = some 1 := by kernel_rfl
  have hlt : 1 < w.heap.size := by
    unfold Lib.TabIs World.var? at h
    rw [hg] at h
    rcases Nat.lt_or_ge 1 w.heap.size with h' | h'
    · exact h'
    · simp [Array.getElem?_eq_none h'] at h
  exact var?_below hb hg hlt h
theorem Good.below {w w' : World} (h : Good w) (hb : Below w.heap.size w w') : Good w' := ⟨(hb.cell (cell_lt h.1)).trans h.1, tab_below h.2 hb⟩
theorem below_grow_ (w : World) (k : Nat) (os : Array Obj) : Below w.heap.size w (Go.Sort.grow (w.drewN k) os) := by
  refine ⟨rfl, rfl, rfl, ?_, fun i hi => ?_⟩
  · show w.heap.size ≤ (w.heap ++ os).size
    rw [Array.size_append]; omega
  · show (w.heap ++ os)[i]? = _
    rw [Array.getElem?_append_left hi]
theorem itoa_calls (n : Int) (h0 : -9223372036854775808 ≤ n) (h1 : n ≤ 9223372036854775807) (w : World) (hg : Good w) : Calls Tryd.prog 52 #[.int .i64 n] w fun e w' => e = .returned (.string ⟨(Lib.itoa n).toArray⟩) ∧ Below w.heap.size w w' := by
  refine (Tryd.strconv_Itoa n h0 h1 w hg.2).mono ?_
  rintro e w' ⟨rfl, k, os, rfl⟩
  exact ⟨rfl, below_grow_ w k os⟩
theorem wrong_calls (n : Int) (s : ByteArray) (w : World) : Calls Tryd.prog 54 #[.int .i64 n, .string s] w fun e w' => ∃ k, e = .returned (.iface 179 (.pointer (some ⟨k, 0, none⟩))) ∧ Joined w' k n ∧ Below w.heap.size w w' := by
  obtain ⟨s⟩ := s
  have B1 := below_alloc (Below.refl w.heap.size w) (.cells #[.string ⟨s⟩] 184)
  have B2 := below_alloc B1 (.cells #[.iface 182 (.pointer (some ⟨w.heap.size, 0, none⟩)), .iface 26 (.int .i64 n)] 31)
  have hn := heap_alloc_new (w.alloc (.cells #[.string ⟨s⟩] 184)) (.cells #[.iface 182 (.pointer (some ⟨w.heap.size, 0, none⟩)), .iface 26 (.int .i64 n)] 31)
  rw [World.size_alloc] at hn
  have HN := Lib.hid hn; have HB := Lib.hid B2
  clear B1 B2 hn
  go_enter Tryd.func54, Tryd.ntmps54
  go_wp2_with (fail)
  go_at_call 73
  (with_reducible refine (new_calls s _).mono ?_)
  rintro e w1 ⟨rfl, rfl⟩
  go_wp2_with (fail)
  go_at_call 72
  (with_reducible refine (join_calls 182 26 (.pointer (some ⟨w.heap.size, 0, none⟩)) (.int .i64 n) (w.heap.size + 1) _ ((blk_cell HN.out 0).trans rfl) ((blk_cell HN.out 1).trans rfl) (blk_lt HN.out)).mono ?_)
  rintro e w2 ⟨k, m, rfl, hk, hm, hb⟩
  have HJ : Hid (Joined w2 k n) := ⟨m, _, hk, hm⟩
  have HB2 := Lib.hid (below_step HB.out hb)
  clear hk hm hb
  go_wp2
  go_ret
  exact ⟨k, rfl, HJ.out, HB2.out⟩
/-- A pool at block g: so many places at most, these places, so many taken. -/
def PL (W : World) (base g : Nat) (most : Int) (ps : List S108) (n : Int) : Prop := base ≤ g ∧ ∃ A c, W.heap[g]? = some (.cells #[.int .i64 most, .slice A ps.length c, .int .i64 n] 106 (0, 0)) ∧ Kd.R k108 108 W base (fun _ => True) (.slice A ps.length c) ps
/-- All blocks of other types stand as they did. -/
def Keeps (T : List Nat) (W W1 : World) : Prop := W.heap.size ≤ W1.heap.size ∧ ∀ (k : Nat) (cs : Array Value) (t : Nat) (fr : Nat × Nat), W.heap[k]? = some (Obj.cells cs t fr) → t ∉ T → W1.heap[k]? = W.heap[k]?
theorem Keeps.refl (T : List Nat) (W : World) : Keeps T W W := ⟨Nat.le_refl _, fun _ _ _ _ _ _ => rfl⟩
theorem Keeps.trans {T : List Nat} {W W1 W2 : World} (h : Keeps T W W1) (h2 : Keeps T W1 W2) : Keeps T W W2 := ⟨Nat.le_trans h.1 h2.1, fun k cs t fr hk ht => by
  have e := h.2 k cs t fr hk ht
  rw [← e]
  exact h2.2 k cs t fr (e.trans hk) ht⟩
theorem Keeps.below {T : List Nat} {W W1 : World} (h : Below W.heap.size W W1) : Keeps T W W1 := ⟨h.size, fun k _ _ _ hk _ => h.block k (blk_lt hk)⟩
theorem Keeps.set {T : List Nat} {W W1 : World} (h : Keeps T W W1) {g t : Nat} {cs : Array Value} (hg : W1.heap[g]? = some (Obj.cells cs t (0, 0))) (ht : t ∈ T) (j : Nat) (u : Value) : Keeps T W (W1.setCell ⟨g, j, none⟩ u) := ⟨by rw [World.size_setCell]; exact h.1, fun k cs' t' fr hk ht' => by
  have e := h.2 k cs' t' fr hk ht'
  have hne : k ≠ g := by
    rintro rfl
    rw [e, hk] at hg
    injection hg with hg
    injection hg with _ hg
    subst hg
    exact ht' ht
  rw [Below.heap_setCell W1 ⟨g, j, none⟩ u k hne]
  exact e⟩
theorem R_keeps {α : Type} {d : Kd α} {e : Nat} {W W1 : World} {base : Nat} {ok : Nat → Prop} {v : Value} {xs : List α} (h : d.R e W base ok v xs) {T : List Nat} (hk : Keeps T W W1) (ht : ∀ q, q ∈ e :: d.E → q ∉ T) : d.R e W1 base ok v xs :=
  Kd.R_mono (Kd.R_move (Kd.R_bound h) (fun k ⟨_, _, _, q, hq, cells, hc⟩ => hk.2 k cells q _ hc (ht q hq))) (fun _ hk => hk.1)
theorem PL.below {W W1 : World} {base g : Nat} {most n : Int} {ps : List S108} (h : PL W base g most ps n) (hb : Below W.heap.size W W1) : PL W1 base g most ps n := by
  obtain ⟨h0, A, c, h1, h2⟩ := h
  exact ⟨h0, A, c, blk_below h1 hb, Kd.R_below h2 hb⟩
theorem PL.keeps {W W1 : World} {base g : Nat} {most n : Int} {ps : List S108} (h : PL W base g most ps n) {T : List Nat} (hk : Keeps T W W1) (ht : 106 ∉ T ∧ 108 ∉ T) : PL W1 base g most ps n := by
  obtain ⟨h0, A, c, h1, h2⟩ := h
  exact ⟨h0, A, c, (hk.2 g _ _ _ h1 ht.1).trans h1, R_keeps h2 hk (fun q hq => by
    have : q = 108 := by simpa [k108, Kd.iso, Kd.pair, Kd.int, Kd.bool, Kd.scalar] using hq
    rw [this]; exact ht.2)⟩
theorem newpool_calls (m : Int) (w : World) : Calls Tryd.prog 15 #[.int .i64 m] w fun e w' => e = .returned (.pointer (some ⟨w.heap.size, 0, none⟩)) ∧ PL w' w.heap.size w.heap.size (min (max m 0) 10000) [] 0 ∧ Below w.heap.size w w' := by
  go_enter Tryd.func15, Tryd.ntmps15
  go_wp2
  go_ret
  exact ⟨rfl, ⟨Nat.le_refl _, none, 0, heap_alloc_new _ _, Kd.R_nil _ _ _ _ _⟩, below_alloc (Below.refl _ _) _⟩
theorem len_calls (g base : Nat) (most n : Int) (ps : List S108) (w : World) (h : PL w base g most ps n) : Calls Tryd.prog 18 #[.pointer (some ⟨g, 0, none⟩)] w fun e w' => e = .returned (.int .i64 n) ∧ w' = w := by
  obtain ⟨_, A, c, h1, _⟩ := h
  have c2 := (blk_cell h1 2).trans (show _ = some (Value.int .i64 n) from rfl)
  clear h1
  go_enter Tryd.func18, Tryd.ntmps18
  go_wp2
  go_ret
  exact ⟨rfl, rfl⟩
end Go.Proofs.YtphaaagcdjpceaaDoor
