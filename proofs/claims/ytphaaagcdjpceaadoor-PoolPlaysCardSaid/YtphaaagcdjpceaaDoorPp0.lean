/- quoinref1's pool: NewPool, Take, Has, Free, Len. -/
import Derived.Test.YtphaaagcdjpceaaDoorPu0
namespace Go.Proofs.YtphaaagcdjpceaaDoor
open Go.RowKit Go.Extern.Stop Go.Stop Go.Extern Go.Proofs.YtphaaagcdjpceaaDoorW.PrintWords Go.Proofs.YtphaaagcdjpceaaDoorW.PrintLast Go.Proofs.YtphaaagcdjpceaaDoorW.PrintMore
set_option linter.unusedVariables false
theorem info3 : (Tryd.prog.info? 3).map (fun i => (i.zero, i.size, i.bytes)) = some (some (.int .i64 0), 1, 8) := by kernel_rfl
theorem E3 : ∀ q, q ∈ 3 :: (Kd.int .i64).E → q = 3 := fun q hq => by simpa [Kd.int, Kd.scalar] using hq
/-- A row of ints of the call's own. -/
abbrev TR (W : World) (base : Nat) (v : Value) (ts : List Int) : Prop := Kd.R (Kd.int .i64) 3 W base (fun _ => True) v ts
def tat (ts : List Int) (i : Nat) : Int := ts.getD i 0
structure OpT (W : World) (base : Nat) (ts : List Int) (i : Nat) (ad : Addr) (c : Nat) : Prop where
  x0 : W.cell? (ad.add i) = some (.int .i64 (tat ts i))
  y0 : W.frozen? (ad.add i) = false
  put : ∀ t, TR (W.setCell (ad.add i) (.int .i64 t)) base (.slice (some ad) ts.length c) (ts.set i t) ∧ Below base W (W.setCell (ad.add i) (.int .i64 t)) ∧ Keeps [3] W (W.setCell (ad.add i) (.int .i64 t))
theorem TR.form {W : World} {base : Nat} {v : Value} {hs : List Int} (h : TR W base v hs) (hp : 0 < hs.length) : ∃ ad c, v = .slice (some ad) hs.length c := by
  obtain ⟨g, c, hv, _⟩ := Kd.R_form h hp
  exact ⟨_, c, hv⟩
theorem TR.op {W : World} {base : Nat} {ad : Addr} {c : Nat} {ts : List Int} (h : TR W base (.slice (some ad) ts.length c) ts) (i : Nat) (hi : i < ts.length) : OpT W base ts i ad c := by
  obtain ⟨gb, c', hv, hgb, _, cur, hcur⟩ := Kd.R_form h (by omega)
  injection hv with ha _ hc
  injection ha with ha
  subst ha
  subst hc
  obtain ⟨hl, hc, hC⟩ := Kd.R_reads' h
  obtain ⟨ad, e, hx⟩ := Kd.at_int hC (i : Int) (by omega) (by omega)
  cases e
  constructor
  · have : W.cell? (Addr.add ⟨gb, 0, none⟩ i) = _ := hx
    rw [this]
    simp [tat, rd]
  · rw [add0_]; exact blk_frozen hcur _
  · intro t
    rw [add0_]
    have h1 := Kd.R_putn h (i : Int) t
    exact ⟨h1, (Below.refl base W).setCell (p := ⟨gb, i, none⟩) hgb _, (Keeps.refl [3] W).set hcur (by decide) _ _⟩
theorem TR.keeps {W W1 : World} {base : Nat} {v : Value} {hs : List Int} (h : TR W base v hs) {T : List Nat} (hf : Keeps T W W1) (hT : 3 ∉ T) : TR W1 base v hs := R_keeps h hf (fun q hq => by rw [E3 q hq]; exact hT)
theorem BR.keepsT {W W1 : World} {base : Nat} {v : Value} {hs : List Bool} (h : BR W base v hs) {T : List Nat} (hf : Keeps T W W1) (hT : 4 ∉ T) : BR W1 base v hs := R_keeps h hf (fun q hq => by rw [E4 q hq]; exact hT)
theorem HR.keepsT {W W1 : World} {base : Nat} {v : Value} {hs : List S40} (h : HR W base v hs) {T : List Nat} (hf : Keeps T W W1) (hT : 40 ∉ T) : HR W1 base v hs := R_keeps h hf (fun q hq => by rw [E40 q hq]; exact hT)
theorem St.keepsT {w W W1 : World} {g : Nat} {most : Int} {ps : List S108} {n : Int} (h : St w W g most ps n) (hb : Below w.heap.size W W1) {T : List Nat} (hk : Keeps T W W1) (hT : 106 ∉ T ∧ 108 ∉ T) : St w W1 g most ps n := ⟨h.pl.keeps hk hT, h.bl.trans hb⟩
/-- The document's pool at block r: of N places, as these. -/
def RP (W : World) (base r : Nat) (ps : List S108) (N : Nat) : Prop := base ≤ r ∧ ∃ A1 c1 A2 c2 ts bs, W.heap[r]? = some (Obj.cells #[.slice A1 N c1, .slice A2 N c2] 111 (0, 0)) ∧ TR W base (.slice A1 N c1) ts ∧ BR W base (.slice A2 N c2) bs ∧ ts.length = N ∧ bs.length = N ∧ ∀ k, k < N → tat ts k = (plc ps k).f0 ∧ bat bs k = (plc ps k).f1
theorem RP.below {W W1 : World} {base r N : Nat} {ps : List S108} (h : RP W base r ps N) (hb : Below W.heap.size W W1) : RP W1 base r ps N := by
  obtain ⟨h0, A1, c1, A2, c2, ts, bs, h1, h2, h3, h4⟩ := h
  exact ⟨h0, A1, c1, A2, c2, ts, bs, blk_below h1 hb, Kd.R_below h2 hb, Kd.R_below h3 hb, h4⟩
theorem RP.keeps {W W1 : World} {base r N : Nat} {ps : List S108} (h : RP W base r ps N) {T : List Nat} (hk : Keeps T W W1) (hT : 111 ∉ T ∧ 3 ∉ T ∧ 4 ∉ T) : RP W1 base r ps N := by
  obtain ⟨h0, A1, c1, A2, c2, ts, bs, h1, h2, h3, h4⟩ := h
  exact ⟨h0, A1, c1, A2, c2, ts, bs, (hk.2 _ _ _ _ h1 hT.1).trans h1, h2.keeps hk hT.2.1, h3.keepsT hk hT.2.2, h4⟩
theorem RP.lt {W : World} {base r N : Nat} {ps : List S108} (h : RP W base r ps N) : base ≤ W.heap.size := by
  obtain ⟨h0, A1, c1, A2, c2, ts, bs, h1, _⟩ := h
  have := blk_lt h1
  omega
/-- What the document's pool leaves as it was. -/
def Fd (base : Nat) (W W1 : World) : Prop := Below base W W1 ∧ Keeps [3, 4, 111] W W1
theorem Fd.of_below {base : Nat} {W W1 : World} (h : Below W.heap.size W W1) (hb : base ≤ W.heap.size) : Fd base W W1 := ⟨h.mono hb, Keeps.below h⟩
theorem Fd.trans {base : Nat} {W W1 W2 : World} (h : Fd base W W1) (h2 : Fd base W1 W2) : Fd base W W2 := ⟨h.1.trans h2.1, h.2.trans h2.2⟩
theorem made3 (W : World) (base : Nat) (m : Nat) (hb : base ≤ W.heap.size) (hm : m ≤ 10000) : TR (W.alloc (.cells (madeCells #[.int .i64 0] m) 3)) base (.slice (some ⟨W.heap.size, 0, none⟩) m m) (List.replicate m 0) :=
  Kd.R_of_own (by rw [List.length_replicate]; exact own_made_of (enc := Value.int .i64) (d := 0) W base 3 m hb (by omega)) (fun _ _ => trivial)
theorem made4 (W : World) (base : Nat) (m : Nat) (hb : base ≤ W.heap.size) (hm : m ≤ 10000) : BR (W.alloc (.cells (madeCells #[.bool false] m) 4)) base (.slice (some ⟨W.heap.size, 0, none⟩) m m) (List.replicate m false) :=
  Kd.R_of_own (by rw [List.length_replicate]; exact own_made_of (enc := Value.bool) (d := false) W base 4 m hb (by omega)) (fun _ _ => trivial)
theorem plc_nil (k : Nat) : plc [] k = z108 := by simp [plc]
theorem bat_rep (N k : Nat) : bat (List.replicate N false) k = false := by
  rcases Nat.lt_or_ge k N with h | h <;> simp [bat, h]
theorem tat_rep (N k : Nat) : tat (List.replicate N 0) k = 0 := by
  rcases Nat.lt_or_ge k N with h | h <;> simp [tat, h]
theorem rp_made1 (w : World) (N : Nat) (hN : N ≤ 10000) : RP (((w.alloc (.cells (madeCells #[.int .i64 0] N) 3)).alloc (.cells (madeCells #[.bool false] N) 4)).alloc (.cells #[.slice (some ⟨w.heap.size, 0, none⟩) N N, .slice (some ⟨w.heap.size + 1, 0, none⟩) N N] 111)).drew w.heap.size (w.heap.size + 1 + 1) [] N ∧ Below w.heap.size w (((w.alloc (.cells (madeCells #[.int .i64 0] N) 3)).alloc (.cells (madeCells #[.bool false] N) 4)).alloc (.cells #[.slice (some ⟨w.heap.size, 0, none⟩) N N, .slice (some ⟨w.heap.size + 1, 0, none⟩) N N] 111)).drew := by
  have m3 := made3 w w.heap.size N (Nat.le_refl _) hN
  have m4 := made4 (w.alloc (.cells (madeCells #[.int .i64 0] N) 3)) w.heap.size N (by simp) hN
  rw [World.size_alloc] at m4
  have hn := heap_alloc_new ((w.alloc (.cells (madeCells #[.int .i64 0] N) 3)).alloc (.cells (madeCells #[.bool false] N) 4)) (.cells #[.slice (some ⟨w.heap.size, 0, none⟩) N N, .slice (some ⟨w.heap.size + 1, 0, none⟩) N N] 111)
  rw [World.size_alloc, World.size_alloc] at hn
  have B := below_alloc (below_alloc (below_alloc (Below.refl w.heap.size w) (.cells (madeCells #[.int .i64 0] N) 3)) (.cells (madeCells #[.bool false] N) 4)) (.cells #[.slice (some ⟨w.heap.size, 0, none⟩) N N, .slice (some ⟨w.heap.size + 1, 0, none⟩) N N] 111)
  refine ⟨RP.below ?_ (below_drew1 (Below.refl _ _)), below_drew1 B⟩
  exact ⟨by omega, _, _, _, _, _, _, hn, Kd.R_alloc (Kd.R_alloc m3 _) _, Kd.R_alloc m4 _, by simp, by simp, fun k _ => by rw [tat_rep, bat_rep, plc_nil]; exact ⟨rfl, rfl⟩⟩
theorem rp_made2 (w : World) (N : Nat) (hN : N ≤ 10000) : RP (((w.alloc (.cells (madeCells #[.bool false] N) 4)).alloc (.cells (madeCells #[.int .i64 0] N) 3)).alloc (.cells #[.slice (some ⟨w.heap.size + 1, 0, none⟩) N N, .slice (some ⟨w.heap.size, 0, none⟩) N N] 111)).drew w.heap.size (w.heap.size + 1 + 1) [] N ∧ Below w.heap.size w (((w.alloc (.cells (madeCells #[.bool false] N) 4)).alloc (.cells (madeCells #[.int .i64 0] N) 3)).alloc (.cells #[.slice (some ⟨w.heap.size + 1, 0, none⟩) N N, .slice (some ⟨w.heap.size, 0, none⟩) N N] 111)).drew := by
  have m4 := made4 w w.heap.size N (Nat.le_refl _) hN
  have m3 := made3 (w.alloc (.cells (madeCells #[.bool false] N) 4)) w.heap.size N (by simp) hN
  rw [World.size_alloc] at m3
  have hn := heap_alloc_new ((w.alloc (.cells (madeCells #[.bool false] N) 4)).alloc (.cells (madeCells #[.int .i64 0] N) 3)) (.cells #[.slice (some ⟨w.heap.size + 1, 0, none⟩) N N, .slice (some ⟨w.heap.size, 0, none⟩) N N] 111)
  rw [World.size_alloc, World.size_alloc] at hn
  have B := below_alloc (below_alloc (below_alloc (Below.refl w.heap.size w) (.cells (madeCells #[.bool false] N) 4)) (.cells (madeCells #[.int .i64 0] N) 3)) (.cells #[.slice (some ⟨w.heap.size + 1, 0, none⟩) N N, .slice (some ⟨w.heap.size, 0, none⟩) N N] 111)
  refine ⟨RP.below ?_ (below_drew1 (Below.refl _ _)), below_drew1 B⟩
  exact ⟨by omega, _, _, _, _, _, _, hn, Kd.R_alloc m3 _, Kd.R_alloc (Kd.R_alloc m4 _) _, by simp, by simp, fun k _ => by rw [tat_rep, bat_rep, plc_nil]; exact ⟨rfl, rfl⟩⟩
set_option maxHeartbeats 4000000 in
set_option maxRecDepth 100000 in
theorem newref_calls (a : Int) (N : Nat) (hN : min (max a 0) 10000 = (N : Int)) (w : World) : Calls Tryd.prog 20 #[.int .i64 a] w fun e w' => ∃ r, e = .returned (.pointer (some ⟨r, 0, none⟩)) ∧ RP w' w.heap.size r [] N ∧ Below w.heap.size w w' := by
  have hN1 : N ≤ 10000 := by omega
  have mk3 := run_make_row' (P := Tryd.prog) 35 3 (.int .i64 0) 8 Tryd.underlying35 info3 rfl .i64 .i64 N (by omega) (by omega)
  have mk4 := run_make_row' (P := Tryd.prog) 54 4 (.bool false) 1 Tryd.underlying54 info4 rfl .i64 .i64 N (by omega) (by omega)
  have HM1 := Lib.hid (rp_made1 w N hN1)
  have HM2 := Lib.hid (rp_made2 w N hN1)
  go_enter Tryd.func20, Tryd.ntmps20
  go_upto_region 2 with (fail)
  have HN := Lib.hid hN
  clear hN
  go_region
  · go_wp2
    go_ret
    exact ⟨_, rfl, HM1.out⟩
  · go_wp2
    go_ret
    exact ⟨_, rfl, HM2.out⟩
/-- What a run sees of place k of the document's pool, and what a store leaves. -/
structure OpR (W : World) (base r : Nat) (ps : List S108) (N k : Nat) (ad1 ad2 : Addr) (c1 c2 : Nat) : Prop where
  q0 : W.cell? ⟨r, 0, none⟩ = some (.slice (some ad1) N c1)
  q1 : W.cell? ⟨r, 1, none⟩ = some (.slice (some ad2) N c2)
  x0 : W.cell? (ad1.add k) = some (.int .i64 (plc ps k).f0)
  b0 : W.cell? (ad2.add k) = some (.bool (plc ps k).f1)
  y0 : W.frozen? (ad1.add k) = false
  z0 : W.frozen? (ad2.add k) = false
  putT : k < ps.length → ∀ t, RP (W.setCell (ad1.add k) (.int .i64 t)) base r (ps.set k ⟨t, (plc ps k).f1⟩) N ∧ Fd base W (W.setCell (ad1.add k) (.int .i64 t))
  putB : k < ps.length → ∀ t, RP (W.setCell (ad2.add k) (.bool t)) base r (ps.set k ⟨(plc ps k).f0, t⟩) N ∧ Fd base W (W.setCell (ad2.add k) (.bool t))
theorem Keeps.mono' {T T' : List Nat} {W W1 : World} (h : Keeps T W W1) (ht : ∀ q, q ∈ T → q ∈ T') : Keeps T' W W1 := h.mono ht
theorem RP.op {W : World} {base r N : Nat} {ps : List S108} (h : RP W base r ps N) (k : Nat) (hk : k < N) : ∃ ad1 ad2 c1 c2, OpR W base r ps N k ad1 ad2 c1 c2 := by
  obtain ⟨h0, A1, c1, A2, c2, ts, bs, h1, h2, h3, l1, l2, h4⟩ := h
  subst l1
  obtain ⟨ad1, c1', hv⟩ := TR.form h2 (by omega)
  injection hv with e1 _ e2
  subst e1 e2
  have h3' := h3
  rw [← l2] at h3'
  obtain ⟨ad2, c2', hv⟩ := BR.form h3' (by omega)
  injection hv with e1 _ e2
  subst e1 e2
  have o1 := TR.op h2 k hk
  have o2 := BR.op h3' k (by omega)
  have hh := h4 k hk
  refine ⟨ad1, ad2, c1, c2, ?_⟩
  constructor
  · exact (blk_cell h1 0).trans rfl
  · exact (blk_cell h1 1).trans rfl
  · rw [← hh.1]; exact o1.x0
  · rw [← hh.2]; exact o2.x0
  · exact o1.y0
  · exact o2.y0
  · intro hkl t
    obtain ⟨p1, p2, p3⟩ := o1.put t
    refine ⟨⟨h0, some ad1, c1, some ad2, c2, ts.set k t, bs, (p3.2 _ _ _ _ h1 (by decide)).trans h1, p1, h3.keepsT p3 (by decide), List.length_set, l2, ?_⟩, p2, p3.mono (fun q hq => by simp at hq; subst hq; decide)⟩
    intro j hj
    have hjj := h4 j hj
    rcases Nat.decEq k j with hne | rfl
    · rw [plc_set_ne hne]
      exact ⟨by rw [← hjj.1]; simp [tat, List.getElem?_set_ne hne], hjj.2⟩
    · rw [plc_set hkl]
      exact ⟨by simp [tat, hk], hjj.2⟩
  · intro hkl t
    obtain ⟨p1, p2, p3⟩ := o2.put t
    rw [l2] at p1
    refine ⟨⟨h0, some ad1, c1, some ad2, c2, ts, bs.set k t, (p3.2 _ _ _ _ h1 (by decide)).trans h1, h2.keeps p3 (by decide), p1, rfl, by rw [List.length_set]; exact l2, ?_⟩, p2, p3.mono (fun q hq => by simp at hq; subst hq; decide)⟩
    intro j hj
    have hjj := h4 j hj
    rcases Nat.decEq k j with hne | rfl
    · rw [plc_set_ne hne]
      exact ⟨hjj.1, by rw [← hjj.2]; simp [bat, List.getElem?_set_ne hne]⟩
    · rw [plc_set hkl]
      exact ⟨hjj.1, by simp [bat, show k < bs.length by omega]⟩
theorem RP.len {W : World} {base r N : Nat} {ps : List S108} (h : RP W base r ps N) : ∃ A c, W.cell? ⟨r, 1, none⟩ = some (.slice A N c) := by
  obtain ⟨h0, A1, c1, A2, c2, ts, bs, h1, _⟩ := h
  exact ⟨_, _, (blk_cell h1 1).trans rfl⟩
theorem plc_grow (ps : List S108) (i k : Nat) (h : i ≤ ps.length) : plc (grow0 ps i) k = plc ps k := by
  unfold grow0
  split
  · rfl
  · rcases Nat.lt_or_ge k ps.length with hk | hk
    · exact plc_snoc _ hk
    · rcases Nat.decEq k ps.length with hne | rfl
      · have h1 : plc ps k = z108 := by simp [plc, show ps.length ≤ k from hk]
        have h2 : plc (ps ++ [⟨0, false⟩]) k = z108 := by simp [plc, List.getElem?_append_right hk, show k - ps.length ≠ 0 by omega]
        rw [h1, h2]
      · rw [plc_last]
        simp [plc, z108]
theorem RP.grow {W : World} {base r N : Nat} {ps : List S108} (h : RP W base r ps N) (i : Nat) (hi : i ≤ ps.length) : RP W base r (grow0 ps i) N := by
  obtain ⟨h0, A1, c1, A2, c2, ts, bs, h1, h2, h3, l1, l2, h4⟩ := h
  exact ⟨h0, A1, c1, A2, c2, ts, bs, h1, h2, h3, l1, l2, fun k hk => by rw [plc_grow ps i k hi]; exact h4 k hk⟩
/-- How many of the first j are taken. -/
def cto (ps : List S108) (j : Nat) : Nat := (ps.take j).countP (fun x => x.f1)
theorem cto_zero (ps : List S108) : cto ps 0 = 0 := rfl
theorem cto_succ (ps : List S108) (j : Nat) : cto ps (j + 1) = cto ps j + if (plc ps j).f1 = true then 1 else 0 := by
  unfold cto
  rw [List.take_add_one, List.countP_append]
  congr 1
  rcases Nat.lt_or_ge j ps.length with h | h
  · simp [plc, h, List.countP_cons]
  · simp [plc, show ps.length ≤ j from h, z108]
theorem cto_all (ps : List S108) (N : Nat) (h : ps.length ≤ N) : cto ps N = cnt ps := by
  unfold cto cnt
  rw [List.take_of_length_le h]
theorem cto_le (ps : List S108) (j : Nat) : cto ps j ≤ j := by
  unfold cto
  exact Nat.le_trans List.countP_le_length (by rw [List.length_take]; exact Nat.min_le_left _ _)
set_option maxHeartbeats 4000000 in
set_option maxRecDepth 100000 in
theorem rlen_calls (r base N : Nat) (ps : List S108) (w : World) (h : RP w base r ps N) (hN : N ≤ 10000) (hl : ps.length ≤ N) : Calls Tryd.prog 25 #[.pointer (some ⟨r, 0, none⟩)] w fun e w' => e = .returned (.int .i64 (cnt ps : Int)) ∧ w' = w := by
  have HR := Lib.hid h
  have HL := Lib.hid hl
  clear h hl
  go_enter Tryd.func25, Tryd.ntmps25
  go_wp2_with (fail)
  go_loopg [3, 4] N (fun gk v3 v4 wr => ∃ j : Nat, v4 = .int .i64 (j : Int) ∧ v3 = .int .i64 (cto ps j : Int) ∧ j ≤ N ∧ N - j ≤ gk ∧ Hid (wr = w))
  case atStart => exact ⟨0, rfl, rfl, by omega, by omega, rfl⟩
  case round =>
    obtain ⟨j, rfl, rfl, hj, hk, HW⟩ := hrel
    have hw := HW.out
    subst hw
    have hc := cto_le ps j
    have HC := Lib.hid (cto_succ ps j)
    by_cases hlt : j < N
    · obtain ⟨ad1, ad2, c1, c2, o⟩ := HR.out.op j hlt
      have q1 := o.q1
      have b0 := o.b0
      clear o
      have cj : (j : Int) < (N : Int) := by omega
      have cj0 : (0 : Int) ≤ (j : Int) := by omega
      have hc2 : (cto ps j : Int) ≤ 10000 := by omega
      cases hb : (plc ps j).f1
      case false =>
        rw [hb] at b0
        have HC2 := Lib.hid (show cto ps (j + 1) = cto ps j by rw [HC.out, hb]; rfl)
        clear hb
        go_wp2
        go_roundg (N - (j + 1))
        case measure => omega
        case rel => exact ⟨j + 1, by simp, by rw [HC2.out], by omega, by omega, rfl⟩
      case true =>
        rw [hb] at b0
        have HC2 := Lib.hid (show cto ps (j + 1) = cto ps j + 1 by rw [HC.out, hb]; rfl)
        clear hb
        go_wp2
        go_roundg (N - (j + 1))
        case measure => omega
        case rel => exact ⟨j + 1, by simp, by rw [HC2.out]; simp, by omega, by omega, rfl⟩
    · obtain rfl : j = N := by omega
      obtain ⟨A, c, q1⟩ := HR.out.len
      go_wp2
      go_ret
      exact ⟨by rw [← cto_all ps j HL.out]; first | rfl | simp, rfl⟩
set_option maxHeartbeats 4000000 in
set_option maxRecDepth 100000 in
theorem rhas_calls (r base N : Nat) (ps : List S108) (p t : Int) (w : World) (h : RP w base r ps N) (hl : ps.length ≤ N) : Calls Tryd.prog 23 #[.pointer (some ⟨r, 0, none⟩), .agg #[.int .i64 p, .int .i64 t]] w fun e w' => e = .returned (.bool (hasB ps p t)) ∧ Below w.heap.size w w' := by
  have B1 := below_alloc (Below.refl w.heap.size w) (.cells #[.int .i64 p, .int .i64 t] 40)
  have HB1 := Lib.hid B1
  have HR := Lib.hid (h.below B1)
  have HL := Lib.hid hl
  clear h hl B1
  go_enter Tryd.func23, Tryd.ntmps23
  by_cases p0 : 0 ≤ p
  · have d0 : decide (0 ≤ p) = true := decide_eq_true p0
    by_cases p1 : p < (N : Int)
    · have d1 : decide (p < (N : Int)) = true := decide_eq_true p1
      obtain ⟨i, rfl⟩ : ∃ i : Nat, p = (i : Int) := ⟨p.toNat, by omega⟩
      have hi : i < N := by omega
      obtain ⟨ad1, ad2, c1, c2, o⟩ := HR.out.op i hi
      have q0 := o.q0
      have q1 := o.q1
      have x0 := o.x0
      have b0 := o.b0
      clear o
      have e : hasB ps (i : Int) t = ((plc ps i).f1 && ((plc ps i).f0 == t)) := by
        rcases Nat.lt_or_ge i ps.length with hh | hh
        · exact hasB_at hh
        · have e1 : plc ps i = z108 := by simp [plc, show ps.length ≤ i from hh]
          unfold hasB
          rw [e1]
          have : decide ((i : Int) < (ps.length : Int)) = false := decide_eq_false (by omega)
          rw [this]
          simp [z108]
      rw [e]
      generalize plc ps i = x at *
      obtain ⟨x0', x1'⟩ := x
      cases x1'
      · go_wp2_with (fail)
        go_quiet (fail)
        have D := Lib.hid (pw_below_drewN HB1.out nq)
        go_wp2
        go_ret
        exact ⟨rfl, D.out⟩
      · go_wp2_with (fail)
        go_quiet (fail)
        have D := Lib.hid (pw_below_drewN HB1.out nq)
        go_wp2
        go_ret
        exact ⟨rfl, D.out⟩
    · have d1 : decide (p < (N : Int)) = false := decide_eq_false p1
      obtain ⟨A, c, q1⟩ := HR.out.len
      have e : hasB ps p t = false := by
        unfold hasB
        have : decide (p < (ps.length : Int)) = false := decide_eq_false (by have := HL.out; omega)
        rw [this, Bool.false_and, Bool.and_false]
      rw [e]
      go_wp2_with (fail)
      go_quiet (fail)
      have D := Lib.hid (pw_below_drewN HB1.out nq)
      go_wp2
      go_ret
      exact ⟨rfl, D.out⟩
  · have d0 : decide (0 ≤ p) = false := decide_eq_false p0
    have e : hasB ps p t = false := by
      unfold hasB
      rw [d0, Bool.false_and]
    rw [e]
    go_wp2_with (fail)
    go_quiet (fail)
    have D := Lib.hid (pw_below_drewN HB1.out nq)
    go_wp2
    go_ret
    exact ⟨rfl, D.out⟩
set_option maxHeartbeats 4000000 in
set_option maxRecDepth 100000 in
theorem rfree_no (r base N : Nat) (ps : List S108) (p t : Int) (w : World) (h : RP w base r ps N) (hl : ps.length ≤ N) (hh : hasB ps p t = false) : Calls Tryd.prog 24 #[.pointer (some ⟨r, 0, none⟩), .agg #[.int .i64 p, .int .i64 t]] w fun e w' => e = .returned (.bool false) ∧ Below w.heap.size w w' := by
  have B1 := below_alloc (Below.refl w.heap.size w) (.cells #[.int .i64 p, .int .i64 t] 40)
  have HB1 := Lib.hid B1
  have HR := Lib.hid (h.below B1)
  have HL := Lib.hid hl
  have HH := Lib.hid hh
  clear h hl hh B1
  go_enter Tryd.func24, Tryd.ntmps24
  go_wp2_with (fail)
  go_at_call 23
  (with_reducible refine (rhas_calls r base N ps p t _ HR.out HL.out).mono ?_)
  rintro e w2 ⟨rfl, hb⟩
  rw [HH.out]
  have HB2 := Lib.hid (below_step HB1.out hb)
  clear hb
  go_wp2
  go_ret
  exact ⟨rfl, HB2.out⟩
set_option maxHeartbeats 4000000 in
set_option maxRecDepth 100000 in
theorem rfree_yes (r base N : Nat) (ps : List S108) (i : Nat) (t : Int) (w : World) (h : RP w base r ps N) (hl : ps.length ≤ N) (hi : i < ps.length) (hh : hasB ps (i : Int) t = true) : Calls Tryd.prog 24 #[.pointer (some ⟨r, 0, none⟩), .agg #[.int .i64 (i : Int), .int .i64 t]] w fun e w' => e = .returned (.bool true) ∧ RP w' base r (freed ps i) N ∧ Fd base w w' := by
  have B1 := below_alloc (Below.refl w.heap.size w) (.cells #[.int .i64 (i : Int), .int .i64 t] 40)
  have hn := heap_alloc_new w (.cells #[.int .i64 (i : Int), .int .i64 t] 40)
  have HN := Lib.hid hn
  have HBW := Lib.hid h.lt
  have HB1 := Lib.hid B1
  have HR := Lib.hid (h.below B1)
  have HL := Lib.hid hl
  have HH := Lib.hid hh
  have HI := Lib.hid hi
  clear h hl hh B1 hi hn
  go_enter Tryd.func24, Tryd.ntmps24
  go_wp2_with (fail)
  go_at_call 23
  (with_reducible refine (rhas_calls r base N ps (i : Int) t _ HR.out HL.out).mono ?_)
  rintro e w2 ⟨rfl, hb⟩
  rw [HH.out]
  have hn2 := blk_below HN.out hb
  have k0 := (blk_cell hn2 0).trans (show _ = some (Value.int .i64 (i : Int)) from rfl)
  have HB2 := Lib.hid (below_step HB1.out hb)
  have HR2 := Lib.hid (HR.out.below hb)
  clear hb hn2 HR HB1 HN HH
  obtain ⟨ad1, ad2, c1, c2, o⟩ := HR2.out.op i (by have := HL.out; have := HI.out; omega)
  have q1 := o.q1
  have b0 := o.b0
  have z0 := o.z0
  have HP := Lib.hid (o.putB HI.out false)
  have cj : (i : Int) < (N : Int) := by have := HL.out; have := HI.out; omega
  have cj0 : (0 : Int) ≤ (i : Int) := by omega
  clear o HR2
  go_upto_region 3 with (fail)
  go_region
  have HR3 := Lib.hid (HP.out.1.below (below_drew1 (Below.refl _ _)))
  have HF3 := Lib.hid ((Fd.of_below HB2.out HBW.out).trans (HP.out.2.trans (Fd.of_below (below_drew1 (Below.refl _ _)) (Nat.le_trans HBW.out (Nat.le_trans HB2.out.size HP.out.2.1.size)))))
  clear HP HB2
  go_wp2
  go_ret
  exact ⟨rfl, HR3.out, HF3.out⟩
theorem fd_new {W W1 : World} {base : Nat} (h : Fd base W W1) (hb : base ≤ W.heap.size) (u v : Value) : Fd base W ((W1.setCell ⟨W.heap.size, 0, none⟩ u).setCell ⟨W.heap.size, 1, none⟩ v) :=
  ⟨(h.1.setCell (p := ⟨W.heap.size, 0, none⟩) hb _).setCell (p := ⟨W.heap.size, 1, none⟩) hb _, ⟨by rw [World.size_setCell, World.size_setCell]; exact h.2.1, fun k cs t fr hk ht => by
    have hlt := blk_lt hk
    rw [Below.heap_setCell _ ⟨W.heap.size, 1, none⟩ v k (by show k ≠ W.heap.size; omega), Below.heap_setCell _ ⟨W.heap.size, 0, none⟩ u k (by show k ≠ W.heap.size; omega)]
    exact h.2.2 k cs t fr hk ht⟩⟩
theorem Hn.fd {W W1 : World} {h base : Nat} {p t : Int} (hn : Hn W h p t) (hf : Fd base W W1) : Hn W1 h p t := (hf.2.2 h _ _ _ hn (by decide)).trans hn
set_option maxHeartbeats 4000000 in
set_option maxRecDepth 100000 in
theorem rtake_ok (r base N : Nat) (ps : List S108) (i : Nat) (w : World) (h : RP w base r ps N) (hN : N ≤ 10000) (hl : i ≤ ps.length) (hiN : i < N) (hf : ∀ j, j < i → (plc ps j).f1 = true) (hf2 : i < ps.length → (plc ps i).f1 = false) (ht0 : 0 ≤ turnOf ps i) (ht1 : turnOf ps i ≤ 1000000) : Calls Tryd.prog 21 #[.pointer (some ⟨r, 0, none⟩)] w fun e w' => e = .returned (.tuple #[.agg #[.int .i64 (i : Int), .int .i64 (turnOf ps i)], .bool true]) ∧ RP w' base r (tookL ps i) N ∧ Fd base w w' := by
  have B1 := below_alloc (Below.refl w.heap.size w) (.cells #[.int .i64 0, .int .i64 0] 40)
  have HN1 := Lib.hid (show Hn (w.alloc (.cells #[.int .i64 0, .int .i64 0] 40)) w.heap.size 0 0 from heap_alloc_new w _)
  have HBW := Lib.hid h.lt
  have HF1 := Lib.hid (Fd.of_below B1 h.lt)
  have HR := Lib.hid ((h.below B1).grow i hl)
  have HFT := Lib.hid hf
  have HNF := Lib.hid (show (plc (grow0 ps i) i).f1 = false by
    rw [plc_grow ps i i hl]
    rcases Nat.lt_or_ge i ps.length with hh | hh
    · exact hf2 hh
    · simp [plc, show ps.length ≤ i from hh, z108])
  have HGT := Lib.hid (fun (j : Nat) (hj : j < i) => show (plc (grow0 ps i) j).f1 = true by rw [plc_grow ps i j hl]; exact hf j hj)
  have HT0 := Lib.hid ht0; have HT1 := Lib.hid ht1
  have HL := Lib.hid hl
  clear B1 h hf hf2 hl ht0 ht1
  go_enter Tryd.func21, Tryd.ntmps21
  go_wp2_with (fail)
  generalize hW0 : w.alloc (.cells #[.int .i64 0, .int .i64 0] 40) = W0 at *
  clear hW0
  go_loopg [4] i (fun gk v4 wr => ∃ j : Nat, v4 = .int .i64 (j : Int) ∧ j ≤ i ∧ i - j ≤ gk ∧ Hid (wr = W0))
  case atStart => exact ⟨0, rfl, by omega, by omega, rfl⟩
  case round =>
    obtain ⟨j, rfl, hj, hk, HW⟩ := hrel
    have hw := HW.out
    subst hw
    obtain ⟨ad1, ad2, c1, c2, o⟩ := HR.out.op j (by omega)
    have q1 := o.q1
    have b0 := o.b0
    have cj : (j : Int) < (N : Int) := by omega
    have cj0 : (0 : Int) ≤ (j : Int) := by omega
    by_cases hlt : j < i
    · rw [HGT.out j hlt] at b0
      clear o
      have cj9 : (j : Int) ≤ 10000 := by omega
      go_wp2
      go_roundg (i - (j + 1))
      case measure => omega
      case rel => exact ⟨j + 1, by simp, by omega, by omega, rfl⟩
    · obtain rfl : j = i := by omega
      rw [HNF.out] at b0
      have z0 := o.z0
      have HP := Lib.hid (o.putB (grow0_lt HL.out) true)
      clear o hlt hk hj
      go_upto_region 6 with (fail)
      have HN2 := Lib.hid (HN1.out.fd HP.out.2)
      have HF2 := Lib.hid (HF1.out.trans HP.out.2)
      have HR2 := Lib.hid HP.out.1
      clear HP HR HN1 HF1 q1 b0 z0
      generalize wr.setCell (ad2.add j) (.bool true) = W2 at *
      have e2 : plc ((grow0 ps j).set j ⟨(plc (grow0 ps j) j).f0, true⟩) j = ⟨(plc (grow0 ps j) j).f0, true⟩ := plc_set (grow0_lt HL.out) _
      have hl2 : j < ((grow0 ps j).set j ⟨(plc (grow0 ps j) j).f0, true⟩).length := by rw [List.length_set]; exact grow0_lt HL.out
      obtain ⟨ad3, ad4, c3, c4, o⟩ := HR2.out.op j hiN
      have q0 := o.q0
      have x0 := o.x0
      have y0 := o.y0
      have HP := o.putT hl2 (turnOf ps j)
      rw [e2] at x0 HP
      have HSS : (((grow0 ps j).set j ⟨(plc (grow0 ps j) j).f0, true⟩).set j ⟨turnOf ps j, true⟩) = tookL ps j := List.set_set _
      rw [HSS] at HP
      have HP3 := Lib.hid HP
      have bt0 : 0 ≤ (plc (grow0 ps j) j).f0 + 1 := HT0.out
      have bt1 : (plc (grow0 ps j) j).f0 + 1 ≤ 1000000 := HT1.out
      have HTE : turnOf ps j = (plc (grow0 ps j) j).f0 + 1 := rfl
      have x0' : W2.cell? (ad3.add j) = some (.int .i64 (plc (grow0 ps j) j).f0) := x0
      clear HP HSS o e2 hl2 x0
      go_upto_region 7 with (fail)
      have HN3 := Lib.hid (HN2.out.fd HP3.out.2)
      have HF3 := Lib.hid (HF2.out.trans HP3.out.2)
      have HR3 := Lib.hid HP3.out.1
      clear HP3 HR2 HN2 HF2 q0 x0' y0
      rw [← HTE]
      clear HTE bt0 bt1
      generalize W2.setCell (ad3.add j) (.int .i64 (turnOf ps j)) = W3 at *
      obtain ⟨ad5, ad6, c5, c6, o⟩ := HR3.out.op j hiN
      have q0 := o.q0
      have x0 := o.x0
      rw [plc_took HL.out] at x0
      have x0' : W3.cell? (ad5.add j) = some (.int .i64 (turnOf ps j)) := x0
      clear o x0
      have z0 := (blk_cell HN3.out 0).trans (show _ = some (Value.int .i64 0) from rfl)
      have z1 := (blk_cell HN3.out 1).trans (show _ = some (Value.int .i64 0) from rfl)
      have u0 : W3.frozen? ⟨w.heap.size, 0, none⟩ = false := blk_frozen HN3.out 0
      have u1 : W3.frozen? ⟨w.heap.size, 1, none⟩ = false := blk_frozen HN3.out 1
      have HR4 := Lib.hid (HR3.out.keeps ((((Keeps.refl [40] W3).set HN3.out (by decide) 0 (.int .i64 (j : Int)))).set (blk_set HN3.out 0 _) (by decide) 1 (.int .i64 (turnOf ps j))) ⟨by decide, by decide, by decide⟩)
      have HF4 : Hid (Fd base w ((W3.setCell ⟨w.heap.size, 0, none⟩ (.int .i64 (j : Int))).setCell ⟨w.heap.size, 1, none⟩ (.int .i64 (turnOf ps j)))) := fd_new HF3.out HBW.out _ _
      have r0 := (blk_cell (blk_set (blk_set HN3.out 0 (.int .i64 (j : Int))) 1 (.int .i64 (turnOf ps j))) 0).trans (show _ = some (Value.int .i64 (j : Int)) from rfl)
      have r1 := (blk_cell (blk_set (blk_set HN3.out 0 (.int .i64 (j : Int))) 1 (.int .i64 (turnOf ps j))) 1).trans (show _ = some (Value.int .i64 (turnOf ps j)) from rfl)
      go_wp2
      exact bodyPost_ret (v := .tuple #[.agg #[.int .i64 (j : Int), .int .i64 (turnOf ps j)], .bool true]) (by simp [results, Tryd.results21, go_sem, r0, r1]) rfl ⟨rfl, HR4.out, HF4.out⟩
set_option maxHeartbeats 4000000 in
set_option maxRecDepth 100000 in
theorem rtake_full (r base N : Nat) (ps : List S108) (w : World) (h : RP w base r ps N) (hN : N ≤ 10000) (hf : ∀ j, j < N → (plc ps j).f1 = true) : Calls Tryd.prog 21 #[.pointer (some ⟨r, 0, none⟩)] w fun e w' => e = .returned (.tuple #[.agg #[.int .i64 0, .int .i64 0], .bool false]) ∧ Below w.heap.size w w' := by
  have B1 := below_alloc (Below.refl w.heap.size w) (.cells #[.int .i64 0, .int .i64 0] 40)
  have HN1 := Lib.hid (show Hn (w.alloc (.cells #[.int .i64 0, .int .i64 0] 40)) w.heap.size 0 0 from heap_alloc_new w _)
  have HR := Lib.hid (h.below B1)
  have HFT := Lib.hid hf
  have HB1 := Lib.hid B1
  clear B1 h hf
  go_enter Tryd.func21, Tryd.ntmps21
  go_wp2_with (fail)
  generalize hW0 : w.alloc (.cells #[.int .i64 0, .int .i64 0] 40) = W0 at *
  clear hW0
  go_loopg [4] N (fun gk v4 wr => ∃ j : Nat, v4 = .int .i64 (j : Int) ∧ j ≤ N ∧ N - j ≤ gk ∧ Hid (wr = W0))
  case atStart => exact ⟨0, rfl, by omega, by omega, rfl⟩
  case round =>
    obtain ⟨j, rfl, hj, hk, HW⟩ := hrel
    have hw := HW.out
    subst hw
    by_cases hlt : j < N
    · obtain ⟨ad1, ad2, c1, c2, o⟩ := HR.out.op j hlt
      have q1 := o.q1
      have b0 := o.b0
      have cj : (j : Int) < (N : Int) := by omega
      have cj0 : (0 : Int) ≤ (j : Int) := by omega
      rw [HFT.out j hlt] at b0
      clear o
      have cj9 : (j : Int) ≤ 10000 := by omega
      go_wp2
      go_roundg (N - (j + 1))
      case measure => omega
      case rel => exact ⟨j + 1, by simp, by omega, by omega, rfl⟩
    · obtain rfl : j = N := by omega
      obtain ⟨A, c, q1⟩ := HR.out.len
      clear hlt hk hj
      have z0 := (blk_cell HN1.out 0).trans (show _ = some (Value.int .i64 0) from rfl)
      have z1 := (blk_cell HN1.out 1).trans (show _ = some (Value.int .i64 0) from rfl)
      have u0 : wr.frozen? ⟨w.heap.size, 0, none⟩ = false := blk_frozen HN1.out 0
      have u1 : wr.frozen? ⟨w.heap.size, 1, none⟩ = false := blk_frozen HN1.out 1
      have HB5 : Hid (Below w.heap.size w ((wr.setCell ⟨w.heap.size, 0, none⟩ (.int .i64 0)).setCell ⟨w.heap.size, 1, none⟩ (.int .i64 0))) := (HB1.out.setCell (p := ⟨w.heap.size, 0, none⟩) (Nat.le_refl _) _).setCell (p := ⟨w.heap.size, 1, none⟩) (Nat.le_refl _) _
      have r0 := (blk_cell (blk_set (blk_set HN1.out 0 (.int .i64 0)) 1 (.int .i64 0)) 0).trans (show _ = some (Value.int .i64 0) from rfl)
      have r1 := (blk_cell (blk_set (blk_set HN1.out 0 (.int .i64 0)) 1 (.int .i64 0)) 1).trans (show _ = some (Value.int .i64 0) from rfl)
      go_wp2
      exact bodyPost_ret (v := .tuple #[.agg #[.int .i64 0, .int .i64 0], .bool false]) (by simp [results, Tryd.results21, go_sem, r0, r1]) rfl ⟨rfl, HB5.out⟩
end Go.Proofs.YtphaaagcdjpceaaDoor
