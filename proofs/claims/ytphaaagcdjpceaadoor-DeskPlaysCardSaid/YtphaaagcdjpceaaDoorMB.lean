import Derived.Test.YtphaaagcdjpceaaDoorMA
import Derived.Deep.RegionHeld3
import Derived.Deep.Slices
import Derived.Deep.Fields
import Derived.ChangeSame
namespace Go.Proofs.YtphaaagcdjpceaaDoor
open Go.RowKit Go.Extern.Stop Go.Stop Go.Extern Go.Proofs.YtphaaagcdjpceaaDoorW.PrintWords Go.Proofs.YtphaaagcdjpceaaDoorW.PrintLast Go.Proofs.YtphaaagcdjpceaaDoorW.PrintMore
set_option linter.unusedVariables false
theorem info4 : (Tryd.prog.info? 4).map (fun i => (i.zero, i.size, i.bytes)) = some (some (.bool false), 1, 1) := by kernel_rfl
theorem E4 : ∀ q, q ∈ 4 :: Kd.bool.E → q = 4 := fun q hq => by simpa [Kd.bool, Kd.scalar] using hq
abbrev BR (W : World) (base : Nat) (v : Value) (bs : List Bool) : Prop := Kd.R Kd.bool 4 W base (fun _ => True) v bs
def bat (bs : List Bool) (i : Nat) : Bool := bs.getD i false
theorem BR.fr {W W1 : World} {base b2 : Nat} {v : Value} {hs : List Bool} (h : BR W base v hs) (hf : Fr b2 W W1) : BR W1 base v hs := R_keeps h hf.2 (fun q hq => by rw [E4 q hq]; decide)
theorem BR.keeps {W W1 : World} {base : Nat} {v : Value} {hs : List Bool} (h : BR W base v hs) (hf : Keeps [40] W W1) : BR W1 base v hs := R_keeps h hf (fun q hq => by rw [E4 q hq]; decide)
theorem BR.below {W W1 : World} {base : Nat} {v : Value} {hs : List Bool} (h : BR W base v hs) (hb : Below W.heap.size W W1) : BR W1 base v hs := Kd.R_below h hb
theorem HR.keeps {W W1 : World} {base : Nat} {v : Value} {hs : List S40} (h : HR W base v hs) (hf : Keeps [4] W W1) : HR W1 base v hs := R_keeps h hf (fun q hq => by rw [E40 q hq]; decide)
theorem below_app4 {wr w8 : World} {base : Nat} {v : Value} {xs : List Bool} (hr : BR wr base v xs) (hb : base ≤ wr.heap.size) (hg : wr.grownBy w8 v.ownBlock) : Below base wr w8 := pw_below_grown (Below.refl base wr) _ hb hg (fun k hk => by
    rcases Kd.R_base2 hr with h | ⟨q, h, hq⟩
    · rw [h] at hk; cases hk
    · rw [h] at hk; injection hk with hk; omega)
structure OpB (W : World) (base : Nat) (bs : List Bool) (i : Nat) (ad : Addr) (c : Nat) : Prop where
  x0 : W.cell? (ad.add i) = some (.bool (bat bs i))
  y0 : W.frozen? (ad.add i) = false
  put : ∀ t, BR (W.setCell (ad.add i) (.bool t)) base (.slice (some ad) bs.length c) (bs.set i t) ∧ Below base W (W.setCell (ad.add i) (.bool t)) ∧ Keeps [4] W (W.setCell (ad.add i) (.bool t))
theorem BR.form {W : World} {base : Nat} {v : Value} {hs : List Bool} (h : BR W base v hs) (hp : 0 < hs.length) : ∃ ad c, v = .slice (some ad) hs.length c := by
  obtain ⟨g, c, hv, _⟩ := Kd.R_form h hp
  exact ⟨_, c, hv⟩
theorem BR.op {W : World} {base : Nat} {ad : Addr} {c : Nat} {bs : List Bool} (h : BR W base (.slice (some ad) bs.length c) bs) (i : Nat) (hi : i < bs.length) : OpB W base bs i ad c := by
  obtain ⟨gb, c', hv, hgb, _, cur, hcur⟩ := Kd.R_form h (by omega)
  injection hv with ha _ hc
  injection ha with ha
  subst ha
  subst hc
  obtain ⟨hl, hc, hC⟩ := Kd.R_reads' h
  obtain ⟨ad, e, hx⟩ := Kd.at_bool hC (i : Int) (by omega) (by omega)
  cases e
  have e1 : (bs.getD i false) = bat bs i := rfl
  constructor
  · have : W.cell? (Addr.add ⟨gb, 0, none⟩ i) = _ := hx
    rw [this]
    simp [bat, rdOf]
  · rw [add0_]; exact blk_frozen hcur _
  · intro t
    rw [add0_]
    have h1 := Kd.R_putn h (i : Int) t
    exact ⟨h1, (Below.refl base W).setCell (p := ⟨gb, i, none⟩) hgb _, (Keeps.refl [4] W).set hcur (by decide) _ _⟩
def ff (ps : List S108) : Nat := ps.findIdx (fun x => !x.f1)
theorem ff_le (ps : List S108) : ff ps ≤ ps.length := List.findIdx_le_length
theorem ff_tk {ps : List S108} {j : Nat} (h : j < ff ps) : (plc ps j).f1 = true := by
  have hl := ff_le ps
  have := List.not_of_lt_findIdx h
  have e : plc ps j = ps[j]'(by omega) := by simp [plc, show j < ps.length by omega]
  rw [e]
  simpa using this
theorem ff_no {ps : List S108} (h : ff ps < ps.length) : (plc ps (ff ps)).f1 = false := by
  have := List.findIdx_getElem (p := fun x : S108 => !x.f1) (xs := ps) (w := h)
  have e : plc ps (ff ps) = ps[ff ps]'h := by simp [plc, h]
  rw [e]
  simp at this
  exact this
def cnt (ps : List S108) : Nat := ps.countP (fun x => x.f1)
theorem cnt_le (ps : List S108) : cnt ps ≤ ps.length := List.countP_le_length
theorem cnt_set {ps : List S108} {i : Nat} (h : i < ps.length) (x : S108) : cnt (ps.set i x) = (cnt ps - if (plc ps i).f1 = true then 1 else 0) + if x.f1 = true then 1 else 0 := by
  unfold cnt
  rw [List.countP_set h]
  simp [plc, h]
theorem cnt_pos {ps : List S108} {i : Nat} (h : i < ps.length) (ht : (plc ps i).f1 = true) : 1 ≤ cnt ps := by
  have : 0 < ps.countP (fun x => x.f1) := List.countP_pos_iff.2 ⟨ps[i], List.getElem_mem _, by simpa [plc, h] using ht⟩
  exact this
theorem cnt_grow (ps : List S108) (i : Nat) : cnt (grow0 ps i) = cnt ps := by
  unfold grow0 cnt
  split
  · rfl
  · simp [List.countP_append]
theorem cnt_took {ps : List S108} (i : Nat) (hi : i ≤ ps.length) (h : i < ps.length → (plc ps i).f1 = false) : cnt (tookL ps i) = cnt ps + 1 := by
  unfold tookL
  rw [cnt_set (grow0_lt hi), cnt_grow]
  have : (plc (grow0 ps i) i).f1 = false := by
    rcases Nat.lt_or_ge i ps.length with hl | hl
    · rw [grow0_in hl]; exact h hl
    · obtain rfl : i = ps.length := by omega
      rw [grow0_out, plc_last]
  rw [this]
  simp
theorem cnt_freed {ps : List S108} {i : Nat} (h : i < ps.length) (ht : (plc ps i).f1 = true) : cnt (freed ps i) = cnt ps - 1 := by
  unfold freed
  rw [cnt_set h, ht]
  simp
theorem took_len {ps : List S108} {i : Nat} (hi : i ≤ ps.length) : (tookL ps i).length = if i < ps.length then ps.length else ps.length + 1 := by
  unfold tookL grow0
  split <;> simp
theorem plc_took {ps : List S108} {i : Nat} (hi : i ≤ ps.length) : plc (tookL ps i) i = ⟨turnOf ps i, true⟩ := plc_set (grow0_lt hi) _
theorem plc_took_ne {ps : List S108} {i k : Nat} (hk : i ≠ k) (hl : k < ps.length) : plc (tookL ps i) k = plc ps k := by
  unfold tookL
  rw [plc_set_ne hk]
  unfold grow0
  split
  · rfl
  · exact plc_snoc _ hl
structure Unl (ps : List S108) (hs : List S40) (bs : List Bool) (m c : Nat) : Prop where
  lb : bs.length = hs.length
  lc : hs.length ≤ c
  lp : ps.length ≤ m
  tb : ∀ k, k < ps.length → 0 ≤ (plc ps k).f0 ∧ (plc ps k).f0 ≤ c
  pl : ∀ k, k < hs.length → ∃ p : Nat, (hat hs k).f0 = (p : Int) ∧ p < ps.length ∧ (hat hs k).f1 ≤ (plc ps p).f0
  th : ∀ k, k < hs.length → bat bs k = hasB ps (hat hs k).f0 (hat hs k).f1
  ne : ∀ j k, j < k → k < hs.length → ¬ ((hat hs j).f0 = (hat hs k).f0 ∧ (hat hs j).f1 = (hat hs k).f1)
theorem Unl.zero (m : Nat) : Unl [] [] [] m 0 := ⟨rfl, Nat.le_refl _, Nat.zero_le _, fun k h => absurd h (Nat.not_lt_zero _), fun k h => absurd h (Nat.not_lt_zero _), fun k h => absurd h (Nat.not_lt_zero _), fun j k _ h => absurd h (Nat.not_lt_zero _)⟩
theorem hasB_at {ps : List S108} {p : Nat} {t : Int} (hp : p < ps.length) : hasB ps (p : Int) t = ((plc ps p).f1 && ((plc ps p).f0 == t)) := by
  unfold hasB
  rw [Int.toNat_natCast]
  simp [hp]
theorem Unl.up {ps : List S108} {hs : List S40} {bs : List Bool} {m c : Nat} (h : Unl ps hs bs m c) : Unl ps hs bs m (c + 1) := ⟨h.lb, by have := h.lc; omega, h.lp, fun k hk => by have := h.tb k hk; omega, h.pl, h.th, h.ne⟩
theorem Unl.old {ps : List S108} {hs : List S40} {bs : List Bool} {m c : Nat} (h : Unl ps hs bs m c) {i : Nat} {k : Nat} (hk : k < hs.length) (he : (hat hs k).f0 = (i : Int)) : i < ps.length ∧ (hat hs k).f1 < turnOf ps i := by
  obtain ⟨p, h1, h2, h3⟩ := h.pl k hk
  obtain rfl : p = i := by omega
  exact ⟨h2, by rw [turnOf_in h2]; omega⟩
theorem Unl.bound {ps : List S108} {hs : List S40} {bs : List Bool} {m c : Nat} (h : Unl ps hs bs m c) {i : Nat} (hi : i ≤ ps.length) : 0 ≤ turnOf ps i ∧ turnOf ps i ≤ c + 1 := by
  rcases Nat.lt_or_ge i ps.length with hl | hl
  · rw [turnOf_in hl]
    have := h.tb i hl
    omega
  · obtain rfl : i = ps.length := by omega
    rw [turnOf_out]
    omega
theorem Unl.take {ps : List S108} {hs : List S40} {bs : List Bool} {m c : Nat} (h : Unl ps hs bs m c) {i : Nat} (hi : i ≤ ps.length) (hf : i < ps.length → (plc ps i).f1 = false) (hm : i < m) : Unl (tookL ps i) (hs ++ [⟨(i : Int), turnOf ps i⟩]) (bs ++ [true]) m (c + 1) := by
  have hlen : (tookL ps i).length = if i < ps.length then ps.length else ps.length + 1 := took_len hi
  have hge : ps.length ≤ (tookL ps i).length ∧ i < (tookL ps i).length ∧ (tookL ps i).length ≤ m := by
    have := h.lp
    rw [hlen]
    split <;> omega
  have hb := h.bound hi
  have hold : ∀ k, k < hs.length → hasB (tookL ps i) (hat hs k).f0 (hat hs k).f1 = hasB ps (hat hs k).f0 (hat hs k).f1 := by
    intro k hk
    obtain ⟨p, h1, h2, h3⟩ := h.pl k hk
    rw [h1, hasB_at h2, hasB_at (by omega)]
    rcases Nat.decEq i p with hne | rfl
    · rw [plc_took_ne hne h2]
    · rw [plc_took hi, hf h2]
      have := (h.old hk h1).2
      have e : ((turnOf ps i) == (hat hs k).f1) = false := by
        have : turnOf ps i ≠ (hat hs k).f1 := by omega
        simpa using this
      show (true && ((turnOf ps i) == (hat hs k).f1)) = _
      rw [e]
      rfl
  refine ⟨by simp [h.lb], by have := h.lc; simp; omega, hge.2.2, ?_, ?_, ?_, ?_⟩
  · intro k hk
    rcases Nat.decEq i k with hne | rfl
    · have hk2 : k < ps.length := by
        rw [hlen] at hk
        split at hk <;> omega
      rw [plc_took_ne hne hk2]
      have := h.tb k hk2
      omega
    · rw [plc_took hi]
      show 0 ≤ turnOf ps i ∧ turnOf ps i ≤ ((c + 1 : Nat) : Int)
      omega
  · intro k hk
    rw [List.length_append, List.length_singleton] at hk
    rcases Nat.lt_or_ge k hs.length with hk2 | hk2
    · rw [hat_snoc _ hk2]
      obtain ⟨p, h1, h2, h3⟩ := h.pl k hk2
      refine ⟨p, h1, by omega, ?_⟩
      rcases Nat.decEq i p with hne | rfl
      · rw [plc_took_ne hne h2]; exact h3
      · rw [plc_took hi]
        have := (h.old hk2 h1).2
        show (hat hs k).f1 ≤ turnOf ps i
        omega
    · obtain rfl : k = hs.length := by omega
      rw [hat_last]
      exact ⟨i, rfl, hge.2.1, by rw [plc_took hi]; exact Int.le_refl _⟩
  · intro k hk
    rw [List.length_append, List.length_singleton] at hk
    rcases Nat.lt_or_ge k hs.length with hk2 | hk2
    · rw [hat_snoc _ hk2, hold k hk2, ← h.th k hk2]
      simp [bat, List.getElem?_append_left (show k < bs.length by rw [h.lb]; exact hk2)]
    · obtain rfl : k = hs.length := by omega
      rw [hat_last]
      show _ = hasB (tookL ps i) (i : Int) (turnOf ps i)
      rw [hasB_at hge.2.1, plc_took hi]
      simp [bat, ← h.lb]
  · intro j k hjk hk
    rw [List.length_append, List.length_singleton] at hk
    rcases Nat.lt_or_ge k hs.length with hk2 | hk2
    · rw [hat_snoc _ hk2, hat_snoc _ (by omega)]
      exact h.ne j k hjk hk2
    · obtain rfl : k = hs.length := by omega
      rw [hat_last, hat_snoc _ hjk]
      rintro ⟨e1, e2⟩
      have := (h.old hjk e1).2
      simp at e2
      omega
theorem Unl.free {ps : List S108} {hs : List S40} {bs : List Bool} {m c : Nat} (h : Unl ps hs bs m c) {k p : Nat} (hk : k < hs.length) (hp : (hat hs k).f0 = (p : Int)) (hpl : p < ps.length) (ht : bat bs k = true) : Unl (freed ps p) hs (bs.set k false) m (c + 1) := by
  have hth := h.th k hk
  rw [ht, hp, hasB_at hpl] at hth
  have hth2 : (plc ps p).f1 = true ∧ (plc ps p).f0 = (hat hs k).f1 := by
    have := hth.symm
    simpa using this
  refine ⟨by simp [h.lb], by have := h.lc; omega, by rw [freed_len]; exact h.lp, ?_, ?_, ?_, h.ne⟩
  · intro q hq
    rw [freed_len] at hq
    have := h.tb q hq
    rcases Nat.decEq p q with hne | rfl
    · rw [plc_freed_ne hne]; omega
    · rw [plc_freed hpl]
      show 0 ≤ (plc ps p).f0 ∧ (plc ps p).f0 ≤ ((c + 1 : Nat) : Int)
      omega
  · intro j hj
    obtain ⟨q, h1, h2, h3⟩ := h.pl j hj
    refine ⟨q, h1, by rw [freed_len]; exact h2, ?_⟩
    rcases Nat.decEq p q with hne | rfl
    · rw [plc_freed_ne hne]; exact h3
    · rw [plc_freed hpl]; exact h3
  · intro j hj
    obtain ⟨q, h1, h2, h3⟩ := h.pl j hj
    have hthj := h.th j hj
    rw [h1, hasB_at h2] at hthj
    rw [h1, hasB_at (by rw [freed_len]; exact h2)]
    rcases Nat.decEq p q with hne | rfl
    · rw [plc_freed_ne hne, ← hthj]
      have hkj : k ≠ j := by
        rintro rfl
        omega
      simp [bat, List.getElem?_set_ne hkj]
    · rw [plc_freed hpl]
      show _ = (false && _)
      rw [Bool.false_and]
      rcases Nat.decEq k j with hkj | rfl
      · have e : bat (bs.set k false) j = bat bs j := by simp [bat, List.getElem?_set_ne hkj]
        rw [e, hthj]
        have : ((plc ps p).f0 == (hat hs j).f1) = false := by
          have : (plc ps p).f0 ≠ (hat hs j).f1 := by
            intro he
            rw [hth2.2] at he
            rcases Nat.lt_or_ge k j with hlt | hge
            · exact h.ne k j hlt hj ⟨by omega, he⟩
            · exact h.ne j k (by omega) hk ⟨by omega, he.symm⟩
          simpa using this
        rw [this, Bool.and_false]
      · simp [bat, show k < bs.length by rw [h.lb]; exact hk]
end Go.Proofs.YtphaaagcdjpceaaDoor
namespace Go.Proofs.YtphaaagcdjpceaaDoor
open Go.RowKit Go.Extern.Stop Go.Stop Go.Extern Go.Proofs.YtphaaagcdjpceaaDoorW.PrintWords Go.Proofs.YtphaaagcdjpceaaDoorW.PrintLast Go.Proofs.YtphaaagcdjpceaaDoorW.PrintMore
set_option linter.unusedVariables false
theorem info3 : (Tryd.prog.info? 3).map (fun i => (i.zero, i.size, i.bytes)) = some (some (.int .i64 0), 1, 8) := by kernel_rfl
theorem E3 : ∀ q, q ∈ 3 :: (Kd.int .i64).E → q = 3 := fun q hq => by simpa [Kd.int, Kd.scalar] using hq
abbrev TR (W : World) (base : Nat) (v : Value) (ts : List Int) : Prop := Kd.R (Kd.int .i64) 3 W base (fun _ => True) v ts
def tat (ts : List Int) (i : Nat) : Int := ts.getD i 0
structure OpT (W : World) (base : Nat) (ts : List Int) (i : Nat) (ad : Addr) (c : Nat) : Prop where
  x0 : W.cell? (ad.add i) = some (.int .i64 (tat ts i))
  y0 : W.frozen? (ad.add i) = false
  put : ∀ t, TR (W.setCell (ad.add i) (.int .i64 t)) base (.slice (some ad) ts.length c) (ts.set i t) ∧ Below base W (W.setCell (ad.add i) (.int .i64 t)) ∧ Keeps [3] W (W.setCell (ad.add i) (.int .i64 t))
theorem TR.form {W : World} {base : Nat} {v : Value} {hs : List Int} (h : TR W base v hs) (hp : 0 < hs.length) : ∃ ad c, v = .slice (some ad) hs.length c := by
  obtain ⟨g, c, hv, _⟩ := Kd.R_form h hp
  exact ⟨_, c, hv⟩
theorem TR.op {W : World} {base : Nat} {ad : Addr} {c : Nat} {ts : List Int} (h : TR W base (.slice (some ad) ts.length c) ts) (i : Nat) (hi : i < ts.length) : OpT W base ts i ad c := by
  obtain ⟨gb, c', hv, hgb, _, cur, hcur⟩ := Kd.R_form h (by omega)
  injection hv with ha _ hc
  injection ha with ha
  subst ha
  subst hc
  obtain ⟨hl, hc, hC⟩ := Kd.R_reads' h
  obtain ⟨ad, e, hx⟩ := Kd.at_int hC (i : Int) (by omega) (by omega)
  cases e
  constructor
  · have : W.cell? (Addr.add ⟨gb, 0, none⟩ i) = _ := hx
    rw [this]
    simp [tat, rd]
  · rw [add0_]; exact blk_frozen hcur _
  · intro t
    rw [add0_]
    have h1 := Kd.R_putn h (i : Int) t
    exact ⟨h1, (Below.refl base W).setCell (p := ⟨gb, i, none⟩) hgb _, (Keeps.refl [3] W).set hcur (by decide) _ _⟩
theorem TR.keeps {W W1 : World} {base : Nat} {v : Value} {hs : List Int} (h : TR W base v hs) {T : List Nat} (hf : Keeps T W W1) (hT : 3 ∉ T) : TR W1 base v hs := R_keeps h hf (fun q hq => by rw [E3 q hq]; exact hT)
theorem BR.keepsT {W W1 : World} {base : Nat} {v : Value} {hs : List Bool} (h : BR W base v hs) {T : List Nat} (hf : Keeps T W W1) (hT : 4 ∉ T) : BR W1 base v hs := R_keeps h hf (fun q hq => by rw [E4 q hq]; exact hT)
theorem HR.keepsT {W W1 : World} {base : Nat} {v : Value} {hs : List S40} (h : HR W base v hs) {T : List Nat} (hf : Keeps T W W1) (hT : 40 ∉ T) : HR W1 base v hs := R_keeps h hf (fun q hq => by rw [E40 q hq]; exact hT)
theorem St.keepsT {w W W1 : World} {g : Nat} {most : Int} {ps : List S108} {n : Int} (h : St w W g most ps n) (hb : Below w.heap.size W W1) {T : List Nat} (hk : Keeps T W W1) (hT : 106 ∉ T ∧ 108 ∉ T) : St w W1 g most ps n := ⟨h.pl.keeps hk hT, h.bl.trans hb⟩
def RP (W : World) (base r : Nat) (ps : List S108) (N : Nat) : Prop := base ≤ r ∧ ∃ A1 c1 A2 c2 ts bs, W.heap[r]? = some (Obj.cells #[.slice A1 N c1, .slice A2 N c2] 111 (0, 0)) ∧ TR W base (.slice A1 N c1) ts ∧ BR W base (.slice A2 N c2) bs ∧ ts.length = N ∧ bs.length = N ∧ ∀ k, k < N → tat ts k = (plc ps k).f0 ∧ bat bs k = (plc ps k).f1
theorem RP.below {W W1 : World} {base r N : Nat} {ps : List S108} (h : RP W base r ps N) (hb : Below W.heap.size W W1) : RP W1 base r ps N := by
  obtain ⟨h0, A1, c1, A2, c2, ts, bs, h1, h2, h3, h4⟩ := h
  exact ⟨h0, A1, c1, A2, c2, ts, bs, blk_below h1 hb, Kd.R_below h2 hb, Kd.R_below h3 hb, h4⟩
theorem RP.keeps {W W1 : World} {base r N : Nat} {ps : List S108} (h : RP W base r ps N) {T : List Nat} (hk : Keeps T W W1) (hT : 111 ∉ T ∧ 3 ∉ T ∧ 4 ∉ T) : RP W1 base r ps N := by
  obtain ⟨h0, A1, c1, A2, c2, ts, bs, h1, h2, h3, h4⟩ := h
  exact ⟨h0, A1, c1, A2, c2, ts, bs, (hk.2 _ _ _ _ h1 hT.1).trans h1, h2.keeps hk hT.2.1, h3.keepsT hk hT.2.2, h4⟩
theorem RP.lt {W : World} {base r N : Nat} {ps : List S108} (h : RP W base r ps N) : base ≤ W.heap.size := by
  obtain ⟨h0, A1, c1, A2, c2, ts, bs, h1, _⟩ := h
  have := blk_lt h1
  omega
def Fd (base : Nat) (W W1 : World) : Prop := Below base W W1 ∧ Keeps [3, 4, 111] W W1
theorem Fd.of_below {base : Nat} {W W1 : World} (h : Below W.heap.size W W1) (hb : base ≤ W.heap.size) : Fd base W W1 := ⟨h.mono hb, Keeps.below h⟩
theorem Fd.trans {base : Nat} {W W1 W2 : World} (h : Fd base W W1) (h2 : Fd base W1 W2) : Fd base W W2 := ⟨h.1.trans h2.1, h.2.trans h2.2⟩
theorem made3 (W : World) (base : Nat) (m : Nat) (hb : base ≤ W.heap.size) (hm : m ≤ 10000) : TR (W.alloc (.cells (madeCells #[.int .i64 0] m) 3)) base (.slice (some ⟨W.heap.size, 0, none⟩) m m) (List.replicate m 0) :=
  Kd.R_of_own (by rw [List.length_replicate]; exact own_made_of (enc := Value.int .i64) (d := 0) W base 3 m hb (by omega)) (fun _ _ => trivial)
theorem made4 (W : World) (base : Nat) (m : Nat) (hb : base ≤ W.heap.size) (hm : m ≤ 10000) : BR (W.alloc (.cells (madeCells #[.bool false] m) 4)) base (.slice (some ⟨W.heap.size, 0, none⟩) m m) (List.replicate m false) :=
  Kd.R_of_own (by rw [List.length_replicate]; exact own_made_of (enc := Value.bool) (d := false) W base 4 m hb (by omega)) (fun _ _ => trivial)
theorem plc_nil (k : Nat) : plc [] k = z108 := by simp [plc]
theorem bat_rep (N k : Nat) : bat (List.replicate N false) k = false := by
  rcases Nat.lt_or_ge k N with h | h <;> simp [bat, h]
theorem tat_rep (N k : Nat) : tat (List.replicate N 0) k = 0 := by
  rcases Nat.lt_or_ge k N with h | h <;> simp [tat, h]
theorem rp_made1 (w : World) (N : Nat) (hN : N ≤ 10000) : RP (((w.alloc (.cells (madeCells #[.int .i64 0] N) 3)).alloc (.cells (madeCells #[.bool false] N) 4)).alloc (.cells #[.slice (some ⟨w.heap.size, 0, none⟩) N N, .slice (some ⟨w.heap.size + 1, 0, none⟩) N N] 111)).drew w.heap.size (w.heap.size + 1 + 1) [] N ∧ Below w.heap.size w (((w.alloc (.cells (madeCells #[.int .i64 0] N) 3)).alloc (.cells (madeCells #[.bool false] N) 4)).alloc (.cells #[.slice (some ⟨w.heap.size, 0, none⟩) N N, .slice (some ⟨w.heap.size + 1, 0, none⟩) N N] 111)).drew := by
  have m3 := made3 w w.heap.size N (Nat.le_refl _) hN
  have m4 := made4 (w.alloc (.cells (madeCells #[.int .i64 0] N) 3)) w.heap.size N (by simp) hN
  rw [World.size_alloc] at m4
  have hn := heap_alloc_new ((w.alloc (.cells (madeCells #[.int .i64 0] N) 3)).alloc (.cells (madeCells #[.bool false] N) 4)) (.cells #[.slice (some ⟨w.heap.size, 0, none⟩) N N, .slice (some ⟨w.heap.size + 1, 0, none⟩) N N] 111)
  rw [World.size_alloc, World.size_alloc] at hn
  have B := below_alloc (below_alloc (below_alloc (Below.refl w.heap.size w) (.cells (madeCells #[.int .i64 0] N) 3)) (.cells (madeCells #[.bool false] N) 4)) (.cells #[.slice (some ⟨w.heap.size, 0, none⟩) N N, .slice (some ⟨w.heap.size + 1, 0, none⟩) N N] 111)
  refine ⟨RP.below ?_ (below_drew1 (Below.refl _ _)), below_drew1 B⟩
  exact ⟨by omega, _, _, _, _, _, _, hn, Kd.R_alloc (Kd.R_alloc m3 _) _, Kd.R_alloc m4 _, by simp, by simp, fun k _ => by rw [tat_rep, bat_rep, plc_nil]; exact ⟨rfl, rfl⟩⟩
theorem rp_made2 (w : World) (N : Nat) (hN : N ≤ 10000) : RP (((w.alloc (.cells (madeCells #[.bool false] N) 4)).alloc (.cells (madeCells #[.int .i64 0] N) 3)).alloc (.cells #[.slice (some ⟨w.heap.size + 1, 0, none⟩) N N, .slice (some ⟨w.heap.size, 0, none⟩) N N] 111)).drew w.heap.size (w.heap.size + 1 + 1) [] N ∧ Below w.heap.size w (((w.alloc (.cells (madeCells #[.bool false] N) 4)).alloc (.cells (madeCells #[.int .i64 0] N) 3)).alloc (.cells #[.slice (some ⟨w.heap.size + 1, 0, none⟩) N N, .slice (some ⟨w.heap.size, 0, none⟩) N N] 111)).drew := by
  have m4 := made4 w w.heap.size N (Nat.le_refl _) hN
  have m3 := made3 (w.alloc (.cells (madeCells #[.bool false] N) 4)) w.heap.size N (by simp) hN
  rw [World.size_alloc] at m3
  have hn := heap_alloc_new ((w.alloc (.cells (madeCells #[.bool false] N) 4)).alloc (.cells (madeCells #[.int .i64 0] N) 3)) (.cells #[.slice (some ⟨w.heap.size + 1, 0, none⟩) N N, .slice (some ⟨w.heap.size, 0, none⟩) N N] 111)
  rw [World.size_alloc, World.size_alloc] at hn
  have B := below_alloc (below_alloc (below_alloc (Below.refl w.heap.size w) (.cells (madeCells #[.bool false] N) 4)) (.cells (madeCells #[.int .i64 0] N) 3)) (.cells #[.slice (some ⟨w.heap.size + 1, 0, none⟩) N N, .slice (some ⟨w.heap.size, 0, none⟩) N N] 111)
  refine ⟨RP.below ?_ (below_drew1 (Below.refl _ _)), below_drew1 B⟩
  exact ⟨by omega, _, _, _, _, _, _, hn, Kd.R_alloc m3 _, Kd.R_alloc (Kd.R_alloc m4 _) _, by simp, by simp, fun k _ => by rw [tat_rep, bat_rep, plc_nil]; exact ⟨rfl, rfl⟩⟩
set_option maxHeartbeats 4000000 in
set_option maxRecDepth 100000 in
theorem newref_calls (a : Int) (N : Nat) (hN : min (max a 0) 10000 = (N : Int)) (w : World) : Calls Tryd.prog 20 #[.int .i64 a] w fun e w' => ∃ r, e = .returned (.pointer (some ⟨r, 0, none⟩)) ∧ RP w' w.heap.size r [] N ∧ Below w.heap.size w w' := by
  have hN1 : N ≤ 10000 := by omega
  have mk3 := run_make_row' (P := Tryd.prog) 35 3 (.int .i64 0) 8 Tryd.underlying35 info3 rfl .i64 .i64 N (by omega) (by omega)
  have mk4 := run_make_row' (P := Tryd.prog) 54 4 (.bool false) 1 Tryd.underlying54 info4 rfl .i64 .i64 N (by omega) (by omega)
  have HM1 := Lib.hid (rp_made1 w N hN1)
  have HM2 := Lib.hid (rp_made2 w N hN1)
  go_enter Tryd.func20, Tryd.ntmps20
  go_upto_region 2 with (fail)
  have HN := Lib.hid hN
  clear hN
  go_region
  · go_wp2
    go_ret
    exact ⟨_, rfl, HM1.out⟩
  · go_wp2
    go_ret
    exact ⟨_, rfl, HM2.out⟩
structure OpR (W : World) (base r : Nat) (ps : List S108) (N k : Nat) (ad1 ad2 : Addr) (c1 c2 : Nat) : Prop where
  q0 : W.cell? ⟨r, 0, none⟩ = some (.slice (some ad1) N c1)
  q1 : W.cell? ⟨r, 1, none⟩ = some (.slice (some ad2) N c2)
  x0 : W.cell? (ad1.add k) = some (.int .i64 (plc ps k).f0)
  b0 : W.cell? (ad2.add k) = some (.bool (plc ps k).f1)
  y0 : W.frozen? (ad1.add k) = false
  z0 : W.frozen? (ad2.add k) = false
  putT : k < ps.length → ∀ t, RP (W.setCell (ad1.add k) (.int .i64 t)) base r (ps.set k ⟨t, (plc ps k).f1⟩) N ∧ Fd base W (W.setCell (ad1.add k) (.int .i64 t))
  putB : k < ps.length → ∀ t, RP (W.setCell (ad2.add k) (.bool t)) base r (ps.set k ⟨(plc ps k).f0, t⟩) N ∧ Fd base W (W.setCell (ad2.add k) (.bool t))
theorem RP.op {W : World} {base r N : Nat} {ps : List S108} (h : RP W base r ps N) (k : Nat) (hk : k < N) : ∃ ad1 ad2 c1 c2, OpR W base r ps N k ad1 ad2 c1 c2 := by
  obtain ⟨h0, A1, c1, A2, c2, ts, bs, h1, h2, h3, l1, l2, h4⟩ := h
  subst l1
  obtain ⟨ad1, c1', hv⟩ := TR.form h2 (by omega)
  injection hv with e1 _ e2
  subst e1 e2
  have h3' := h3
  rw [← l2] at h3'
  obtain ⟨ad2, c2', hv⟩ := BR.form h3' (by omega)
  injection hv with e1 _ e2
  subst e1 e2
  have o1 := TR.op h2 k hk
  have o2 := BR.op h3' k (by omega)
  have hh := h4 k hk
  refine ⟨ad1, ad2, c1, c2, ?_⟩
  constructor
  · exact (blk_cell h1 0).trans rfl
  · exact (blk_cell h1 1).trans rfl
  · rw [← hh.1]; exact o1.x0
  · rw [← hh.2]; exact o2.x0
  · exact o1.y0
  · exact o2.y0
  · intro hkl t
    obtain ⟨p1, p2, p3⟩ := o1.put t
    refine ⟨⟨h0, some ad1, c1, some ad2, c2, ts.set k t, bs, (p3.2 _ _ _ _ h1 (by decide)).trans h1, p1, h3.keepsT p3 (by decide), List.length_set, l2, ?_⟩, p2, p3.mono (fun q hq => by simp at hq; subst hq; decide)⟩
    intro j hj
    have hjj := h4 j hj
    rcases Nat.decEq k j with hne | rfl
    · rw [plc_set_ne hne]
      exact ⟨by rw [← hjj.1]; simp [tat, List.getElem?_set_ne hne], hjj.2⟩
    · rw [plc_set hkl]
      exact ⟨by simp [tat, hk], hjj.2⟩
  · intro hkl t
    obtain ⟨p1, p2, p3⟩ := o2.put t
    rw [l2] at p1
    refine ⟨⟨h0, some ad1, c1, some ad2, c2, ts, bs.set k t, (p3.2 _ _ _ _ h1 (by decide)).trans h1, h2.keeps p3 (by decide), p1, rfl, by rw [List.length_set]; exact l2, ?_⟩, p2, p3.mono (fun q hq => by simp at hq; subst hq; decide)⟩
    intro j hj
    have hjj := h4 j hj
    rcases Nat.decEq k j with hne | rfl
    · rw [plc_set_ne hne]
      exact ⟨hjj.1, by rw [← hjj.2]; simp [bat, List.getElem?_set_ne hne]⟩
    · rw [plc_set hkl]
      exact ⟨hjj.1, by simp [bat, show k < bs.length by omega]⟩
theorem RP.len {W : World} {base r N : Nat} {ps : List S108} (h : RP W base r ps N) : ∃ A c, W.cell? ⟨r, 1, none⟩ = some (.slice A N c) := by
  obtain ⟨h0, A1, c1, A2, c2, ts, bs, h1, _⟩ := h
  exact ⟨_, _, (blk_cell h1 1).trans rfl⟩
theorem plc_grow (ps : List S108) (i k : Nat) (h : i ≤ ps.length) : plc (grow0 ps i) k = plc ps k := by
  unfold grow0
  split
  · rfl
  · rcases Nat.lt_or_ge k ps.length with hk | hk
    · exact plc_snoc _ hk
    · rcases Nat.decEq k ps.length with hne | rfl
      · have h1 : plc ps k = z108 := by simp [plc, show ps.length ≤ k from hk]
        have h2 : plc (ps ++ [⟨0, false⟩]) k = z108 := by simp [plc, List.getElem?_append_right hk, show k - ps.length ≠ 0 by omega]
        rw [h1, h2]
      · rw [plc_last]
        simp [plc, z108]
theorem RP.grow {W : World} {base r N : Nat} {ps : List S108} (h : RP W base r ps N) (i : Nat) (hi : i ≤ ps.length) : RP W base r (grow0 ps i) N := by
  obtain ⟨h0, A1, c1, A2, c2, ts, bs, h1, h2, h3, l1, l2, h4⟩ := h
  exact ⟨h0, A1, c1, A2, c2, ts, bs, h1, h2, h3, l1, l2, fun k hk => by rw [plc_grow ps i k hi]; exact h4 k hk⟩
def cto (ps : List S108) (j : Nat) : Nat := (ps.take j).countP (fun x => x.f1)
set_option maxHeartbeats 4000000 in
set_option maxRecDepth 100000 in
theorem rhas_calls (r base N : Nat) (ps : List S108) (p t : Int) (w : World) (h : RP w base r ps N) (hl : ps.length ≤ N) : Calls Tryd.prog 23 #[.pointer (some ⟨r, 0, none⟩), .agg #[.int .i64 p, .int .i64 t]] w fun e w' => e = .returned (.bool (hasB ps p t)) ∧ Below w.heap.size w w' := by
  have B1 := below_alloc (Below.refl w.heap.size w) (.cells #[.int .i64 p, .int .i64 t] 40)
  have HB1 := Lib.hid B1
  have HR := Lib.hid (h.below B1)
  have HL := Lib.hid hl
  clear h hl B1
  go_enter Tryd.func23, Tryd.ntmps23
  by_cases p0 : 0 ≤ p
  · have d0 : decide (0 ≤ p) = true := decide_eq_true p0
    by_cases p1 : p < (N : Int)
    · have d1 : decide (p < (N : Int)) = true := decide_eq_true p1
      obtain ⟨i, rfl⟩ : ∃ i : Nat, p = (i : Int) := ⟨p.toNat, by omega⟩
      have hi : i < N := by omega
      obtain ⟨ad1, ad2, c1, c2, o⟩ := HR.out.op i hi
      have q0 := o.q0
      have q1 := o.q1
      have x0 := o.x0
      have b0 := o.b0
      clear o
      have e : hasB ps (i : Int) t = ((plc ps i).f1 && ((plc ps i).f0 == t)) := by
        rcases Nat.lt_or_ge i ps.length with hh | hh
        · exact hasB_at hh
        · have e1 : plc ps i = z108 := by simp [plc, show ps.length ≤ i from hh]
          unfold hasB
          rw [e1]
          have : decide ((i : Int) < (ps.length : Int)) = false := decide_eq_false (by omega)
          rw [this]
          simp [z108]
      rw [e]
      generalize plc ps i = x at *
      obtain ⟨x0', x1'⟩ := x
      cases x1'
      · go_wp2_with (fail)
        go_quiet (fail)
        have D := Lib.hid (pw_below_drewN HB1.out nq)
        go_wp2
        go_ret
        exact ⟨rfl, D.out⟩
      · go_wp2_with (fail)
        go_quiet (fail)
        have D := Lib.hid (pw_below_drewN HB1.out nq)
        go_wp2
        go_ret
        exact ⟨rfl, D.out⟩
    · have d1 : decide (p < (N : Int)) = false := decide_eq_false p1
      obtain ⟨A, c, q1⟩ := HR.out.len
      have e : hasB ps p t = false := by
        unfold hasB
        have : decide (p < (ps.length : Int)) = false := decide_eq_false (by have := HL.out; omega)
        rw [this, Bool.false_and, Bool.and_false]
      rw [e]
      go_wp2_with (fail)
      go_quiet (fail)
      have D := Lib.hid (pw_below_drewN HB1.out nq)
      go_wp2
      go_ret
      exact ⟨rfl, D.out⟩
  · have d0 : decide (0 ≤ p) = false := decide_eq_false p0
    have e : hasB ps p t = false := by
      unfold hasB
      rw [d0, Bool.false_and]
    rw [e]
    go_wp2_with (fail)
    go_quiet (fail)
    have D := Lib.hid (pw_below_drewN HB1.out nq)
    go_wp2
    go_ret
    exact ⟨rfl, D.out⟩
theorem fd_new {W W1 : World} {base : Nat} (h : Fd base W W1) (hb : base ≤ W.heap.size) (u v : Value) : Fd base W ((W1.setCell ⟨W.heap.size, 0, none⟩ u).setCell ⟨W.heap.size, 1, none⟩ v) :=
  ⟨(h.1.setCell (p := ⟨W.heap.size, 0, none⟩) hb _).setCell (p := ⟨W.heap.size, 1, none⟩) hb _, ⟨by rw [World.size_setCell, World.size_setCell]; exact h.2.1, fun k cs t fr hk ht => by
    have hlt := blk_lt hk
    rw [Below.heap_setCell _ ⟨W.heap.size, 1, none⟩ v k (by show k ≠ W.heap.size; omega), Below.heap_setCell _ ⟨W.heap.size, 0, none⟩ u k (by show k ≠ W.heap.size; omega)]
    exact h.2.2 k cs t fr hk ht⟩⟩
theorem Hn.fd {W W1 : World} {h base : Nat} {p t : Int} (hn : Hn W h p t) (hf : Fd base W W1) : Hn W1 h p t := (hf.2.2 h _ _ _ hn (by decide)).trans hn
set_option maxHeartbeats 4000000 in
set_option maxRecDepth 100000 in
theorem rtake_full (r base N : Nat) (ps : List S108) (w : World) (h : RP w base r ps N) (hN : N ≤ 10000) (hf : ∀ j, j < N → (plc ps j).f1 = true) : Calls Tryd.prog 21 #[.pointer (some ⟨r, 0, none⟩)] w fun e w' => e = .returned (.tuple #[.agg #[.int .i64 0, .int .i64 0], .bool false]) ∧ Below w.heap.size w w' := by
  have B1 := below_alloc (Below.refl w.heap.size w) (.cells #[.int .i64 0, .int .i64 0] 40)
  have HN1 := Lib.hid (show Hn (w.alloc (.cells #[.int .i64 0, .int .i64 0] 40)) w.heap.size 0 0 from heap_alloc_new w _)
  have HR := Lib.hid (h.below B1)
  have HFT := Lib.hid hf
  have HB1 := Lib.hid B1
  clear B1 h hf
  go_enter Tryd.func21, Tryd.ntmps21
  go_wp2_with (fail)
  generalize hW0 : w.alloc (.cells #[.int .i64 0, .int .i64 0] 40) = W0 at *
  clear hW0
  go_loopg [4] N (fun gk v4 wr => ∃ j : Nat, v4 = .int .i64 (j : Int) ∧ j ≤ N ∧ N - j ≤ gk ∧ Hid (wr = W0))
  case atStart => exact ⟨0, rfl, by omega, by omega, rfl⟩
  case round =>
    obtain ⟨j, rfl, hj, hk, HW⟩ := hrel
    have hw := HW.out
    subst hw
    by_cases hlt : j < N
    · obtain ⟨ad1, ad2, c1, c2, o⟩ := HR.out.op j hlt
      have q1 := o.q1
      have b0 := o.b0
      have cj : (j : Int) < (N : Int) := by omega
      have cj0 : (0 : Int) ≤ (j : Int) := by omega
      rw [HFT.out j hlt] at b0
      clear o
      have cj9 : (j : Int) ≤ 10000 := by omega
      go_wp2
      go_roundg (N - (j + 1))
      case measure => omega
      case rel => exact ⟨j + 1, by simp, by omega, by omega, rfl⟩
    · obtain rfl : j = N := by omega
      obtain ⟨A, c, q1⟩ := HR.out.len
      clear hlt hk hj
      have z0 := (blk_cell HN1.out 0).trans (show _ = some (Value.int .i64 0) from rfl)
      have z1 := (blk_cell HN1.out 1).trans (show _ = some (Value.int .i64 0) from rfl)
      have u0 : wr.frozen? ⟨w.heap.size, 0, none⟩ = false := blk_frozen HN1.out 0
      have u1 : wr.frozen? ⟨w.heap.size, 1, none⟩ = false := blk_frozen HN1.out 1
      have HB5 : Hid (Below w.heap.size w ((wr.setCell ⟨w.heap.size, 0, none⟩ (.int .i64 0)).setCell ⟨w.heap.size, 1, none⟩ (.int .i64 0))) := (HB1.out.setCell (p := ⟨w.heap.size, 0, none⟩) (Nat.le_refl _) _).setCell (p := ⟨w.heap.size, 1, none⟩) (Nat.le_refl _) _
      have r0 := (blk_cell (blk_set (blk_set HN1.out 0 (.int .i64 0)) 1 (.int .i64 0)) 0).trans (show _ = some (Value.int .i64 0) from rfl)
      have r1 := (blk_cell (blk_set (blk_set HN1.out 0 (.int .i64 0)) 1 (.int .i64 0)) 1).trans (show _ = some (Value.int .i64 0) from rfl)
      go_wp2
      exact bodyPost_ret (v := .tuple #[.agg #[.int .i64 0, .int .i64 0], .bool false]) (by simp [results, Tryd.results21, go_sem, r0, r1]) rfl ⟨rfl, HB5.out⟩
end Go.Proofs.YtphaaagcdjpceaaDoor
namespace Go.Proofs.YtphaaagcdjpceaaDoor
open Go.RowKit Go.Extern.Stop Go.Stop Go.Extern Go.Proofs.YtphaaagcdjpceaaDoorW.PrintWords Go.Proofs.YtphaaagcdjpceaaDoorW.PrintLast Go.Proofs.YtphaaagcdjpceaaDoorW.PrintMore
set_option linter.unusedVariables false
def InHands (w : World) (a : Option Addr) (len cap : Nat) (zs : List Int) : Prop :=
  ∀ i, i < len → ∃ x p t, a = some x ∧ w.cell? (x.add (i * 2)) = some (.int .i64 p) ∧ w.cell? ⟨(x.add (i * 2)).block, (x.add (i * 2)).off + 1, none⟩ = some (.int .i64 t) ∧ -9223372036854775808 ≤ p ∧ p ≤ 9223372036854775807
theorem InHands.below {w W : World} {a : Option Addr} {len cap : Nat} {zs : List Int} (h : InHands w a len cap zs) (hb : Below w.heap.size w W) : InHands W a len cap zs := fun i hi => by
  obtain ⟨x, p, t, h1, h2, h3, h4⟩ := h i hi
  exact ⟨x, p, t, h1, (hb.cell (cell_lt h2)).trans h2, (hb.cell (cell_lt h3)).trans h3, h4⟩
abbrev HRl (W : World) (base M : Nat) (v : Value) (hs : List S40) : Prop := Kd.R k40 40 W base (fun k => k < M) v hs
theorem HRl.of {W : World} {base : Nat} {v : Value} {hs : List S40} (h : HR W base v hs) : HRl W base W.heap.size v hs := Kd.R_mono (Kd.R_bound h) (fun _ hk => hk.2.2.1)
theorem HRl.hr {W : World} {base M : Nat} {v : Value} {hs : List S40} (h : HRl W base M v hs) : HR W base v hs := Kd.R_mono h (fun _ _ => trivial)
theorem HRl.below {W W1 : World} {base M : Nat} {v : Value} {hs : List S40} (h : HRl W base M v hs) (hb : Below W.heap.size W W1) : HRl W1 base M v hs := Kd.R_below h hb
theorem HRl.set {W : World} {base M b j : Nat} {v u : Value} {hs : List S40} (h : HRl W base M v hs) (hb : M ≤ b) : HRl (W.setCell ⟨b, j, none⟩ u) base M v hs := Kd.R_move h (fun k hk => Below.heap_setCell W ⟨b, j, none⟩ u k (by show k ≠ b; omega))
structure Js (w0 wr wc : World) (g z1 r N h0 : Nat) (ps : List S108) (hs : List S40) (v : Value) (p t : Int) : Prop where
  hn : Hn wc h0 p t
  st : St w0 wc g (N : Int) ps (cnt ps : Int)
  rp : RP wc z1 r ps N
  hr : HRl wc w0.heap.size h0 v hs
  bl : Below h0 wr wc
theorem Js.set {w0 wr wc : World} {g z1 r N h0 : Nat} {ps : List S108} {hs : List S40} {v : Value} {p t : Int} (h : Js w0 wr wc g z1 r N h0 ps hs v p t) (hw : w0.heap.size ≤ h0) (p1 t1 : Int) : Js w0 wr ((wc.setCell ⟨h0, 0, none⟩ (.int .i64 p1)).setCell ⟨h0, 1, none⟩ (.int .i64 t1)) g z1 r N h0 ps hs v p1 t1 := by
  have h1 := blk_set h.hn 0 (.int .i64 p1)
  have hk := ((Keeps.refl [40] wc).set h.hn (by decide) 0 (.int .i64 p1)).set h1 (by decide) 1 (.int .i64 t1)
  have hb := ((Below.refl h0 wc).setCell (p := ⟨h0, 0, none⟩) (Nat.le_refl _) (.int .i64 p1)).setCell (p := ⟨h0, 1, none⟩) (Nat.le_refl _) (.int .i64 t1)
  exact ⟨blk_set h1 1 (.int .i64 t1), h.st.keepsT (hb.mono hw) hk ⟨by decide, by decide⟩, h.rp.keeps hk ⟨by decide, by decide, by decide⟩, (h.hr.set (Nat.le_refl _)).set (Nat.le_refl _), h.bl.trans hb⟩
theorem Js.of {w0 wr wa : World} {g z1 r N : Nat} {ps : List S108} {hs : List S40} {v : Value} (hs0 : St w0 wr g (N : Int) ps (cnt ps : Int)) (hr : RP wr z1 r ps N) (hv : HR wr w0.heap.size v hs) (p t : Int) (hn : Hn wa wr.heap.size p t) (hb : Below wr.heap.size wr wa) : Js w0 wr wa g z1 r N wr.heap.size ps hs v p t :=
  ⟨hn, hs0.below hb, hr.below hb, (HRl.of hv).below hb, hb⟩
structure Ply (ps : List S108) (hs : List S40) (N c : Nat) : Prop where
  lp : ps.length ≤ N
  lc : ps.length ≤ c
  lh : hs.length ≤ c
  tb : ∀ k, k < ps.length → 0 ≤ (plc ps k).f0 ∧ (plc ps k).f0 ≤ c
  hb : ∀ k, k < hs.length → 0 ≤ (hat hs k).f0 ∧ (hat hs k).f0 ≤ 1000
theorem Ply.zero (N : Nat) : Ply [] [] N 0 := ⟨Nat.zero_le _, Nat.le_refl _, Nat.le_refl _, fun k h => absurd h (Nat.not_lt_zero _), fun k h => absurd h (Nat.not_lt_zero _)⟩
theorem Ply.up {ps : List S108} {hs : List S40} {N c : Nat} (h : Ply ps hs N c) : Ply ps hs N (c + 1) := ⟨h.lp, by have := h.lc; omega, by have := h.lh; omega, fun k hk => by have := h.tb k hk; omega, h.hb⟩
theorem Ply.bound {ps : List S108} {hs : List S40} {N c : Nat} (h : Ply ps hs N c) {i : Nat} (hi : i ≤ ps.length) : 0 ≤ turnOf ps i ∧ turnOf ps i ≤ c + 1 := by
  rcases Nat.lt_or_ge i ps.length with hl | hl
  · rw [turnOf_in hl]
    have := h.tb i hl
    omega
  · obtain rfl : i = ps.length := by omega
    rw [turnOf_out]
    omega
theorem Ply.snoc {ps : List S108} {hs : List S40} {N c : Nat} (h : Ply ps hs N c) (p t : Int) (hp : 0 ≤ p ∧ p ≤ 1000) : Ply ps (hs ++ [⟨p, t⟩]) N (c + 1) := by
  have hu := h.up
  refine ⟨hu.lp, hu.lc, by have := h.lh; simp; omega, hu.tb, ?_⟩
  intro k hk
  rw [List.length_append, List.length_singleton] at hk
  rcases Nat.lt_or_ge k hs.length with hk2 | hk2
  · rw [hat_snoc _ hk2]; exact h.hb k hk2
  · obtain rfl : k = hs.length := by omega
    rw [hat_last]; exact hp
theorem Ply.took {ps : List S108} {hs : List S40} {N c : Nat} (h : Ply ps hs N c) {i : Nat} (hi : i ≤ ps.length) (hN : i < N) : Ply (tookL ps i) hs N (c + 1) := by
  have hlen : (tookL ps i).length = if i < ps.length then ps.length else ps.length + 1 := took_len hi
  have hb := h.bound hi
  have h1 := h.lp; have h2 := h.lc; have h3 := h.lh
  refine ⟨by rw [hlen]; split <;> omega, by rw [hlen]; split <;> omega, by omega, ?_, h.hb⟩
  intro k hk
  rcases Nat.decEq i k with hne | rfl
  · have hk2 : k < ps.length := by
      rw [hlen] at hk
      split at hk <;> omega
    rw [plc_took_ne hne hk2]
    have := h.tb k hk2
    omega
  · rw [plc_took hi]
    show 0 ≤ turnOf ps i ∧ turnOf ps i ≤ ((c + 1 : Nat) : Int)
    omega
theorem Ply.took2 {ps : List S108} {hs : List S40} {N c : Nat} (h : Ply ps hs N c) {i : Nat} (hi : i ≤ ps.length) (hN : i < N) (hc : c ≤ 100) : Ply (tookL ps i) (hs ++ [⟨(i : Int), turnOf ps i⟩]) N (c + 1) := by
  have h1 := h.took hi hN
  have h2 := h.snoc (i : Int) (turnOf ps i) (by have := h.lc; omega)
  exact ⟨h1.lp, h1.lc, h2.lh, h1.tb, h2.hb⟩
theorem Ply.freed {ps : List S108} {hs : List S40} {N c : Nat} (h : Ply ps hs N c) {i : Nat} (hi : i < ps.length) : Ply (freed ps i) hs N (c + 1) := by
  have hu := h.up
  refine ⟨by rw [freed_len]; exact hu.lp, by rw [freed_len]; exact hu.lc, hu.lh, ?_, hu.hb⟩
  intro k hk
  rw [freed_len] at hk
  have := hu.tb k hk
  rcases Nat.decEq i k with hne | rfl
  · rw [plc_freed_ne hne]; exact this
  · rw [plc_freed hi]; exact this
theorem hasB_lt {ps : List S108} {p t : Int} (h : hasB ps p t = true) : ∃ i : Nat, p = (i : Int) ∧ i < ps.length ∧ (plc ps i).f1 = true := by
  unfold hasB at h
  simp only [Bool.and_eq_true, decide_eq_true_eq] at h
  obtain ⟨h0, h1, h2, _⟩ := h
  exact ⟨p.toNat, by omega, by omega, h2⟩
end Go.Proofs.YtphaaagcdjpceaaDoor
namespace Go.Proofs.YtphaaagcdjpceaaDoor
open Go.RowKit Go.Extern.Stop Go.Stop Go.Extern Go.Proofs.YtphaaagcdjpceaaDoorW.PrintWords Go.Proofs.YtphaaagcdjpceaaDoorW.PrintLast Go.Proofs.YtphaaagcdjpceaaDoorW.PrintMore
set_option linter.unusedVariables false
def bk (W : World) (r j : Nat) : Option Nat := (W.cell? ⟨r, j, none⟩).bind Value.ownBlock
theorem bk_same {W W1 : World} {r : Nat} (h : W1.heap[r]? = W.heap[r]?) (j : Nat) : bk W1 r j = bk W r j := by
  unfold bk
  rw [World.cell?_of_block (a := ⟨r, j, none⟩) h]
structure Fe (base r : Nat) (W W1 : World) : Prop where
  fd : Fd base W W1
  blk : ∀ k, k < W.heap.size → some k ≠ bk W r 0 → some k ≠ bk W r 1 → W1.heap[k]? = W.heap[k]?
  b0 : bk W1 r 0 = bk W r 0
  b1 : bk W1 r 1 = bk W r 1
theorem Fe.of_below {base r : Nat} {W W1 : World} (h : Below W.heap.size W W1) (hb : base ≤ W.heap.size) (hr : r < W.heap.size) : Fe base r W W1 := ⟨Fd.of_below h hb, fun k hk _ _ => h.block k hk, bk_same (h.block r hr) 0, bk_same (h.block r hr) 1⟩
theorem Fe.trans {base r : Nat} {W W1 W2 : World} (h : Fe base r W W1) (h2 : Fe base r W1 W2) : Fe base r W W2 :=
  ⟨h.fd.trans h2.fd, fun k hk k0 k1 => (h2.blk k (Nat.lt_of_lt_of_le hk h.fd.1.size) (by rw [h.b0]; exact k0) (by rw [h.b1]; exact k1)).trans (h.blk k hk k0 k1), h2.b0.trans h.b0, h2.b1.trans h.b1⟩
theorem RP.rlt {W : World} {base r N : Nat} {ps : List S108} (h : RP W base r ps N) : r < W.heap.size := by
  obtain ⟨h0, A1, c1, A2, c2, ts, bs, h1, _⟩ := h
  exact blk_lt h1
theorem RP.ne {W : World} {base r N : Nat} {ps : List S108} (h : RP W base r ps N) : some r ≠ bk W r 0 ∧ some r ≠ bk W r 1 := by
  obtain ⟨h0, A1, c1, A2, c2, ts, bs, h1, h2, h3, _⟩ := h
  have e0 : bk W r 0 = (Value.slice A1 N c1).ownBlock := by unfold bk; rw [(blk_cell h1 0).trans (show _ = some (Value.slice A1 N c1) from rfl)]; rfl
  have e1 : bk W r 1 = (Value.slice A2 N c2).ownBlock := by unfold bk; rw [(blk_cell h1 1).trans (show _ = some (Value.slice A2 N c2) from rfl)]; rfl
  rw [e0, e1]
  exact ⟨Kd.R_ne h2 h1 (by decide), Kd.R_ne h3 h1 (by decide)⟩
theorem Fe.cell {W : World} {base r N j : Nat} {ps : List S108} {ad : Addr} {k c : Nat} {u : Value} (h : RP W base r ps N) (hq : W.cell? ⟨r, j, none⟩ = some (.slice (some ad) N c)) (hj : j = 0 ∨ j = 1) (hf : Fd base W (W.setCell (ad.add k) u)) : Fe base r W (W.setCell (ad.add k) u) := by
  have e : bk W r j = some ad.block := by unfold bk; rw [hq]; rfl
  have hne : r ≠ ad.block := by
    intro he
    rcases hj with rfl | rfl
    · exact h.ne.1 (by rw [e, he])
    · exact h.ne.2 (by rw [e, he])
  have hs : ∀ i, i ≠ ad.block → (W.setCell (ad.add k) u).heap[i]? = W.heap[i]? := fun i hi => Below.heap_setCell W (ad.add k) u i (by
    have e2 : (ad.add k).block = ad.block := by cases ad with | mk b o s => (simp only [Addr.add]; split <;> rfl)
    rw [e2]; exact hi)
  refine ⟨hf, fun i hi k0 k1 => hs i (fun he => ?_), bk_same (hs r hne) 0, bk_same (hs r hne) 1⟩
  rcases hj with rfl | rfl
  · exact k0 (by rw [e, he])
  · exact k1 (by rw [e, he])
theorem Fe.putT {W : World} {base r N k : Nat} {ps : List S108} {ad1 ad2 : Addr} {c1 c2 : Nat} (h : RP W base r ps N) (o : OpR W base r ps N k ad1 ad2 c1 c2) (hk : k < ps.length) (t : Int) : Fe base r W (W.setCell (ad1.add k) (.int .i64 t)) := Fe.cell h o.q0 (.inl rfl) (o.putT hk t).2
theorem Fe.putB {W : World} {base r N k : Nat} {ps : List S108} {ad1 ad2 : Addr} {c1 c2 : Nat} (h : RP W base r ps N) (o : OpR W base r ps N k ad1 ad2 c1 c2) (hk : k < ps.length) (t : Bool) : Fe base r W (W.setCell (ad2.add k) (.bool t)) := Fe.cell h o.q1 (.inr rfl) (o.putB hk t).2
theorem fe_new {W W1 : World} {base r : Nat} (h : Fe base r W W1) (hb : base ≤ W.heap.size) (hr : r < W.heap.size) (u v : Value) : Fe base r W ((W1.setCell ⟨W.heap.size, 0, none⟩ u).setCell ⟨W.heap.size, 1, none⟩ v) := by
  have hs : ∀ i, i ≠ W.heap.size → ((W1.setCell ⟨W.heap.size, 0, none⟩ u).setCell ⟨W.heap.size, 1, none⟩ v).heap[i]? = W1.heap[i]? := fun i hi => (Below.heap_setCell _ ⟨W.heap.size, 1, none⟩ v i hi).trans (Below.heap_setCell W1 ⟨W.heap.size, 0, none⟩ u i hi)
  exact ⟨fd_new h.fd hb u v, fun k hk k0 k1 => (hs k (by omega)).trans (h.blk k hk k0 k1), (bk_same (hs r (by omega)) 0).trans h.b0, (bk_same (hs r (by omega)) 1).trans h.b1⟩
set_option maxHeartbeats 4000000 in
set_option maxRecDepth 100000 in
theorem rfree_q (r base N : Nat) (ps : List S108) (i : Nat) (t : Int) (w : World) (h : RP w base r ps N) (hl : ps.length ≤ N) (hi : i < ps.length) (hh : hasB ps (i : Int) t = true) : Calls Tryd.prog 24 #[.pointer (some ⟨r, 0, none⟩), .agg #[.int .i64 (i : Int), .int .i64 t]] w fun e w' => e = .returned (.bool true) ∧ RP w' base r (freed ps i) N ∧ Fe base r w w' := by
  have B1 := below_alloc (Below.refl w.heap.size w) (.cells #[.int .i64 (i : Int), .int .i64 t] 40)
  have hn := heap_alloc_new w (.cells #[.int .i64 (i : Int), .int .i64 t] 40)
  have HN := Lib.hid hn
  have HBW := Lib.hid h.lt
  have HRL := Lib.hid h.rlt
  have HB1 := Lib.hid B1
  have HR := Lib.hid (h.below B1)
  have HL := Lib.hid hl
  have HH := Lib.hid hh
  have HI := Lib.hid hi
  clear h hl hh B1 hi hn
  go_enter Tryd.func24, Tryd.ntmps24
  go_wp2_with (fail)
  go_at_call 23
  (with_reducible refine (rhas_calls r base N ps (i : Int) t _ HR.out HL.out).mono ?_)
  rintro e w2 ⟨rfl, hb⟩
  rw [HH.out]
  have hn2 := blk_below HN.out hb
  have k0 := (blk_cell hn2 0).trans (show _ = some (Value.int .i64 (i : Int)) from rfl)
  have HB2 := Lib.hid (below_step HB1.out hb)
  have HR2 := Lib.hid (HR.out.below hb)
  clear hb hn2 HR HB1 HN HH
  obtain ⟨ad1, ad2, c1, c2, o⟩ := HR2.out.op i (by have := HL.out; have := HI.out; omega)
  have q1 := o.q1
  have b0 := o.b0
  have z0 := o.z0
  have HP := Lib.hid (And.intro (o.putB HI.out false).1 (Fe.putB HR2.out o HI.out false))
  have cj : (i : Int) < (N : Int) := by have := HL.out; have := HI.out; omega
  have cj0 : (0 : Int) ≤ (i : Int) := by omega
  clear o HR2
  go_upto_region 3 with (fail)
  go_region
  have HR3 := Lib.hid (HP.out.1.below (below_drew1 (Below.refl _ _)))
  have HF3 := Lib.hid ((Fe.of_below HB2.out HBW.out HRL.out).trans (HP.out.2.trans (Fe.of_below (below_drew1 (Below.refl _ _)) (Nat.le_trans HBW.out (Nat.le_trans HB2.out.size HP.out.2.fd.1.size)) (Nat.lt_of_lt_of_le HRL.out (Nat.le_trans HB2.out.size HP.out.2.fd.1.size)))))
  clear HP HB2
  go_wp2
  go_ret
  exact ⟨rfl, HR3.out, HF3.out⟩
set_option maxHeartbeats 4000000 in
set_option maxRecDepth 100000 in
theorem rtake_q (r base N : Nat) (ps : List S108) (i : Nat) (w : World) (h : RP w base r ps N) (hN : N ≤ 10000) (hl : i ≤ ps.length) (hiN : i < N) (hf : ∀ j, j < i → (plc ps j).f1 = true) (hf2 : i < ps.length → (plc ps i).f1 = false) (ht0 : 0 ≤ turnOf ps i) (ht1 : turnOf ps i ≤ 1000000) : Calls Tryd.prog 21 #[.pointer (some ⟨r, 0, none⟩)] w fun e w' => e = .returned (.tuple #[.agg #[.int .i64 (i : Int), .int .i64 (turnOf ps i)], .bool true]) ∧ RP w' base r (tookL ps i) N ∧ Fe base r w w' := by
  have B1 := below_alloc (Below.refl w.heap.size w) (.cells #[.int .i64 0, .int .i64 0] 40)
  have HN1 := Lib.hid (show Hn (w.alloc (.cells #[.int .i64 0, .int .i64 0] 40)) w.heap.size 0 0 from heap_alloc_new w _)
  have HBW := Lib.hid h.lt
  have HRL := Lib.hid h.rlt
  have HF1 := Lib.hid (Fe.of_below B1 h.lt h.rlt)
  have HR := Lib.hid ((h.below B1).grow i hl)
  have HFT := Lib.hid hf
  have HNF := Lib.hid (show (plc (grow0 ps i) i).f1 = false by
    rw [plc_grow ps i i hl]
    rcases Nat.lt_or_ge i ps.length with hh | hh
    · exact hf2 hh
    · simp [plc, show ps.length ≤ i from hh, z108])
  have HGT := Lib.hid (fun (j : Nat) (hj : j < i) => show (plc (grow0 ps i) j).f1 = true by rw [plc_grow ps i j hl]; exact hf j hj)
  have HT0 := Lib.hid ht0; have HT1 := Lib.hid ht1
  have HL := Lib.hid hl
  clear B1 h hf hf2 hl ht0 ht1
  go_enter Tryd.func21, Tryd.ntmps21
  go_wp2_with (fail)
  generalize hW0 : w.alloc (.cells #[.int .i64 0, .int .i64 0] 40) = W0 at *
  clear hW0
  go_loopg [4] i (fun gk v4 wr => ∃ j : Nat, v4 = .int .i64 (j : Int) ∧ j ≤ i ∧ i - j ≤ gk ∧ Hid (wr = W0))
  case atStart => exact ⟨0, rfl, by omega, by omega, rfl⟩
  case round =>
    obtain ⟨j, rfl, hj, hk, HW⟩ := hrel
    have hw := HW.out
    subst hw
    obtain ⟨ad1, ad2, c1, c2, o⟩ := HR.out.op j (by omega)
    have q1 := o.q1
    have b0 := o.b0
    have cj : (j : Int) < (N : Int) := by omega
    have cj0 : (0 : Int) ≤ (j : Int) := by omega
    by_cases hlt : j < i
    · rw [HGT.out j hlt] at b0
      clear o
      have cj9 : (j : Int) ≤ 10000 := by omega
      go_wp2
      go_roundg (i - (j + 1))
      case measure => omega
      case rel => exact ⟨j + 1, by simp, by omega, by omega, rfl⟩
    · obtain rfl : j = i := by omega
      rw [HNF.out] at b0
      have z0 := o.z0
      have HP := Lib.hid (And.intro (o.putB (grow0_lt HL.out) true).1 (Fe.putB HR.out o (grow0_lt HL.out) true))
      clear o hlt hk hj
      go_upto_region 6 with (fail)
      have HN2 := Lib.hid (HN1.out.fd HP.out.2.fd)
      have HF2 := Lib.hid (HF1.out.trans HP.out.2)
      have HR2 := Lib.hid HP.out.1
      clear HP HR HN1 HF1 q1 b0 z0
      generalize wr.setCell (ad2.add j) (.bool true) = W2 at *
      have e2 : plc ((grow0 ps j).set j ⟨(plc (grow0 ps j) j).f0, true⟩) j = ⟨(plc (grow0 ps j) j).f0, true⟩ := plc_set (grow0_lt HL.out) _
      have hl2 : j < ((grow0 ps j).set j ⟨(plc (grow0 ps j) j).f0, true⟩).length := by rw [List.length_set]; exact grow0_lt HL.out
      obtain ⟨ad3, ad4, c3, c4, o⟩ := HR2.out.op j hiN
      have q0 := o.q0
      have x0 := o.x0
      have y0 := o.y0
      have HP := And.intro (o.putT hl2 (turnOf ps j)).1 (Fe.putT HR2.out o hl2 (turnOf ps j))
      rw [e2] at x0 HP
      have HSS : (((grow0 ps j).set j ⟨(plc (grow0 ps j) j).f0, true⟩).set j ⟨turnOf ps j, true⟩) = tookL ps j := List.set_set _
      rw [HSS] at HP
      have HP3 := Lib.hid HP
      have bt0 : 0 ≤ (plc (grow0 ps j) j).f0 + 1 := HT0.out
      have bt1 : (plc (grow0 ps j) j).f0 + 1 ≤ 1000000 := HT1.out
      have HTE : turnOf ps j = (plc (grow0 ps j) j).f0 + 1 := rfl
      have x0' : W2.cell? (ad3.add j) = some (.int .i64 (plc (grow0 ps j) j).f0) := x0
      clear HP HSS o e2 hl2 x0
      go_upto_region 7 with (fail)
      have HN3 := Lib.hid (HN2.out.fd HP3.out.2.fd)
      have HF3 := Lib.hid (HF2.out.trans HP3.out.2)
      have HR3 := Lib.hid HP3.out.1
      clear HP3 HR2 HN2 HF2 q0 x0' y0
      rw [← HTE]
      clear HTE bt0 bt1
      generalize W2.setCell (ad3.add j) (.int .i64 (turnOf ps j)) = W3 at *
      obtain ⟨ad5, ad6, c5, c6, o⟩ := HR3.out.op j hiN
      have q0 := o.q0
      have x0 := o.x0
      rw [plc_took HL.out] at x0
      have x0' : W3.cell? (ad5.add j) = some (.int .i64 (turnOf ps j)) := x0
      clear o x0
      have z0 := (blk_cell HN3.out 0).trans (show _ = some (Value.int .i64 0) from rfl)
      have z1 := (blk_cell HN3.out 1).trans (show _ = some (Value.int .i64 0) from rfl)
      have u0 : W3.frozen? ⟨w.heap.size, 0, none⟩ = false := blk_frozen HN3.out 0
      have u1 : W3.frozen? ⟨w.heap.size, 1, none⟩ = false := blk_frozen HN3.out 1
      have HR4 := Lib.hid (HR3.out.keeps ((((Keeps.refl [40] W3).set HN3.out (by decide) 0 (.int .i64 (j : Int)))).set (blk_set HN3.out 0 _) (by decide) 1 (.int .i64 (turnOf ps j))) ⟨by decide, by decide, by decide⟩)
      have HF4 : Hid (Fe base r w ((W3.setCell ⟨w.heap.size, 0, none⟩ (.int .i64 (j : Int))).setCell ⟨w.heap.size, 1, none⟩ (.int .i64 (turnOf ps j)))) := fe_new HF3.out HBW.out HRL.out _ _
      have r0 := (blk_cell (blk_set (blk_set HN3.out 0 (.int .i64 (j : Int))) 1 (.int .i64 (turnOf ps j))) 0).trans (show _ = some (Value.int .i64 (j : Int)) from rfl)
      have r1 := (blk_cell (blk_set (blk_set HN3.out 0 (.int .i64 (j : Int))) 1 (.int .i64 (turnOf ps j))) 1).trans (show _ = some (Value.int .i64 (turnOf ps j)) from rfl)
      go_wp2
      exact bodyPost_ret (v := .tuple #[.agg #[.int .i64 (j : Int), .int .i64 (turnOf ps j)], .bool true]) (by simp [results, Tryd.results21, go_sem, r0, r1]) rfl ⟨rfl, HR4.out, HF4.out⟩
end Go.Proofs.YtphaaagcdjpceaaDoor
namespace Go.Proofs.YtphaaagcdjpceaaDoor
open Go.RowKit Go.Proofs.YtphaaagcdjpceaaDoorW.PrintWords Go.Proofs.YtphaaagcdjpceaaDoorW.PrintLast Go.Proofs.YtphaaagcdjpceaaDoorW.PrintMore
open Go.ChangeShapes Go.WideShapes Go.Deep
section
variable {H : Type} {enc : TypeId × Value → H} {P : Program} {w : World} {base : Nat} {spare : Nat → Bool} {held : Bool}
theorem open_slice_fields {t e : TypeId} {fs : Array Field} {fuel : Nat} {cs : List Value} {x : DataW H × List MemPlace} (ht : P.underlying t = some (.slice e)) (he : P.underlying e = some (.struct fs))
    (hone : oneCellFields P fs = true) (hC : P.cellsOf e = fs.size) (h : DataW.trod enc P w base spare held fuel t cs = some x) :
    (cs = [.slice none 0 0] ∧ x = (.nil, [])) ∨
    ∃ (a : Addr) (len cap m : Nat) (D : Nat → DataW H) (Pl : Nat → List MemPlace), cs = [.slice (some a) len cap] ∧ base ≤ a.block ∧ len ≤ cap ∧ cap ≤ maxLen ∧ m = (if spare a.block then cap else len) ∧
      x = (.slice ((List.range len).map D) ((List.range (m - len)).map fun j => D (len + j)), MemPlace.row a (m * fs.size) ++ (List.range m).flatMap Pl) ∧
      ∀ i, i < m → ∃ (ys : List (DataW H × List MemPlace)) (n : Nat), D i = .agg (ys.map (·.1)) ∧ Pl i = ys.flatMap (·.2) ∧ ys.length = fs.size ∧
        ∀ (j : Nat) (f : Field), fs[j]? = some f → ∃ (v : Value) (y : DataW H × List MemPlace), w.cell? (a.add (i * fs.size + j)) = some v ∧ ys[j]? = some y ∧ DataW.trod enc P w base spare held n f.type [v] = some y := by
  rcases open_slice ht h with h0 | ⟨a, len, cap, m, n, D, Pl, hcs, hb, hl, hm, hmm, hx, hi⟩
  · exact .inl h0
  · refine .inr ⟨a, len, cap, m, D, Pl, hcs, hb, hl, hm, hmm, by rw [hC] at hx; exact hx, fun i him => ?_⟩
    obtain ⟨cs', hc, ht'⟩ := hi i him
    rw [hC] at hc
    obtain ⟨ys, n', hn', hy, hlen, hyl, hf⟩ := DataW.trod_struct he ht'
    obtain ⟨_, hcl, hat⟩ := World.cells?_some hc
    simp only [Prod.mk.injEq] at hy
    refine ⟨ys, n', hy.1, hy.2, hyl, fun j f hj => ?_⟩
    obtain ⟨ho, hk⟩ := hone_of hone j f hj
    have hjl : j < fs.size := (Array.getElem?_eq_some_iff.1 hj).1
    have hcell := hat j hjl
    have hv : cs'[j]? = some (cs'[j]'(by omega)) := List.getElem?_eq_getElem (by omega)
    have h1 := hf j f hj
    rw [ho, hk] at h1
    have hone' : (cs'.drop j).take 1 = [cs'[j]'(by omega)] := by
      rw [List.drop_eq_getElem_cons (by omega)]
      rfl
    rw [hone'] at h1
    have hys : ys[j]? = some (ys[j]'(by omega)) := List.getElem?_eq_getElem (by omega)
    refine ⟨_, _, ?_, hys, h1.trans hys⟩
    rw [← Go.Deep.add_add, hcell, hv]
end
theorem open_hands {H : Type} {enc : TypeId × Value → H} {w : World} {base : Nat} {spare : Nat → Bool} {held : Bool} {fuel : Nat} {A : Option Addr} {len cap : Nat} {x : DataW H × List MemPlace}
    (h : DataW.trod enc Tryd.prog w base spare held fuel 38 [.slice A len cap] = some x) : ∃ zs : List Int, InHands w A len cap zs := by
  refine ⟨[], ?_⟩
  rcases open_slice_fields Tryd.underlying38 Tryd.underlying40 (by kernel_rfl) (by kernel_rfl) h with ⟨hc, _⟩ | ⟨a, l', c', m, D, Pl, hc, hb, hl, hm, hmm, hx, hf⟩
  · simp only [List.cons.injEq, Value.slice.injEq, and_true] at hc
    obtain ⟨rfl, rfl, rfl⟩ := hc
    exact fun i hi => absurd hi (Nat.not_lt_zero _)
  · simp only [List.cons.injEq, Value.slice.injEq, and_true] at hc
    obtain ⟨rfl, rfl, rfl⟩ := hc
    have hml : len ≤ m := by rw [hmm]; split <;> omega
    intro i hi
    obtain ⟨ys, n, _, _, _, hq⟩ := hf i (by omega)
    obtain ⟨v0, y0, e0, _, t0⟩ := hq 0 _ rfl
    obtain ⟨v1, y1, e1, _, t1⟩ := hq 1 _ rfl
    obtain ⟨n0, q0, _, wf0⟩ := DataW.trod_int Tryd.underlying3 t0
    obtain ⟨n1, q1, _, _⟩ := DataW.trod_int Tryd.underlying3 t1
    simp only [List.cons.injEq, and_true] at q0 q1
    subst q0 q1
    refine ⟨a, n0, n1, rfl, e0, ?_, i64_of_wf wf0⟩
    rw [← add_field _ _ 1 (by omega)]
    exact e1
end Go.Proofs.YtphaaagcdjpceaaDoor
namespace Go.Proofs.YtphaaagcdjpceaaDoor
open Go.RowKit Go.Extern.Stop Go.Stop Go.Extern Go.Proofs.YtphaaagcdjpceaaDoorW.PrintWords Go.Proofs.YtphaaagcdjpceaaDoorW.PrintLast Go.Proofs.YtphaaagcdjpceaaDoorW.PrintMore
set_option linter.unusedVariables false
def abk (W : World) (g : Nat) : Option Nat := match W.cell? ⟨g, 1, none⟩ with
  | some v => v.ownBlock
  | none => none
theorem abk_of {W : World} {g : Nat} {v : Value} (h : W.cell? ⟨g, 1, none⟩ = some v) : abk W g = v.ownBlock := by unfold abk; rw [h]
def Oth (g : Nat) (W W1 : World) : Prop := (∀ k, k < W.heap.size → k ≠ g → some k ≠ abk W g → W1.heap[k]? = W.heap[k]?) ∧ (abk W1 g = abk W g ∨ ∃ b, abk W1 g = some b ∧ W.heap.size ≤ b)
theorem Oth.of_below {g : Nat} {W W1 : World} (h : Below W.heap.size W W1) (hg : g < W.heap.size) : Oth g W W1 := ⟨fun k hk _ _ => h.block k hk, .inl (by unfold abk; rw [h.cell (p := ⟨g, 1, none⟩) hg])⟩
theorem Oth.trans {g : Nat} {W W1 W2 : World} (h : Oth g W W1) (h2 : Oth g W1 W2) (hs : W.heap.size ≤ W1.heap.size) : Oth g W W2 := by
  refine ⟨fun k hk hg ha => ?_, ?_⟩
  · rw [h2.1 k (by omega) hg (by
      rcases h.2 with e | ⟨b, e, hb⟩
      · rw [e]; exact ha
      · rw [e]; intro he; injection he with he; omega)]
    exact h.1 k hk hg ha
  · rcases h2.2 with e | ⟨b, e, hb⟩
    · rcases h.2 with e2 | ⟨b, e2, hb⟩
      · exact .inl (e.trans e2)
      · exact .inr ⟨b, e.trans e2, hb⟩
    · exact .inr ⟨b, e, by omega⟩
structure Fq (base g : Nat) (W W1 : World) : Prop where
  fr : Fr base W W1
  oth : Oth g W W1
theorem Fq.of_below {base g : Nat} {W W1 : World} (h : Below W.heap.size W W1) (hb : base ≤ W.heap.size) (hg : g < W.heap.size) : Fq base g W W1 := ⟨Fr.of_below h hb, Oth.of_below h hg⟩
theorem Fq.trans {base g : Nat} {W W1 W2 : World} (h : Fq base g W W1) (h2 : Fq base g W1 W2) : Fq base g W W2 := ⟨h.fr.trans h2.fr, h.oth.trans h2.oth h.fr.2.1⟩
theorem Oth.set {g b j : Nat} {W : World} {u : Value} (hb : b = g ∧ j ≠ 1 ∨ b ≠ g ∧ some b = abk W g) : Oth g W (W.setCell ⟨b, j, none⟩ u) := by
  refine ⟨fun k hk hg ha => Below.heap_setCell W ⟨b, j, none⟩ u k (by
    show k ≠ b
    rcases hb with ⟨rfl, _⟩ | ⟨_, hb⟩
    · exact hg
    · intro e; subst e; exact ha hb), .inl ?_⟩
  unfold abk
  have e : (W.setCell ⟨b, j, none⟩ u).cell? ⟨g, 1, none⟩ = W.cell? ⟨g, 1, none⟩ := World.cell?_setCell_other _ _ _ _ (fun h => by
    have h1 := congrArg Addr.block h
    have h2 := congrArg Addr.off h
    simp at h1 h2
    rcases hb with ⟨hb, hj⟩ | ⟨hb, _⟩
    · exact hj h2
    · exact hb h1)
  rw [e]
structure Oq_ (W : World) (base g : Nat) (most n : Int) (ps : List S108) (i : Nat) (ad : Addr) (c : Nat) : Prop where
  c0 : W.cell? ⟨g, 0, none⟩ = some (.int .i64 most)
  c1 : W.cell? ⟨g, 1, none⟩ = some (.slice (some ad) ps.length c)
  c2 : W.cell? ⟨g, 2, none⟩ = some (.int .i64 n)
  f2 : W.frozen? ⟨g, 2, none⟩ = false
  x0 : W.cell? (ad.add (i * 2)) = some (.int .i64 (plc ps i).f0)
  x1 : W.cell? ⟨(ad.add (i * 2)).block, (ad.add (i * 2)).off + 1, none⟩ = some (.bool (plc ps i).f1)
  y0 : W.frozen? (ad.add (i * 2)) = false
  y1 : W.frozen? ⟨(ad.add (i * 2)).block, (ad.add (i * 2)).off + 1, none⟩ = false
  putT : ∀ t, PL (W.setCell (ad.add (i * 2)) (.int .i64 t)) base g most (ps.set i ⟨t, (plc ps i).f1⟩) n ∧ Fq base g W (W.setCell (ad.add (i * 2)) (.int .i64 t))
  putB : ∀ t, PL (W.setCell ⟨(ad.add (i * 2)).block, (ad.add (i * 2)).off + 1, none⟩ (.bool t)) base g most (ps.set i ⟨(plc ps i).f0, t⟩) n ∧ Fq base g W (W.setCell ⟨(ad.add (i * 2)).block, (ad.add (i * 2)).off + 1, none⟩ (.bool t))
  putN : ∀ t, PL (W.setCell ⟨g, 2, none⟩ (.int .i64 t)) base g most ps t ∧ Fq base g W (W.setCell ⟨g, 2, none⟩ (.int .i64 t))
theorem PL.oq {W : World} {base g : Nat} {most n : Int} {ps : List S108} (h : PL W base g most ps n) (i : Nat) (hi : i < ps.length) : ∃ ad c, Oq_ W base g most n ps i ad c := by
  obtain ⟨g0, A, c, h1, h2⟩ := h
  have hbw : base ≤ W.heap.size := by have := blk_lt h1; omega
  obtain ⟨hl, hc, hC⟩ := Kd.R_reads' h2
  obtain ⟨ad, rfl, x0, x1⟩ := at_108 hC i hi
  obtain ⟨gb, rfl, hgb, cur, hcur⟩ := R108_blk h2
  have hne : g ≠ gb := by
    rintro rfl
    have h3 := h1
    rw [hcur] at h3
    injection h3 with h3
    injection h3 with _ h3
    exact absurd h3 (by decide)
  have hab : some gb = abk W g := (abk_of ((blk_cell h1 1).trans rfl)).symm
  refine ⟨⟨gb, 0, none⟩, c, ?_⟩
  constructor
  · exact (blk_cell h1 0).trans rfl
  · exact (blk_cell h1 1).trans rfl
  · exact (blk_cell h1 2).trans rfl
  · exact blk_frozen h1 2
  · exact x0
  · exact x1
  · rw [add0_]; exact blk_frozen hcur _
  · rw [add0_]; exact blk_frozen hcur _
  · intro t
    rw [add0_]
    exact ⟨⟨g0, _, c, by rw [List.length_set]; exact blk_far (p := ⟨gb, i * 2, none⟩) h1 hne _, by rw [List.length_set]; exact put108 h2 i hi t⟩, ⟨(Below.refl base W).setCell (p := ⟨gb, i * 2, none⟩) hgb _, (Keeps.refl _ W).set hcur (by decide) _ _⟩, Oth.set (.inr ⟨fun e => hne e.symm, hab⟩)⟩
  · intro t
    rw [add0_]
    exact ⟨⟨g0, _, c, by rw [List.length_set]; exact blk_far (p := ⟨gb, i * 2 + 1, none⟩) h1 hne _, by rw [List.length_set]; exact putb108 h2 i hi t⟩, ⟨(Below.refl base W).setCell (p := ⟨gb, i * 2 + 1, none⟩) hgb _, (Keeps.refl _ W).set hcur (by decide) _ _⟩, Oth.set (.inr ⟨fun e => hne e.symm, hab⟩)⟩
  · intro t
    exact ⟨⟨g0, _, c, blk_set h1 2 _, Kd.R_set h2 h1 (fun q hq => by rw [E108 q hq]; decide) 2 _⟩, ⟨(Below.refl base W).setCell (p := ⟨g, 2, none⟩) g0 _, (Keeps.refl _ W).set h1 (by decide) _ _⟩, Oth.set (.inl ⟨rfl, by decide⟩)⟩
theorem PL.glt {W : World} {base g : Nat} {most n : Int} {ps : List S108} (h : PL W base g most ps n) : g < W.heap.size := by
  obtain ⟨_, A, c, h1, _⟩ := h
  exact blk_lt h1
theorem fq_new {W W1 : World} {base g : Nat} (h : Fq base g W W1) (hb : base ≤ W.heap.size) (hg : g < W.heap.size) (u v : Value) : Fq base g W ((W1.setCell ⟨W.heap.size, 0, none⟩ u).setCell ⟨W.heap.size, 1, none⟩ v) :=
  ⟨fr_new h.fr hb u v, ⟨fun k hk hkg ha => by
    rw [Below.heap_setCell _ ⟨W.heap.size, 1, none⟩ v k (by show k ≠ W.heap.size; omega), Below.heap_setCell _ ⟨W.heap.size, 0, none⟩ u k (by show k ≠ W.heap.size; omega)]
    exact h.oth.1 k hk hkg ha, by
    have e : abk ((W1.setCell ⟨W.heap.size, 0, none⟩ u).setCell ⟨W.heap.size, 1, none⟩ v) g = abk W1 g := by
      unfold abk
      rw [World.cell?_setCell_far _ _ _ _ (by show W.heap.size ≠ g; omega), World.cell?_setCell_far _ _ _ _ (by show W.heap.size ≠ g; omega)]
    rw [e]; exact h.oth.2⟩⟩
theorem fq_app {wr w8 : World} {base g c g8 c8 : Nat} {most n : Int} {A : Option Addr} {ps : List S108} (h : wr.heap[g]? = some (Obj.cells #[.int .i64 most, .slice A ps.length c, .int .i64 n] 106 (0, 0))) (hr : Kd.R k108 108 wr base (fun _ => True) (.slice A ps.length c) ps) (hg : wr.grownBy w8 (Value.slice A ps.length c).ownBlock)
    (hf : Fr base wr (w8.setCell ⟨g, 1, none⟩ (.slice (some ⟨g8, 0, none⟩) (ps.length + 1) c8))) (hat : (Value.slice (some ⟨g8, 0, none⟩) (ps.length + 1) c8).ownBlock = (Value.slice A ps.length c).ownBlock ∨ ∃ b, (Value.slice (some ⟨g8, 0, none⟩) (ps.length + 1) c8).ownBlock = some b ∧ wr.heap.size ≤ b) :
    Fq base g wr (w8.setCell ⟨g, 1, none⟩ (.slice (some ⟨g8, 0, none⟩) (ps.length + 1) c8)) := by
  have ha : abk wr g = (Value.slice A ps.length c).ownBlock := abk_of ((blk_cell h 1).trans rfl)
  have h8 := ((keeps_app hr hg).2 g _ _ _ h (by decide)).trans h
  have ha8 : abk (w8.setCell ⟨g, 1, none⟩ (.slice (some ⟨g8, 0, none⟩) (ps.length + 1) c8)) g = (Value.slice (some ⟨g8, 0, none⟩) (ps.length + 1) c8).ownBlock := abk_of ((blk_cell (blk_set h8 1 _) 1).trans rfl)
  refine ⟨hf, ⟨fun k hk hkg hne => ?_, ?_⟩⟩
  · rw [Below.heap_setCell _ ⟨g, 1, none⟩ _ k hkg]
    exact hg.block k hk (by rw [← ha]; exact hne)
  · rw [ha8, ha]; exact hat
set_option maxHeartbeats 4000000 in
set_option maxRecDepth 100000 in
theorem take_oq (g base : Nat) (most n : Int) (ps : List S108) (i : Nat) (w : World) (h : PL w base g most ps n) (hi : i ≤ ps.length) (hf : ∀ j, j < i → (plc ps j).f1 = true) (hf2 : i < ps.length → (plc ps i).f1 = false) (hm : (i : Int) ≠ most) (hl : ps.length ≤ 1000) (ht0 : 0 ≤ turnOf ps i) (ht1 : turnOf ps i ≤ 1000000) (hn0 : -1000000 ≤ n) (hn1 : n ≤ 1000000) :
    Calls Tryd.prog 16 #[.pointer (some ⟨g, 0, none⟩)] w fun e w' => e = .returned (.tuple #[.agg #[.int .i64 (i : Int), .int .i64 (turnOf ps i)], .nilIface]) ∧ PL w' base g most (tookL ps i) (n + 1) ∧ Fq base g w w' := by
  have B1 := below_alloc (Below.refl w.heap.size w) (.cells #[.int .i64 0, .int .i64 0] 40)
  have HHN := Lib.hid (show Hn (w.alloc (.cells #[.int .i64 0, .int .i64 0] 40)) w.heap.size 0 0 from heap_alloc_new w _)
  have HP := Lib.hid (h.below B1)
  have HF := Lib.hid (Fq.of_below B1 h.lt h.glt)
  have HM : Hid (((i : Int) == most) = false) := Lib.hid (by simpa using hm)
  have HFT := Lib.hid hf; have HFF := Lib.hid hf2
  have HT0 := Lib.hid ht0; have HT1 := Lib.hid ht1
  have HBW := Lib.hid h.lt
  have HGW := Lib.hid h.glt
  clear B1 h hm hf hf2 ht0 ht1
  go_enter Tryd.func16, Tryd.ntmps16
  go_wp2_with (fail)
  go_loopg [4] i (fun gk v4 wr => ∃ j : Nat, v4 = .int .i64 (j : Int) ∧ j ≤ i ∧ i - j ≤ gk ∧ Hid (PL wr base g most ps n) ∧ Hid (Fq base g w wr) ∧ Hid (Hn wr w.heap.size 0 0))
  case atStart => exact ⟨0, rfl, by omega, by omega, HP.out, HF.out, HHN.out⟩
  case round =>
    obtain ⟨j, rfl, hj, hk, HP1, HF1, HN1⟩ := hrel
    by_cases hlt : j < i
    · obtain ⟨ad, c, op⟩ := HP1.out.oq j (by omega)
      have c1 := op.c1
      have x1 := op.x1
      rw [HFT.out j hlt] at x1
      clear op
      have cj : (j : Int) < (ps.length : Int) := by omega
      have cj0 : (0 : Int) ≤ (j : Int) := by omega
      go_wp2
      go_roundg (i - (j + 1))
      case measure => omega
      case rel => exact ⟨j + 1, by simp, by omega, by omega, HP1.out, HF1.out, HN1.out⟩
    · obtain rfl : j = i := by omega
      clear hlt hj hk HP HF HHN
      have HFR : Hid (∃ A c, wr.heap[g]? = some (Obj.cells #[.int .i64 most, .slice A ps.length c, .int .i64 n] 106 (0, 0)) ∧ Kd.R k108 108 wr base (fun _ => True) (.slice A ps.length c) ps ∧ base ≤ g) := by
        obtain ⟨g0, A, c, h1, h2⟩ := HP1.out
        exact ⟨A, c, h1, h2, g0⟩
      have hm := HM.out
      by_cases hlt : j < ps.length
      · obtain ⟨ad, c, op⟩ := HP1.out.oq j hlt
        have c0 := op.c0
        have c1 := op.c1
        have x1 := op.x1
        rw [HFF.out hlt] at x1
        have cj : (j : Int) < (ps.length : Int) := by omega
        have cj0 : (0 : Int) ≤ (j : Int) := by omega
        have hel : ((j : Int) == (ps.length : Int)) = false := by
          have : (j : Int) ≠ (ps.length : Int) := by omega
          simpa using this
        clear op
        go_upto_region 8 with (fail)
        have eg : grow0 ps j = ps := if_pos hlt
        have HP7 : Hid (PL wr base g most (grow0 ps j) n) := by rw [eg]; exact HP1.out
        clear c0 c1 x1 cj cj0 hel HP1 HFR hm HM HFT HFF eg
        obtain ⟨ad1, c1', op1⟩ := HP7.out.oq j (grow0_lt hi)
        have q1 := op1.c1
        have x0 := op1.x0
        have y0 := op1.y0
        have pt := op1.putT ((plc (grow0 ps j) j).f0 + 1)
        have cj1 : (j : Int) < ((grow0 ps j).length : Int) := by have := (grow0_lt hi); omega
        have cj0' : (0 : Int) ≤ (j : Int) := by omega
        have bt0 : 0 ≤ (plc (grow0 ps j) j).f0 + 1 := HT0.out
        have bt1 : (plc (grow0 ps j) j).f0 + 1 ≤ 1000000 := HT1.out
        have HP8 := Lib.hid pt.1
        have HF8 := Lib.hid (HF1.out.trans pt.2)
        have HN8 := Lib.hid (HN1.out.fr pt.2.fr)
        clear op1 pt
        go_upto_region 9 with (fail)
        clear q1 x0 y0 cj1
        generalize wr.setCell (ad1.add (j * 2)) (.int .i64 ((plc (grow0 ps j) j).f0 + 1)) = W8 at *
        have hl8 : j < ((grow0 ps j).set j ⟨(plc (grow0 ps j) j).f0 + 1, (plc (grow0 ps j) j).f1⟩).length := by rw [List.length_set]; exact (grow0_lt hi)
        have e8 : plc ((grow0 ps j).set j ⟨(plc (grow0 ps j) j).f0 + 1, (plc (grow0 ps j) j).f1⟩) j = ⟨(plc (grow0 ps j) j).f0 + 1, (plc (grow0 ps j) j).f1⟩ := plc_set (grow0_lt hi) _
        have HSS := Lib.hid (show (((grow0 ps j).set j ⟨(plc (grow0 ps j) j).f0 + 1, (plc (grow0 ps j) j).f1⟩).set j ⟨(plc (grow0 ps j) j).f0 + 1, true⟩) = tookL ps j from List.set_set _)
        generalize (grow0 ps j).set j ⟨(plc (grow0 ps j) j).f0 + 1, (plc (grow0 ps j) j).f1⟩ = ps8 at *
        obtain ⟨ad2, c2', op2⟩ := HP8.out.oq j hl8
        have q1 := op2.c1
        have x1 := op2.x1
        have y1 := op2.y1
        have pt := op2.putB true
        rw [e8] at pt
        rw [HSS.out] at pt
        have cj1 : (j : Int) < (ps8.length : Int) := by omega
        have HP9 := Lib.hid pt.1
        have HF9 := Lib.hid (HF8.out.trans pt.2)
        have HN9 := Lib.hid (HN8.out.fr pt.2.fr)
        clear op2 pt
        go_upto_region 10 with (fail)
        clear q1 x1 y1 cj1 e8
        generalize W8.setCell ⟨(ad2.add (j * 2)).block, (ad2.add (j * 2)).off + 1, none⟩ (.bool true) = W9 at *
        have hl9 : j < (tookL ps j).length := by unfold tookL; rw [List.length_set]; exact (grow0_lt hi)
        have e9 : plc (tookL ps j) j = ⟨turnOf ps j, true⟩ := plc_set (grow0_lt hi) _
        obtain ⟨ad3, c3', op3⟩ := HP9.out.oq j hl9
        have q2 := op3.c2
        have y2 := op3.f2
        have pt := op3.putN (n + 1)
        have HP10 := Lib.hid pt.1
        have HF10 := Lib.hid (HF9.out.trans pt.2)
        have HN10 := Lib.hid (HN9.out.fr pt.2.fr)
        clear op3 pt
        go_upto_region 11 with (fail)
        clear q2 y2
        generalize W9.setCell ⟨g, 2, none⟩ (.int .i64 (n + 1)) = W10 at *
        obtain ⟨ad4, c4', op4⟩ := HP10.out.oq j hl9
        have q1 := op4.c1
        have x0 := op4.x0
        rw [e9] at x0
        clear op4
        have cj1 : (j : Int) < ((tookL ps j).length : Int) := by omega
        have z0 := (blk_cell HN10.out 0).trans (show _ = some (Value.int .i64 0) from rfl)
        have z1 := (blk_cell HN10.out 1).trans (show _ = some (Value.int .i64 0) from rfl)
        have u0 : W10.frozen? ⟨w.heap.size, 0, none⟩ = false := blk_frozen HN10.out 0
        have u1 : W10.frozen? ⟨w.heap.size, 1, none⟩ = false := blk_frozen HN10.out 1
        have HB11 : Hid (Below w.heap.size w w) := Below.refl _ _
        have HP11 := Lib.hid (HP10.out.keeps ((((Keeps.refl [40] W10).set HN10.out (by decide) 0 (.int .i64 (j : Int)))).set (blk_set HN10.out 0 _) (by decide) 1 (.int .i64 (turnOf ps j))) ⟨by decide, by decide⟩)
        have HF11 : Hid (Fq base g w ((W10.setCell ⟨w.heap.size, 0, none⟩ (.int .i64 (j : Int))).setCell ⟨w.heap.size, 1, none⟩ (.int .i64 (turnOf ps j)))) := fq_new HF10.out HBW.out HGW.out _ _
        have r0 := (blk_cell (blk_set (blk_set HN10.out 0 (.int .i64 (j : Int))) 1 (.int .i64 (turnOf ps j))) 0).trans (show _ = some (Value.int .i64 (j : Int)) from rfl)
        have r1 := (blk_cell (blk_set (blk_set HN10.out 0 (.int .i64 (j : Int))) 1 (.int .i64 (turnOf ps j))) 1).trans (show _ = some (Value.int .i64 (turnOf ps j)) from rfl)
        go_wp2
        exact bodyPost_ret (v := .tuple #[.agg #[.int .i64 (j : Int), .int .i64 (turnOf ps j)], .nilIface]) (by simp [results, Tryd.results16, go_sem, r0, r1]) rfl ⟨rfl, HP11.out, HF11.out⟩
      · have hjl : j = ps.length := by omega
        obtain ⟨A, c, h1, h2, g0⟩ := HFR.out
        have c0 := (blk_cell h1 0).trans (show _ = some (Value.int .i64 most) from rfl)
        have c1 := (blk_cell h1 1).trans (show _ = some (Value.slice A ps.length c) from rfl)
        have hd : decide ((j : Int) < (ps.length : Int)) = false := decide_eq_false (by omega)
        have hel : ((j : Int) == (ps.length : Int)) = true := by
          have : (j : Int) = (ps.length : Int) := by omega
          simpa using this
        have H1 := Lib.hid h1; have H2 := Lib.hid h2; have HJL := Lib.hid hjl; have HG0 := Lib.hid g0
        have HLT := Lib.hid hlt
        clear h1 h2 hlt hjl g0 HFR HP1
        go_upto_region 7 with (fail)
        go_upto_region 8 with ((with_reducible refine gate_builtin (b := .append) (xs := #[.tmp 49, .tmp 51]) rfl ?_); at_builtin; refine Kd.R_append k108 (w0 := w) base rfl (.tmp 49) (.tmp 51) 104 108 (.agg #[(.int .i64 0), (.bool false)]) 16 rfl Tryd.underlying104 info108 rfl (by decide) (by decide) (.slice A ps.length c) ps ⟨0, false⟩ [.int .i64 0, .bool false] (fun _ => True) (fun _ => False) rfl ?aX ?aP (fun _ hk => hk.elim) ?aF ?aO ?aB ?aS ?aL ?_; (case aX => first | rfl | (go_simp; done) | (go_simp; rfl)); (case aP => exact k108_mkM _ _ _ ⟨0, false⟩); (case aB => exact HF1.out.fr.1); (case aF => exact (fun _ _ => trivial)); (case aO => exact H2.out); (case aS => exact (Nat.le_trans HBW.out HF1.out.fr.1.size)); (case aL => omega); intro v8 w8 ho hb hg hat; obtain ⟨g8, c8, hv, hb8, _, _⟩ := Kd.R_form ho (by simp); have hat8 := hat; rw [show (ps ++ ([⟨0, false⟩] : List S108)).length = ps.length + 1 from by simp] at hv; subst hv; have HA8 := Lib.hid (pl_app H1.out HG0.out H2.out (Nat.le_trans HBW.out HF1.out.fr.1.size) hg ho); have HA9 := Lib.hid (fq_app H1.out H2.out hg HA8.out.2.1 hat8); have q1 := HA8.out.2.2.1; have y1 := HA8.out.2.2.2; clear ho hb hg hat hb8 c0 c1 hd hel)
        have eg : grow0 ps j = ps ++ [⟨0, false⟩] := if_neg HLT.out
        have HP7 : Hid (PL (w8.setCell ⟨g, 1, none⟩ (.slice (some ⟨g8, 0, none⟩) (ps.length + 1) c8)) base g most (grow0 ps j) n) := by rw [eg]; exact HA8.out.1
        have HF7 : Hid (Fq base g w (w8.setCell ⟨g, 1, none⟩ (.slice (some ⟨g8, 0, none⟩) (ps.length + 1) c8))) := HF1.out.trans HA9.out
        have HN7 : Hid (Hn (w8.setCell ⟨g, 1, none⟩ (.slice (some ⟨g8, 0, none⟩) (ps.length + 1) c8)) w.heap.size 0 0) := HN1.out.fr HA9.out.fr
        clear q1 y1 HA8 H1 H2 HG0 HLT HJL HF1 HN1 eg hm HM HFT HFF
        generalize w8.setCell ⟨g, 1, none⟩ (.slice (some ⟨g8, 0, none⟩) (ps.length + 1) c8) = W7 at *
        obtain ⟨ad1, c1', op1⟩ := HP7.out.oq j (grow0_lt hi)
        have q1 := op1.c1
        have x0 := op1.x0
        have y0 := op1.y0
        have pt := op1.putT ((plc (grow0 ps j) j).f0 + 1)
        have cj1 : (j : Int) < ((grow0 ps j).length : Int) := by have := (grow0_lt hi); omega
        have cj0' : (0 : Int) ≤ (j : Int) := by omega
        have bt0 : 0 ≤ (plc (grow0 ps j) j).f0 + 1 := HT0.out
        have bt1 : (plc (grow0 ps j) j).f0 + 1 ≤ 1000000 := HT1.out
        have HP8 := Lib.hid pt.1
        have HF8 := Lib.hid (HF7.out.trans pt.2)
        have HN8 := Lib.hid (HN7.out.fr pt.2.fr)
        clear op1 pt
        go_upto_region 9 with (fail)
        clear q1 x0 y0 cj1
        generalize W7.setCell (ad1.add (j * 2)) (.int .i64 ((plc (grow0 ps j) j).f0 + 1)) = W8 at *
        have hl8 : j < ((grow0 ps j).set j ⟨(plc (grow0 ps j) j).f0 + 1, (plc (grow0 ps j) j).f1⟩).length := by rw [List.length_set]; exact (grow0_lt hi)
        have e8 : plc ((grow0 ps j).set j ⟨(plc (grow0 ps j) j).f0 + 1, (plc (grow0 ps j) j).f1⟩) j = ⟨(plc (grow0 ps j) j).f0 + 1, (plc (grow0 ps j) j).f1⟩ := plc_set (grow0_lt hi) _
        have HSS := Lib.hid (show (((grow0 ps j).set j ⟨(plc (grow0 ps j) j).f0 + 1, (plc (grow0 ps j) j).f1⟩).set j ⟨(plc (grow0 ps j) j).f0 + 1, true⟩) = tookL ps j from List.set_set _)
        generalize (grow0 ps j).set j ⟨(plc (grow0 ps j) j).f0 + 1, (plc (grow0 ps j) j).f1⟩ = ps8 at *
        obtain ⟨ad2, c2', op2⟩ := HP8.out.oq j hl8
        have q1 := op2.c1
        have x1 := op2.x1
        have y1 := op2.y1
        have pt := op2.putB true
        rw [e8] at pt
        rw [HSS.out] at pt
        have cj1 : (j : Int) < (ps8.length : Int) := by omega
        have HP9 := Lib.hid pt.1
        have HF9 := Lib.hid (HF8.out.trans pt.2)
        have HN9 := Lib.hid (HN8.out.fr pt.2.fr)
        clear op2 pt
        go_upto_region 10 with (fail)
        clear q1 x1 y1 cj1 e8
        generalize W8.setCell ⟨(ad2.add (j * 2)).block, (ad2.add (j * 2)).off + 1, none⟩ (.bool true) = W9 at *
        have hl9 : j < (tookL ps j).length := by unfold tookL; rw [List.length_set]; exact (grow0_lt hi)
        have e9 : plc (tookL ps j) j = ⟨turnOf ps j, true⟩ := plc_set (grow0_lt hi) _
        obtain ⟨ad3, c3', op3⟩ := HP9.out.oq j hl9
        have q2 := op3.c2
        have y2 := op3.f2
        have pt := op3.putN (n + 1)
        have HP10 := Lib.hid pt.1
        have HF10 := Lib.hid (HF9.out.trans pt.2)
        have HN10 := Lib.hid (HN9.out.fr pt.2.fr)
        clear op3 pt
        go_upto_region 11 with (fail)
        clear q2 y2
        generalize W9.setCell ⟨g, 2, none⟩ (.int .i64 (n + 1)) = W10 at *
        obtain ⟨ad4, c4', op4⟩ := HP10.out.oq j hl9
        have q1 := op4.c1
        have x0 := op4.x0
        rw [e9] at x0
        clear op4
        have cj1 : (j : Int) < ((tookL ps j).length : Int) := by omega
        have z0 := (blk_cell HN10.out 0).trans (show _ = some (Value.int .i64 0) from rfl)
        have z1 := (blk_cell HN10.out 1).trans (show _ = some (Value.int .i64 0) from rfl)
        have u0 : W10.frozen? ⟨w.heap.size, 0, none⟩ = false := blk_frozen HN10.out 0
        have u1 : W10.frozen? ⟨w.heap.size, 1, none⟩ = false := blk_frozen HN10.out 1
        have HB11 : Hid (Below w.heap.size w w) := Below.refl _ _
        have HP11 := Lib.hid (HP10.out.keeps ((((Keeps.refl [40] W10).set HN10.out (by decide) 0 (.int .i64 (j : Int)))).set (blk_set HN10.out 0 _) (by decide) 1 (.int .i64 (turnOf ps j))) ⟨by decide, by decide⟩)
        have HF11 : Hid (Fq base g w ((W10.setCell ⟨w.heap.size, 0, none⟩ (.int .i64 (j : Int))).setCell ⟨w.heap.size, 1, none⟩ (.int .i64 (turnOf ps j)))) := fq_new HF10.out HBW.out HGW.out _ _
        have r0 := (blk_cell (blk_set (blk_set HN10.out 0 (.int .i64 (j : Int))) 1 (.int .i64 (turnOf ps j))) 0).trans (show _ = some (Value.int .i64 (j : Int)) from rfl)
        have r1 := (blk_cell (blk_set (blk_set HN10.out 0 (.int .i64 (j : Int))) 1 (.int .i64 (turnOf ps j))) 1).trans (show _ = some (Value.int .i64 (turnOf ps j)) from rfl)
        go_wp2
        exact bodyPost_ret (v := .tuple #[.agg #[.int .i64 (j : Int), .int .i64 (turnOf ps j)], .nilIface]) (by simp [results, Tryd.results16, go_sem, r0, r1]) rfl ⟨rfl, HP11.out, HF11.out⟩
set_option maxHeartbeats 4000000 in
set_option maxRecDepth 100000 in
theorem free_oq (g base : Nat) (most n : Int) (ps : List S108) (i : Nat) (t : Int) (w : World) (h : PL w base g most ps n) (hi : i < ps.length) (hh : hasB ps (i : Int) t = true) (hn0 : -1000000 ≤ n) (hn1 : n ≤ 1000000) : Calls Tryd.prog 17 #[.pointer (some ⟨g, 0, none⟩), .agg #[.int .i64 (i : Int), .int .i64 t]] w fun e w' => e = .returned .nilIface ∧ PL w' base g most (ps.set i ⟨(plc ps i).f0, false⟩) (n - 1) ∧ Fq base g w w' := by
  have hbw := h.lt
  have HGW := Lib.hid h.glt
  have B1 := below_alloc (Below.refl w.heap.size w) (.cells #[.int .i64 (i : Int), .int .i64 t] 40)
  have hn := heap_alloc_new w (.cells #[.int .i64 (i : Int), .int .i64 t] 40)
  have HP := Lib.hid (h.below B1)
  have HN := Lib.hid hn
  have HB1 := Lib.hid B1
  have HH := Lib.hid hh
  have HI := Lib.hid hi
  have HBW := Lib.hid hbw
  clear B1 hn h hh hbw
  go_enter Tryd.func17, Tryd.ntmps17
  go_wp2_with (fail)
  go_at_call 22
  (with_reducible refine (has_calls g base most n ps (i : Int) t _ HP.out).mono ?_)
  rintro e w2 ⟨rfl, hb⟩
  rw [HH.out]
  have hn2 := blk_below HN.out hb
  have k0 := (blk_cell hn2 0).trans (show _ = some (Value.int .i64 (i : Int)) from rfl)
  have HP2 := Lib.hid (HP.out.below hb)
  have HB2 := Lib.hid (below_step HB1.out hb)
  clear hb hn2 HP HN HB1 HH
  obtain ⟨g0, A, c, h1, h2⟩ := HP2.out
  obtain ⟨hl, hc, hC⟩ := Kd.R_reads' h2
  obtain ⟨ad, rfl, x0, x1⟩ := at_108 hC i hi
  have c1 := (blk_cell h1 1).trans (show _ = some (Value.slice (some ad) ps.length c) from rfl)
  have c2 := (blk_cell h1 2).trans (show _ = some (Value.int .i64 n) from rfl)
  have f2 : w2.frozen? ⟨g, 2, none⟩ = false := blk_frozen h1 2
  obtain ⟨gb, ead, hgb, cur, hcur⟩ := R108_blk h2
  have fx1 : w2.frozen? ⟨(ad.add (i * 2)).block, (ad.add (i * 2)).off + 1, none⟩ = false := by rw [ead, add0_]; exact blk_frozen hcur _
  have HAB := Lib.hid (show some gb = abk w2 g by rw [abk_of ((blk_cell h1 1).trans rfl), ead]; rfl)
  have HE := Lib.hid ead; have HGB := Lib.hid hgb; have HCU := Lib.hid hcur
  clear ead hgb hcur
  have ci : (i : Int) < (ps.length : Int) := by omega
  have ci0 : (0 : Int) ≤ (i : Int) := by omega
  have HX := Lib.hid (And.intro h1 h2)
  clear h1 h2 hC hl hc
  go_wp2_with (fail)
  go_region
  have e3 : (⟨(ad.add (i * 2)).block, (ad.add (i * 2)).off + 1, none⟩ : Addr) = ⟨gb, i * 2 + 1, none⟩ := by rw [HE.out, add0_]
  have hne : g ≠ gb := by
    rintro rfl
    have h3 := HX.out.1
    rw [HCU.out] at h3
    injection h3 with h3
    injection h3 with _ h3
    exact absurd h3 (by decide)
  have HX1 : Hid (((w2.setCell ⟨(ad.add (i * 2)).block, (ad.add (i * 2)).off + 1, none⟩ (.bool false)).drew).heap[g]? = some (.cells #[.int .i64 most, .slice (some ad) ps.length c, .int .i64 n] 106 (0, 0))) := by
    rw [e3]
    exact blk_far (p := ⟨gb, i * 2 + 1, none⟩) HX.out.1 hne _
  have HX2 : Hid (Kd.R k108 108 ((w2.setCell ⟨(ad.add (i * 2)).block, (ad.add (i * 2)).off + 1, none⟩ (.bool false)).drew) base (fun _ => True) (.slice (some ad) ps.length c) (ps.set i ⟨(plc ps i).f0, false⟩)) := by
    have h3 := HX.out.2
    rw [HE.out] at h3 ⊢
    rw [add0_]
    exact Kd.R_drew (putb108 h3 i hi false)
  have HF : Hid (Fq base g w ((w2.setCell ⟨(ad.add (i * 2)).block, (ad.add (i * 2)).off + 1, none⟩ (.bool false)).drew)) := by
    rw [e3]
    exact (Fq.of_below HB2.out HBW.out HGW.out).trans ⟨⟨((Below.refl base w2).setCell (p := ⟨gb, i * 2 + 1, none⟩) HGB.out _).drew, (Keeps.refl _ w2).set HCU.out (by decide) (i * 2 + 1) _⟩, Oth.set (.inr ⟨fun e => hne e.symm, HAB.out⟩)⟩
  generalize (w2.setCell ⟨(ad.add (i * 2)).block, (ad.add (i * 2)).off + 1, none⟩ (.bool false)).drew = W3 at *
  clear c1 c2 f2 x0 x1 fx1 e3 k0
  have c2 := (blk_cell HX1.out 2).trans (show _ = some (Value.int .i64 n) from rfl)
  have f2 : W3.frozen? ⟨g, 2, none⟩ = false := blk_frozen HX1.out 2
  clear HX HP2 HB2 HCU HE
  go_wp2
  go_ret
  refine ⟨rfl, ⟨g0, some ad, c, ?_, ?_⟩, HF.out.trans ⟨⟨(Below.refl base W3).setCell (p := ⟨g, 2, none⟩) g0 _, (Keeps.refl _ W3).set HX1.out (by decide) 2 _⟩, Oth.set (.inl ⟨rfl, by decide⟩)⟩⟩
  · rw [List.length_set]
    exact blk_set HX1.out 2 (.int .i64 (n - 1))
  · rw [List.length_set]
    exact Kd.R_set HX2.out HX1.out (fun q hq => by
      have : q = 108 := by simpa [k108, Kd.iso, Kd.pair, Kd.int, Kd.bool, Kd.scalar] using hq
      rw [this]; decide) 2 _
end Go.Proofs.YtphaaagcdjpceaaDoor
