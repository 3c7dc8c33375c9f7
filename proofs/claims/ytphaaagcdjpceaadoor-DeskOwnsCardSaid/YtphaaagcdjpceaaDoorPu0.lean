/- What PoolUnlike's loop keeps (plain), rows of bools. -/
import Derived.Test.YtphaaagcdjpceaaDoorPo9
namespace Go.Proofs.YtphaaagcdjpceaaDoor
open Go.RowKit Go.Extern.Stop Go.Stop Go.Extern Go.Proofs.YtphaaagcdjpceaaDoorW.PrintWords Go.Proofs.YtphaaagcdjpceaaDoorW.PrintLast Go.Proofs.YtphaaagcdjpceaaDoorW.PrintMore
set_option linter.unusedVariables false
theorem info4 : (Tryd.prog.info? 4).map (fun i => (i.zero, i.size, i.bytes)) = some (some (.bool false), 1, 1) := by kernel_rfl
theorem E4 : ∀ q, q ∈ 4 :: Kd.bool.E → q = 4 := fun q hq => by simpa [Kd.bool, Kd.scalar] using hq
/-- A row of bools of the call's own. -/
abbrev BR (W : World) (base : Nat) (v : Value) (bs : List Bool) : Prop := Kd.R Kd.bool 4 W base (fun _ => True) v bs
def bat (bs : List Bool) (i : Nat) : Bool := bs.getD i false
theorem BR.fr {W W1 : World} {base b2 : Nat} {v : Value} {hs : List Bool} (h : BR W base v hs) (hf : Fr b2 W W1) : BR W1 base v hs := R_keeps h hf.2 (fun q hq => by rw [E4 q hq]; decide)
theorem BR.keeps {W W1 : World} {base : Nat} {v : Value} {hs : List Bool} (h : BR W base v hs) (hf : Keeps [40] W W1) : BR W1 base v hs := R_keeps h hf (fun q hq => by rw [E4 q hq]; decide)
theorem BR.below {W W1 : World} {base : Nat} {v : Value} {hs : List Bool} (h : BR W base v hs) (hb : Below W.heap.size W W1) : BR W1 base v hs := Kd.R_below h hb
theorem HR.keeps {W W1 : World} {base : Nat} {v : Value} {hs : List S40} (h : HR W base v hs) (hf : Keeps [4] W W1) : HR W1 base v hs := R_keeps h hf (fun q hq => by rw [E40 q hq]; decide)
theorem St.keeps4 {w W W1 : World} {g : Nat} {most : Int} {ps : List S108} {n : Int} (h : St w W g most ps n) (hb : Below w.heap.size W W1) (hk : Keeps [4] W W1) : St w W1 g most ps n := ⟨h.pl.keeps hk ⟨by decide, by decide⟩, h.bl.trans hb⟩
theorem keeps_app4 {wr w8 : World} {base : Nat} {v : Value} {xs : List Bool} (hr : BR wr base v xs) (hg : wr.grownBy w8 v.ownBlock) : Keeps [4] wr w8 := ⟨hg.size, fun k cs t fr hk ht => hg.block k (blk_lt hk) (by
  intro he
  obtain ⟨_, inner, ho, _⟩ := hr
  obtain ⟨cells, hc⟩ := own_typed ho k he.symm
  rw [hc] at hk
  injection hk with hk
  injection hk with _ hk
  subst hk
  exact ht (by simp))⟩
theorem below_app4 {wr w8 : World} {base : Nat} {v : Value} {xs : List Bool} (hr : BR wr base v xs) (hb : base ≤ wr.heap.size) (hg : wr.grownBy w8 v.ownBlock) : Below base wr w8 := pw_below_grown (Below.refl base wr) _ hb hg (fun k hk => by
    rcases Kd.R_base2 hr with h | ⟨q, h, hq⟩
    · rw [h] at hk; cases hk
    · rw [h] at hk; injection hk with hk; omega)
/-- What a run sees of a bool in a row, and what a store to it leaves. -/
structure OpB (W : World) (base : Nat) (bs : List Bool) (i : Nat) (ad : Addr) (c : Nat) : Prop where
  x0 : W.cell? (ad.add i) = some (.bool (bat bs i))
  y0 : W.frozen? (ad.add i) = false
  put : ∀ t, BR (W.setCell (ad.add i) (.bool t)) base (.slice (some ad) bs.length c) (bs.set i t) ∧ Below base W (W.setCell (ad.add i) (.bool t)) ∧ Keeps [4] W (W.setCell (ad.add i) (.bool t))
theorem BR.form {W : World} {base : Nat} {v : Value} {hs : List Bool} (h : BR W base v hs) (hp : 0 < hs.length) : ∃ ad c, v = .slice (some ad) hs.length c := by
  obtain ⟨g, c, hv, _⟩ := Kd.R_form h hp
  exact ⟨_, c, hv⟩
theorem BR.op {W : World} {base : Nat} {ad : Addr} {c : Nat} {bs : List Bool} (h : BR W base (.slice (some ad) bs.length c) bs) (i : Nat) (hi : i < bs.length) : OpB W base bs i ad c := by
  obtain ⟨gb, c', hv, hgb, _, cur, hcur⟩ := Kd.R_form h (by omega)
  injection hv with ha _ hc
  injection ha with ha
  subst ha
  subst hc
  obtain ⟨hl, hc, hC⟩ := Kd.R_reads' h
  obtain ⟨ad, e, hx⟩ := Kd.at_bool hC (i : Int) (by omega) (by omega)
  cases e
  have e1 : (bs.getD i false) = bat bs i := rfl
  constructor
  · have : W.cell? (Addr.add ⟨gb, 0, none⟩ i) = _ := hx
    rw [this]
    simp [bat, rdOf]
  · rw [add0_]; exact blk_frozen hcur _
  · intro t
    rw [add0_]
    have h1 := Kd.R_putn h (i : Int) t
    exact ⟨h1, (Below.refl base W).setCell (p := ⟨gb, i, none⟩) hgb _, (Keeps.refl [4] W).set hcur (by decide) _ _⟩
/-! plain -/
/-- The least free place; all, where none is. -/
def ff (ps : List S108) : Nat := ps.findIdx (fun x => !x.f1)
theorem ff_le (ps : List S108) : ff ps ≤ ps.length := List.findIdx_le_length
theorem ff_tk {ps : List S108} {j : Nat} (h : j < ff ps) : (plc ps j).f1 = true := by
  have hl := ff_le ps
  have := List.not_of_lt_findIdx h
  have e : plc ps j = ps[j]'(by omega) := by simp [plc, show j < ps.length by omega]
  rw [e]
  simpa using this
theorem ff_no {ps : List S108} (h : ff ps < ps.length) : (plc ps (ff ps)).f1 = false := by
  have := List.findIdx_getElem (p := fun x : S108 => !x.f1) (xs := ps) (w := h)
  have e : plc ps (ff ps) = ps[ff ps]'h := by simp [plc, h]
  rw [e]
  simp at this
  exact this
/-- How many are taken. -/
def cnt (ps : List S108) : Nat := ps.countP (fun x => x.f1)
theorem cnt_le (ps : List S108) : cnt ps ≤ ps.length := List.countP_le_length
theorem cnt_all {ps : List S108} (h : ff ps = ps.length) : cnt ps = ps.length := List.countP_eq_length.2 (fun a ha => by
  obtain ⟨i, hi, rfl⟩ := List.getElem_of_mem ha
  have := ff_tk (ps := ps) (j := i) (by omega)
  simpa [plc, hi] using this)
theorem cnt_set {ps : List S108} {i : Nat} (h : i < ps.length) (x : S108) : cnt (ps.set i x) = (cnt ps - if (plc ps i).f1 = true then 1 else 0) + if x.f1 = true then 1 else 0 := by
  unfold cnt
  rw [List.countP_set h]
  simp [plc, h]
theorem cnt_pos {ps : List S108} {i : Nat} (h : i < ps.length) (ht : (plc ps i).f1 = true) : 1 ≤ cnt ps := by
  have : 0 < ps.countP (fun x => x.f1) := List.countP_pos_iff.2 ⟨ps[i], List.getElem_mem _, by simpa [plc, h] using ht⟩
  exact this
theorem cnt_no {ps : List S108} {i : Nat} (h : i < ps.length) (ht : (plc ps i).f1 = false) : cnt ps < ps.length := by
  rcases Nat.lt_or_ge (cnt ps) ps.length with h' | h'
  · exact h'
  · have hc : cnt ps = ps.length := Nat.le_antisymm (cnt_le ps) h'
    have := List.countP_eq_length.1 hc ps[i] (List.getElem_mem _)
    simp [plc, h] at ht
    simp [ht] at this
theorem cnt_grow (ps : List S108) (i : Nat) : cnt (grow0 ps i) = cnt ps := by
  unfold grow0 cnt
  split
  · rfl
  · simp [List.countP_append]
theorem cnt_took {ps : List S108} (i : Nat) (hi : i ≤ ps.length) (h : i < ps.length → (plc ps i).f1 = false) : cnt (tookL ps i) = cnt ps + 1 := by
  unfold tookL
  rw [cnt_set (grow0_lt hi), cnt_grow]
  have : (plc (grow0 ps i) i).f1 = false := by
    rcases Nat.lt_or_ge i ps.length with hl | hl
    · rw [grow0_in hl]; exact h hl
    · obtain rfl : i = ps.length := by omega
      rw [grow0_out, plc_last]
  rw [this]
  simp
theorem cnt_freed {ps : List S108} {i : Nat} (h : i < ps.length) (ht : (plc ps i).f1 = true) : cnt (freed ps i) = cnt ps - 1 := by
  unfold freed
  rw [cnt_set h, ht]
  simp
theorem took_len {ps : List S108} {i : Nat} (hi : i ≤ ps.length) : (tookL ps i).length = if i < ps.length then ps.length else ps.length + 1 := by
  unfold tookL grow0
  split <;> simp
theorem plc_took {ps : List S108} {i : Nat} (hi : i ≤ ps.length) : plc (tookL ps i) i = ⟨turnOf ps i, true⟩ := plc_set (grow0_lt hi) _
theorem plc_took_ne {ps : List S108} {i k : Nat} (hk : i ≠ k) (hl : k < ps.length) : plc (tookL ps i) k = plc ps k := by
  unfold tookL
  rw [plc_set_ne hk]
  unfold grow0
  split
  · rfl
  · exact plc_snoc _ hl
theorem turnOf_ge {ps : List S108} {i : Nat} (hi : i < ps.length) : turnOf ps i = (plc ps i).f0 + 1 := turnOf_in hi
/-- What PoolUnlike's loop keeps. -/
structure Unl (ps : List S108) (hs : List S40) (bs : List Bool) (m c : Nat) : Prop where
  lb : bs.length = hs.length
  lc : hs.length ≤ c
  lp : ps.length ≤ m
  tb : ∀ k, k < ps.length → 0 ≤ (plc ps k).f0 ∧ (plc ps k).f0 ≤ c
  pl : ∀ k, k < hs.length → ∃ p : Nat, (hat hs k).f0 = (p : Int) ∧ p < ps.length ∧ (hat hs k).f1 ≤ (plc ps p).f0
  th : ∀ k, k < hs.length → bat bs k = hasB ps (hat hs k).f0 (hat hs k).f1
  ne : ∀ j k, j < k → k < hs.length → ¬ ((hat hs j).f0 = (hat hs k).f0 ∧ (hat hs j).f1 = (hat hs k).f1)
theorem Unl.zero (m : Nat) : Unl [] [] [] m 0 := ⟨rfl, Nat.le_refl _, Nat.zero_le _, fun k h => absurd h (Nat.not_lt_zero _), fun k h => absurd h (Nat.not_lt_zero _), fun k h => absurd h (Nat.not_lt_zero _), fun j k _ h => absurd h (Nat.not_lt_zero _)⟩
theorem hasB_at {ps : List S108} {p : Nat} {t : Int} (hp : p < ps.length) : hasB ps (p : Int) t = ((plc ps p).f1 && ((plc ps p).f0 == t)) := by
  unfold hasB
  rw [Int.toNat_natCast]
  simp [hp]
theorem Unl.up {ps : List S108} {hs : List S40} {bs : List Bool} {m c : Nat} (h : Unl ps hs bs m c) : Unl ps hs bs m (c + 1) := ⟨h.lb, by have := h.lc; omega, h.lp, fun k hk => by have := h.tb k hk; omega, h.pl, h.th, h.ne⟩
/-- The turn told is greater than any old handle's of that place. -/
theorem Unl.old {ps : List S108} {hs : List S40} {bs : List Bool} {m c : Nat} (h : Unl ps hs bs m c) {i : Nat} {k : Nat} (hk : k < hs.length) (he : (hat hs k).f0 = (i : Int)) : i < ps.length ∧ (hat hs k).f1 < turnOf ps i := by
  obtain ⟨p, h1, h2, h3⟩ := h.pl k hk
  obtain rfl : p = i := by omega
  exact ⟨h2, by rw [turnOf_in h2]; omega⟩
theorem Unl.bound {ps : List S108} {hs : List S40} {bs : List Bool} {m c : Nat} (h : Unl ps hs bs m c) {i : Nat} (hi : i ≤ ps.length) : 0 ≤ turnOf ps i ∧ turnOf ps i ≤ c + 1 := by
  rcases Nat.lt_or_ge i ps.length with hl | hl
  · rw [turnOf_in hl]
    have := h.tb i hl
    omega
  · obtain rfl : i = ps.length := by omega
    rw [turnOf_out]
    omega
theorem Unl.take {ps : List S108} {hs : List S40} {bs : List Bool} {m c : Nat} (h : Unl ps hs bs m c) {i : Nat} (hi : i ≤ ps.length) (hf : i < ps.length → (plc ps i).f1 = false) (hm : i < m) : Unl (tookL ps i) (hs ++ [⟨(i : Int), turnOf ps i⟩]) (bs ++ [true]) m (c + 1) := by
  have hlen : (tookL ps i).length = if i < ps.length then ps.length else ps.length + 1 := took_len hi
  have hge : ps.length ≤ (tookL ps i).length ∧ i < (tookL ps i).length ∧ (tookL ps i).length ≤ m := by
    have := h.lp
    rw [hlen]
    split <;> omega
  have hb := h.bound hi
  have hold : ∀ k, k < hs.length → hasB (tookL ps i) (hat hs k).f0 (hat hs k).f1 = hasB ps (hat hs k).f0 (hat hs k).f1 := by
    intro k hk
    obtain ⟨p, h1, h2, h3⟩ := h.pl k hk
    rw [h1, hasB_at h2, hasB_at (by omega)]
    rcases Nat.decEq i p with hne | rfl
    · rw [plc_took_ne hne h2]
    · rw [plc_took hi, hf h2]
      have := (h.old hk h1).2
      have e : ((turnOf ps i) == (hat hs k).f1) = false := by
        have : turnOf ps i ≠ (hat hs k).f1 := by omega
        simpa using this
      show (true && ((turnOf ps i) == (hat hs k).f1)) = _
      rw [e]
      rfl
  refine ⟨by simp [h.lb], by have := h.lc; simp; omega, hge.2.2, ?_, ?_, ?_, ?_⟩
  · intro k hk
    rcases Nat.decEq i k with hne | rfl
    · have hk2 : k < ps.length := by
        rw [hlen] at hk
        split at hk <;> omega
      rw [plc_took_ne hne hk2]
      have := h.tb k hk2
      omega
    · rw [plc_took hi]
      show 0 ≤ turnOf ps i ∧ turnOf ps i ≤ ((c + 1 : Nat) : Int)
      omega
  · intro k hk
    rw [List.length_append, List.length_singleton] at hk
    rcases Nat.lt_or_ge k hs.length with hk2 | hk2
    · rw [hat_snoc _ hk2]
      obtain ⟨p, h1, h2, h3⟩ := h.pl k hk2
      refine ⟨p, h1, by omega, ?_⟩
      rcases Nat.decEq i p with hne | rfl
      · rw [plc_took_ne hne h2]; exact h3
      · rw [plc_took hi]
        have := (h.old hk2 h1).2
        show (hat hs k).f1 ≤ turnOf ps i
        omega
    · obtain rfl : k = hs.length := by omega
      rw [hat_last]
      exact ⟨i, rfl, hge.2.1, by rw [plc_took hi]; exact Int.le_refl _⟩
  · intro k hk
    rw [List.length_append, List.length_singleton] at hk
    rcases Nat.lt_or_ge k hs.length with hk2 | hk2
    · rw [hat_snoc _ hk2, hold k hk2, ← h.th k hk2]
      simp [bat, List.getElem?_append_left (show k < bs.length by rw [h.lb]; exact hk2)]
    · obtain rfl : k = hs.length := by omega
      rw [hat_last]
      show _ = hasB (tookL ps i) (i : Int) (turnOf ps i)
      rw [hasB_at hge.2.1, plc_took hi]
      simp [bat, ← h.lb]
  · intro j k hjk hk
    rw [List.length_append, List.length_singleton] at hk
    rcases Nat.lt_or_ge k hs.length with hk2 | hk2
    · rw [hat_snoc _ hk2, hat_snoc _ (by omega)]
      exact h.ne j k hjk hk2
    · obtain rfl : k = hs.length := by omega
      rw [hat_last, hat_snoc _ hjk]
      rintro ⟨e1, e2⟩
      have := (h.old hjk e1).2
      simp at e2
      omega
theorem Unl.free {ps : List S108} {hs : List S40} {bs : List Bool} {m c : Nat} (h : Unl ps hs bs m c) {k p : Nat} (hk : k < hs.length) (hp : (hat hs k).f0 = (p : Int)) (hpl : p < ps.length) (ht : bat bs k = true) : Unl (freed ps p) hs (bs.set k false) m (c + 1) := by
  have hth := h.th k hk
  rw [ht, hp, hasB_at hpl] at hth
  have hth2 : (plc ps p).f1 = true ∧ (plc ps p).f0 = (hat hs k).f1 := by
    have := hth.symm
    simpa using this
  refine ⟨by simp [h.lb], by have := h.lc; omega, by rw [freed_len]; exact h.lp, ?_, ?_, ?_, h.ne⟩
  · intro q hq
    rw [freed_len] at hq
    have := h.tb q hq
    rcases Nat.decEq p q with hne | rfl
    · rw [plc_freed_ne hne]; omega
    · rw [plc_freed hpl]
      show 0 ≤ (plc ps p).f0 ∧ (plc ps p).f0 ≤ ((c + 1 : Nat) : Int)
      omega
  · intro j hj
    obtain ⟨q, h1, h2, h3⟩ := h.pl j hj
    refine ⟨q, h1, by rw [freed_len]; exact h2, ?_⟩
    rcases Nat.decEq p q with hne | rfl
    · rw [plc_freed_ne hne]; exact h3
    · rw [plc_freed hpl]; exact h3
  · intro j hj
    obtain ⟨q, h1, h2, h3⟩ := h.pl j hj
    have hthj := h.th j hj
    rw [h1, hasB_at h2] at hthj
    rw [h1, hasB_at (by rw [freed_len]; exact h2)]
    rcases Nat.decEq p q with hne | rfl
    · rw [plc_freed_ne hne, ← hthj]
      have hkj : k ≠ j := by
        rintro rfl
        omega
      simp [bat, List.getElem?_set_ne hkj]
    · rw [plc_freed hpl]
      show _ = (false && _)
      rw [Bool.false_and]
      rcases Nat.decEq k j with hkj | rfl
      · have e : bat (bs.set k false) j = bat bs j := by simp [bat, List.getElem?_set_ne hkj]
        rw [e, hthj]
        have : ((plc ps p).f0 == (hat hs j).f1) = false := by
          have : (plc ps p).f0 ≠ (hat hs j).f1 := by
            intro he
            rw [hth2.2] at he
            rcases Nat.lt_or_ge k j with hlt | hge
            · exact h.ne k j hlt hj ⟨by omega, he⟩
            · exact h.ne j k (by omega) hk ⟨by omega, he.symm⟩
          simpa using this
        rw [this, Bool.and_false]
      · simp [bat, show k < bs.length by rw [h.lb]; exact hk]
end Go.Proofs.YtphaaagcdjpceaaDoor
