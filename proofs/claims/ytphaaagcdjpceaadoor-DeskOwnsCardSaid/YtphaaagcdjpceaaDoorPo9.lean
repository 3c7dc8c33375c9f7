/- Handles in a row; what the laws' loops keep of the places and the handles told (plain). -/
import Derived.Test.YtphaaagcdjpceaaDoorPo8
namespace Go.Proofs.YtphaaagcdjpceaaDoor
open Go.RowKit Go.Extern.Stop Go.Stop Go.Extern Go.Proofs.YtphaaagcdjpceaaDoorW.PrintWords Go.Proofs.YtphaaagcdjpceaaDoorW.PrintLast Go.Proofs.YtphaaagcdjpceaaDoorW.PrintMore
set_option linter.unusedVariables false
/-- A mask of the low i bits of an int64. -/
theorem and_mask (x : Int) (i : Nat) (hi : i ≤ 62) : Go.bits .and .i64 x (2 ^ i - 1) = x % 2 ^ i := by
  have hp : (0 : Int) < 2 ^ i := Int.pow_pos (by decide)
  have hpn : 0 < 2 ^ i := Nat.two_pow_pos i
  have hle : (2 : Int) ^ i ≤ 2 ^ 62 := by
    have : (2 : Nat) ^ i ≤ 2 ^ 62 := Nat.pow_le_pow_right (by decide) hi
    exact_mod_cast this
  have hle' : (2 : Nat) ^ i ≤ 2 ^ 62 := Nat.pow_le_pow_right (by decide) hi
  have hm : (BitVec.ofInt 64 ((2 : Int) ^ i - 1)).toNat = 2 ^ i - 1 := by
    rw [BitVec.toNat_ofInt]
    have e : ((2 : Int) ^ i - 1) = ((2 ^ i - 1 : Nat) : Int) := by rw [Int.natCast_sub hpn]; simp
    rw [e]; omega
  have hx : (BitVec.ofInt 64 x).toNat = (x % 18446744073709551616).toNat := by rw [BitVec.toNat_ofInt]; rfl
  have h1 : (BitVec.ofInt 64 x &&& BitVec.ofInt 64 ((2 : Int) ^ i - 1)).toNat = (x % 18446744073709551616).toNat % 2 ^ i := by
    rw [BitVec.toNat_and, hx, hm, Nat.and_two_pow_sub_one_eq_mod]
  have h2 : (((x % 18446744073709551616).toNat % 2 ^ i : Nat) : Int) = x % 2 ^ i := by
    rw [Int.natCast_emod, Int.toNat_of_nonneg (Int.emod_nonneg _ (by decide))]
    have : ((2 ^ i : Nat) : Int) = (2 : Int) ^ i := by simp
    rw [this]
    exact Int.emod_emod_of_dvd x (by
      have : (18446744073709551616 : Int) = 2 ^ i * 2 ^ (64 - i) := by rw [← Int.pow_add, show i + (64 - i) = 64 from by omega]; rfl
      rw [this]; exact Int.dvd_mul_right _ _)
  show IntKind.i64.wrap (((BitVec.ofInt 64 x &&& BitVec.ofInt 64 ((2 : Int) ^ i - 1)).toNat : Nat) : Int) = _
  rw [h1, h2, IntKind.wrap_i64]
  have a := Int.emod_nonneg x (b := 2 ^ i) (by omega)
  have b := Int.emod_lt_of_pos x hp
  generalize x % 2 ^ i = z at *
  omega
/-- A style by the list of its numbers. -/
def lstF (l : List Int) (i : Nat) : Int := l.getD i 0
structure S40 where
  f0 : Int
  f1 : Int
def z40 : S40 := ⟨0, 0⟩
def k40 : Kd S40 := Kd.iso (Kd.pair (Kd.int .i64) (Kd.int .i64)) (fun x : S40 => (x.f0, x.f1))
theorem k40_open {w : World} {x : S40} {cs : List Value} (h : k40.K w x cs) : cs = [.int .i64 x.f0, .int .i64 x.f1] := by
  obtain ⟨_, _, rfl, rfl, rfl⟩ := h
  exact rfl
theorem k40_mkM (w : World) (base : Nat) (ok : Nat → Prop) (x : S40)  : k40.M w base ok x [.int .i64 x.f0, .int .i64 x.f1] := ⟨[.int .i64 x.f0], [.int .i64 x.f1], rfl, rfl, rfl⟩
theorem info40 : (Tryd.prog.info? 40).map (fun i => (i.zero, i.size, i.bytes)) = some (some (.agg #[.int .i64 0, .int .i64 0]), 2, 16) := by kernel_rfl
theorem E40 : ∀ q, q ∈ 40 :: k40.E → q = 40 := fun q hq => by simpa [k40, Kd.iso, Kd.pair, Kd.int, Kd.scalar] using hq
/-- Handle i. -/
def hat (xs : List S40) (i : Nat) : S40 := xs.getD i z40
/-- A row of handles of the call's own. -/
abbrev HR (W : World) (base : Nat) (v : Value) (hs : List S40) : Prop := Kd.R k40 40 W base (fun _ => True) v hs
theorem HR.fr {W W1 : World} {base b2 : Nat} {v : Value} {hs : List S40} (h : HR W base v hs) (hf : Fr b2 W W1) : HR W1 base v hs := R_keeps h hf.2 (fun q hq => by rw [E40 q hq]; decide)
theorem HR.below {W W1 : World} {base : Nat} {v : Value} {hs : List S40} (h : HR W base v hs) (hb : Below W.heap.size W W1) : HR W1 base v hs := Kd.R_below h hb
/-- What a run sees of a handle in a row, and what a store to it leaves. -/
structure OpH (W : World) (base : Nat) (hs : List S40) (i : Nat) (ad : Addr) (c : Nat) : Prop where
  x0 : W.cell? (ad.add (i * 2)) = some (.int .i64 (hat hs i).f0)
  x1 : W.cell? ⟨(ad.add (i * 2)).block, (ad.add (i * 2)).off + 1, none⟩ = some (.int .i64 (hat hs i).f1)
  y0 : W.frozen? (ad.add (i * 2)) = false
  y1 : W.frozen? ⟨(ad.add (i * 2)).block, (ad.add (i * 2)).off + 1, none⟩ = false
  x1s : ∀ u, (W.setCell (ad.add (i * 2)) u).cell? ⟨(ad.add (i * 2)).block, (ad.add (i * 2)).off + 1, none⟩ = some (.int .i64 (hat hs i).f1)
  put : ∀ p t, HR ((W.setCell (ad.add (i * 2)) (.int .i64 p)).setCell ⟨(ad.add (i * 2)).block, (ad.add (i * 2)).off + 1, none⟩ (.int .i64 t)) base (.slice (some ad) hs.length c) (hs.set i ⟨p, t⟩) ∧ Below base W ((W.setCell (ad.add (i * 2)) (.int .i64 p)).setCell ⟨(ad.add (i * 2)).block, (ad.add (i * 2)).off + 1, none⟩ (.int .i64 t)) ∧ Keeps [40] W ((W.setCell (ad.add (i * 2)) (.int .i64 p)).setCell ⟨(ad.add (i * 2)).block, (ad.add (i * 2)).off + 1, none⟩ (.int .i64 t))
theorem HR.form {W : World} {base : Nat} {v : Value} {hs : List S40} (h : HR W base v hs) (hp : 0 < hs.length) : ∃ ad c, v = .slice (some ad) hs.length c := by
  obtain ⟨g, c, hv, _⟩ := Kd.R_form h hp
  exact ⟨_, c, hv⟩
theorem HR.op {W : World} {base : Nat} {ad : Addr} {c : Nat} {hs : List S40} (h : HR W base (.slice (some ad) hs.length c) hs) (i : Nat) (hi : i < hs.length) : OpH W base hs i ad c := by
  obtain ⟨gb, c', hv, hgb, _, cur, hcur⟩ := Kd.R_form h (by omega)
  injection hv with ha _ hc
  injection ha with ha
  subst ha
  subst hc
  obtain ⟨hl, hc, hC⟩ := Kd.R_reads' h
  obtain ⟨ad, cs, e, _, hK, hc0⟩ := Kd.C_get hC z40 (i : Int) (by omega) (by omega)
  have hcc : ∀ j u, cs[j]? = some u → W.cell? (ad.add (i * 2 + j)) = some u := hc0
  obtain rfl := k40_open hK
  cases e
  have x0 : W.cell? ⟨gb, i * 2, none⟩ = some (.int .i64 (hat hs i).f0) := by rw [← add0_]; exact hcc 0 _ rfl
  have x1 : W.cell? ⟨gb, i * 2 + 1, none⟩ = some (.int .i64 (hat hs i).f1) := by rw [← add0_]; exact hcc 1 _ rfl
  constructor
  · rw [add0_]; exact x0
  · rw [add0_]; exact x1
  · rw [add0_]; exact blk_frozen hcur _
  · rw [add0_]; exact blk_frozen hcur _
  · intro u
    rw [add0_]
    refine Eq.trans ?_ x1
    have hne : (⟨gb, i * 2, none⟩ : Addr) ≠ ⟨gb, i * 2 + 1, none⟩ := fun h => by
      have := congrArg Addr.off h
      simp at this
    exact World.cell?_setCell_other _ _ _ _ hne
  · intro p t
    rw [add0_]
    have h1 := (Kd.R_seg (okp := fun _ => False) h (i : Int) (by omega) (by omega) (c := [.int .i64 (hat hs i).f0, .int .i64 (hat hs i).f1]) (seg := [.int .i64 p, .int .i64 t]) (j := 0) rfl (fun j u hu => by
      rcases j with _ | _ | j
      · cases hu; exact x0
      · cases hu; exact x1
      · simp at hu) (by show 0 + 2 ≤ 2; omega) (x' := ⟨p, t⟩) (k40_mkM _ _ _ _) (fun _ hk => hk.elim)).1
    have hs1 := blk_set hcur (i * 2) (.int .i64 p)
    exact ⟨h1, ((Below.refl base W).setCell (p := ⟨gb, i * 2, none⟩) hgb _).setCell (p := ⟨gb, i * 2 + 1, none⟩) hgb _, ((Keeps.refl [40] W).set hcur (by decide) _ _).set hs1 (by decide) _ _⟩
theorem St.keeps {w W W1 : World} {g : Nat} {most : Int} {ps : List S108} {n : Int} (h : St w W g most ps n) (hb : Below w.heap.size W W1) (hk : Keeps [40] W W1) : St w W1 g most ps n := ⟨h.pl.keeps hk ⟨by decide, by decide⟩, h.bl.trans hb⟩
theorem keeps_app40 {wr w8 : World} {base : Nat} {v : Value} {xs : List S40} (hr : HR wr base v xs) (hg : wr.grownBy w8 v.ownBlock) : Keeps [40] wr w8 := ⟨hg.size, fun k cs t fr hk ht => hg.block k (blk_lt hk) (by
  intro he
  obtain ⟨_, inner, ho, _⟩ := hr
  obtain ⟨cells, hc⟩ := own_typed ho k he.symm
  rw [hc] at hk
  injection hk with hk
  injection hk with _ hk
  subst hk
  exact ht (by simp))⟩
theorem below_app40 {wr w8 : World} {base : Nat} {v : Value} {xs : List S40} (hr : HR wr base v xs) (hb : base ≤ wr.heap.size) (hg : wr.grownBy w8 v.ownBlock) : Below base wr w8 := pw_below_grown (Below.refl base wr) _ hb hg (fun k hk => by
    rcases Kd.R_base2 hr with h | ⟨q, h, hq⟩
    · rw [h] at hk; cases hk
    · rw [h] at hk; injection hk with hk; omega)
theorem i64_of_wf {x : Int} (h : (Lit.int .i64 x).wf = true) : -9223372036854775808 ≤ x ∧ x ≤ 9223372036854775807 := by
  simp [Lit.wf, IntKind.min, IntKind.max, IntKind.signed, IntKind.bits] at h
  omega
/-- A row of integers that came in. -/
def InRow (w : World) (a : Option Addr) (len cap : Nat) (zs : List Int) : Prop :=
  (a = none ∧ len = 0 ∧ cap = 0 ∧ zs = []) ∨
  ∃ x, a = some x ∧ len ≤ cap ∧ cap ≤ maxLen ∧ zs.length = cap ∧ (∀ i, i < zs.length → w.cell? (x.add i) = some (.int .i64 (zs.getD i 0))) ∧ ∀ n ∈ zs, (Lit.int .i64 n).wf = true
theorem InRow.below {w W : World} {a : Option Addr} {len cap : Nat} {zs : List Int} (h : InRow w a len cap zs) (hb : Below w.heap.size w W) : InRow W a len cap zs := by
  rcases h with h | ⟨x, h1, h2, h3, h4, h5, h6⟩
  · exact .inl h
  · exact .inr ⟨x, h1, h2, h3, h4, fun i hi => (hb.cell (cell_lt (h5 i hi))).trans (h5 i hi), h6⟩
theorem InRow.at_ {w : World} {a : Option Addr} {len cap : Nat} {zs : List Int} (h : InRow w a len cap zs) (i : Nat) (hi : i < len) : ∃ x n, a = some x ∧ w.cell? (x.add i) = some (.int .i64 n) ∧ -9223372036854775808 ≤ n ∧ n ≤ 9223372036854775807 := by
  rcases h with ⟨_, h, _⟩ | ⟨x, h1, h2, h3, h4, h5, h6⟩
  · omega
  · refine ⟨x, zs.getD i 0, h1, h5 i (by omega), ?_⟩
    have hm : zs.getD i 0 ∈ zs := by
      have e : zs.getD i 0 = zs[i]'(by omega) := by simp [show i < zs.length by omega]
      rw [e]
      exact List.getElem_mem _
    exact i64_of_wf (h6 _ hm)
/-! plain -/
theorem plc_set_ne {ps : List S108} {i k : Nat} (h : i ≠ k) (x : S108) : plc (ps.set i x) k = plc ps k := by simp [plc, List.getElem?_set_ne h]
theorem hat_set {hs : List S40} {i : Nat} (h : i < hs.length) (x : S40) : hat (hs.set i x) i = x := by simp [hat, h]
theorem hat_set_ne {hs : List S40} {i k : Nat} (h : i ≠ k) (x : S40) : hat (hs.set i x) k = hat hs k := by simp [hat, List.getElem?_set_ne h]
theorem plc_snoc {ps : List S108} {k : Nat} (x : S108) (h : k < ps.length) : plc (ps ++ [x]) k = plc ps k := by simp [plc, List.getElem?_append_left h]
theorem plc_last (ps : List S108) (x : S108) : plc (ps ++ [x]) ps.length = x := by simp [plc]
theorem hat_snoc {hs : List S40} {k : Nat} (x : S40) (h : k < hs.length) : hat (hs ++ [x]) k = hat hs k := by simp [hat, List.getElem?_append_left h]
theorem hat_last (hs : List S40) (x : S40) : hat (hs ++ [x]) hs.length = x := by simp [hat]
theorem grow0_in {ps : List S108} {i : Nat} (h : i < ps.length) : grow0 ps i = ps := if_pos h
theorem turnOf_in {ps : List S108} {i : Nat} (h : i < ps.length) : turnOf ps i = (plc ps i).f0 + 1 := by unfold turnOf; rw [grow0_in h]
theorem tookL_in {ps : List S108} {i : Nat} (h : i < ps.length) : tookL ps i = ps.set i ⟨(plc ps i).f0 + 1, true⟩ := by unfold tookL; rw [turnOf_in h, grow0_in h]
theorem grow0_out (ps : List S108) : grow0 ps ps.length = ps ++ [⟨0, false⟩] := if_neg (Nat.lt_irrefl _)
theorem turnOf_out (ps : List S108) : turnOf ps ps.length = 1 := by unfold turnOf; rw [grow0_out, plc_last]; rfl
theorem tookL_out (ps : List S108) : tookL ps ps.length = ps ++ [⟨1, true⟩] := by unfold tookL; rw [turnOf_out, grow0_out]; simp
/-- All of j places are taken, and the handles are theirs; so many turns at most. -/
structure Als (ps : List S108) (hs : List S40) (c : Int) (j : Nat) : Prop where
  lp : ps.length = j
  lh : hs.length = j
  tk : ∀ k, k < j → (plc ps k).f1 = true
  eh : ∀ k, k < j → hat hs k = ⟨(k : Int), (plc ps k).f0⟩
  t1 : ∀ k, k < j → 1 ≤ (plc ps k).f0 ∧ (plc ps k).f0 ≤ 1 + c
theorem Als.zero : Als [] [] 0 0 := ⟨rfl, rfl, fun k h => absurd h (by omega), fun k h => absurd h (by omega), fun k h => absurd h (by omega)⟩
theorem Als.snoc {ps : List S108} {hs : List S40} {j : Nat} (h : Als ps hs 0 j) : Als (ps ++ [⟨1, true⟩]) (hs ++ [⟨(j : Int), 1⟩]) 0 (j + 1) := by
  have hp := h.lp
  have hh := h.lh
  have key : ∀ k, k < j + 1 → (plc (ps ++ [⟨1, true⟩]) k).f1 = true ∧ hat (hs ++ [⟨(j : Int), 1⟩]) k = ⟨(k : Int), (plc (ps ++ [⟨1, true⟩]) k).f0⟩ ∧ 1 ≤ (plc (ps ++ [⟨1, true⟩]) k).f0 ∧ (plc (ps ++ [⟨1, true⟩]) k).f0 ≤ 1 + 0 := by
    intro k hk
    rcases Nat.lt_or_ge k j with hlt | hge
    · rw [plc_snoc _ (by omega), hat_snoc _ (by omega)]
      exact ⟨h.tk k hlt, h.eh k hlt, h.t1 k hlt⟩
    · obtain rfl : k = j := by omega
      have e1 : plc (ps ++ [⟨1, true⟩]) k = ⟨1, true⟩ := by rw [← hp]; exact plc_last _ _
      have e2 : hat (hs ++ [⟨(k : Int), 1⟩]) k = ⟨(k : Int), 1⟩ := by
        have := hat_last hs ⟨(k : Int), 1⟩
        rw [hh] at this
        exact this
      rw [e1, e2]
      exact ⟨rfl, rfl, by decide, by decide⟩
  exact ⟨by simp [hp], by simp [hh], fun k hk => (key k hk).1, fun k hk => (key k hk).2.1, fun k hk => (key k hk).2.2⟩
/-- One place is taken anew. -/
theorem Als.again {ps : List S108} {hs : List S40} {c : Int} {j a : Nat} (h : Als ps hs c j) (ha : a < j) : Als (ps.set a ⟨(plc ps a).f0 + 1, true⟩) (hs.set a ⟨(a : Int), (plc ps a).f0 + 1⟩) (c + 1) j := by
  have hp := h.lp
  have hh := h.lh
  have key : ∀ k, k < j → (plc (ps.set a ⟨(plc ps a).f0 + 1, true⟩) k).f1 = true ∧ hat (hs.set a ⟨(a : Int), (plc ps a).f0 + 1⟩) k = ⟨(k : Int), (plc (ps.set a ⟨(plc ps a).f0 + 1, true⟩) k).f0⟩ ∧ 1 ≤ (plc (ps.set a ⟨(plc ps a).f0 + 1, true⟩) k).f0 ∧ (plc (ps.set a ⟨(plc ps a).f0 + 1, true⟩) k).f0 ≤ 1 + (c + 1) := by
    intro k hk
    have hb := h.t1 k hk
    rcases Nat.decEq a k with hne | rfl
    · rw [plc_set_ne hne, hat_set_ne hne]
      exact ⟨h.tk k hk, h.eh k hk, hb.1, by omega⟩
    · rw [plc_set (by omega), hat_set (by omega)]
      refine ⟨rfl, rfl, ?_, ?_⟩
      · show 1 ≤ (plc ps a).f0 + 1; omega
      · show (plc ps a).f0 + 1 ≤ 1 + (c + 1); omega
  exact ⟨by simp [hp], by simp [hh], fun k hk => (key k hk).1, fun k hk => (key k hk).2.1, fun k hk => (key k hk).2.2⟩
theorem Als.up {ps : List S108} {hs : List S40} {c d : Int} {j : Nat} (h : Als ps hs c j) (hd : c ≤ d) : Als ps hs d j := ⟨h.lp, h.lh, h.tk, h.eh, fun k hk => ⟨(h.t1 k hk).1, by have := (h.t1 k hk).2; omega⟩⟩
theorem hasB_of {ps : List S108} {i : Nat} {t : Int} (hi : i < ps.length) (h1 : (plc ps i).f1 = true) (h2 : (plc ps i).f0 = t) : hasB ps (i : Int) t = true := by
  unfold hasB
  rw [Int.toNat_natCast, h1, h2]
  simp [hi]
theorem hasB_no {ps : List S108} {i : Nat} {t : Int} (h1 : (plc ps i).f1 = false) : hasB ps (i : Int) t = false := by
  unfold hasB
  rw [Int.toNat_natCast, h1]
  simp
/-- Place i is freed. -/
def freed (ps : List S108) (i : Nat) : List S108 := ps.set i ⟨(plc ps i).f0, false⟩
theorem freed_len (ps : List S108) (i : Nat) : (freed ps i).length = ps.length := List.length_set
theorem plc_freed {ps : List S108} {i : Nat} (h : i < ps.length) : plc (freed ps i) i = ⟨(plc ps i).f0, false⟩ := plc_set h _
theorem plc_freed_ne {ps : List S108} {i k : Nat} (h : i ≠ k) : plc (freed ps i) k = plc ps k := plc_set_ne h _
theorem turn_freed {ps : List S108} {i : Nat} (h : i < ps.length) : turnOf (freed ps i) i = (plc ps i).f0 + 1 := by
  rw [turnOf_in (by rw [freed_len]; exact h), plc_freed h]
theorem took_freed {ps : List S108} {i : Nat} (h : i < ps.length) : tookL (freed ps i) i = ps.set i ⟨(plc ps i).f0 + 1, true⟩ := by
  rw [tookL_in (by rw [freed_len]; exact h), plc_freed h]
  exact List.set_set _
theorem turn_freed2 {ps : List S108} {i b : Nat} (hb : b ≠ i) (h : i < ps.length) : turnOf (freed (freed ps b) i) i = (plc ps i).f0 + 1 := by
  rw [turn_freed (by rw [freed_len]; exact h), plc_freed_ne hb]
theorem took_freed2 {ps : List S108} {i b : Nat} (hb : b ≠ i) (h : i < ps.length) : tookL (freed (freed ps b) i) i = freed (ps.set i ⟨(plc ps i).f0 + 1, true⟩) b := by
  rw [took_freed (by rw [freed_len]; exact h), plc_freed_ne hb]
  unfold freed
  rw [plc_set_ne (fun e => hb e.symm)]
  exact List.set_comm _ _ hb
end Go.Proofs.YtphaaagcdjpceaaDoor
