import Derived.Test.YtphaaagcdjpceaaDoorMC
import Derived.Test.YtphaaagcdjpceaaDoorMA
import Derived.Test.YtphaaagcdjpceaaDoorMB
import Derived.Maps.Views
import Derived.Maps.Range
import Derived.Maps.RangeWalk
import Derived.Lib.SlKeysI
import Derived.Lib.SlBytesConst
import Derived.Deep.RegionHeld3
import Derived.Deep.QuietTactic
import Derived.BigQuiet
namespace Go.Proofs.YtphaaagcdjpceaaDoor
open Go.RowKit Go.Extern.Stop Go.Stop Go.Extern Go.Proofs.YtphaaagcdjpceaaDoorW.PrintWords Go.Proofs.YtphaaagcdjpceaaDoorW.PrintLast Go.Proofs.YtphaaagcdjpceaaDoorW.PrintMore
open Go.Maps (Keyed)
set_option linter.unusedVariables false
theorem DK.lt {W : World} {base d pg M : Nat} {most n : Int} {ps : List S108} {snaps : Int} {cap : Nat} {D : DataW Unit} (h : DK W base d pg M most n ps snaps cap D) (k : Nat) (hk : k = d ∨ k = pg ∨ some k = abk W pg ∨ k = M) : k < W.heap.size := by
  rcases hk with rfl | rfl | hk | rfl
  · exact blk_lt h.hd
  · exact h.pl.glt
  · exact (h.pl.abl k hk).2
  · exact h.mp.lt
theorem DK.same {W W1 : World} {base d pg M : Nat} {most n : Int} {ps : List S108} {snaps : Int} {cap : Nat} {D : DataW Unit} (h : DK W base d pg M most n ps snaps cap D) (hs : ∀ k, (k = d ∨ k = pg ∨ some k = abk W pg ∨ k = M) → W1.heap[k]? = W.heap[k]?) : DK W1 base d pg M most n ps snaps cap D := by
  obtain ⟨h1, h2, ⟨es, clock, hm, r⟩⟩ := h
  exact ⟨(hs d (.inl rfl)).trans h1, h2.same (hs pg (.inr (.inl rfl))) (fun k hk => hs k (.inr (.inr (.inl hk)))), ⟨es, clock, (hs M (.inr (.inr (.inr rfl)))).trans hm, r⟩⟩
def upF (F : Int → Nat × Sn) (x : Int) (v : Nat × Sn) : Int → Nat × Sn := fun y => if y = x then v else F y
theorem upF_same (F : Int → Nat × Sn) (x : Int) (v : Nat × Sn) : upF F x v x = v := by simp [upF]
theorem upF_other {F : Int → Nat × Sn} {x y : Int} (v : Nat × Sn) (h : y ≠ x) : upF F x v y = F y := by simp [upF, h]
abbrev hasI (D : DataW Unit) (x : Int) : Prop := Go.Maps.has D (.int .i64 x) = true
structure Dsk (W : World) (base d pg M : Nat) (most n : Int) (ps : List S108) (snaps : Int) (cap : Nat) (D : DataW Unit) (sm : Int) (F : Int → Nat × Sn) : Prop where
  dk : DK W base d pg M most n ps snaps cap D
  at_ : ∀ x, hasI D x → D.atKey (.int .i64 x) .nil = .lit (.int .i64 ((F x).1 : Int)) ∧ SS W base (F x).1 sm (F x).2
  far : ∀ x, hasI D x → ∀ k, foot W (F x).1 (F x).2 k → k ≠ d ∧ k ≠ pg ∧ some k ≠ abk W pg ∧ k ≠ M
  apart : ∀ x y, hasI D x → hasI D y → x ≠ y → ∀ k, foot W (F x).1 (F x).2 k → ¬ foot W (F y).1 (F y).2 k
section
variable {W W1 : World} {base d pg M : Nat} {most n : Int} {ps : List S108} {snaps : Int} {cap : Nat} {D : DataW Unit} {sm : Int} {F : Int → Nat × Sn}
theorem Dsk.below (h : Dsk W base d pg M most n ps snaps cap D sm F) (hb : Below W.heap.size W W1) : Dsk W1 base d pg M most n ps snaps cap D sm F := by
  have hf : ∀ x, hasI D x → ∀ k, foot W1 (F x).1 (F x).2 k ↔ foot W (F x).1 (F x).2 k := fun x hx k => foot_same (hb.block _ ((h.at_ x hx).2.lt _ (.inr (.inl rfl))).2) k
  have ha : abk W1 pg = abk W pg := abk_same (hb.block pg h.dk.pl.glt)
  refine ⟨h.dk.below hb, fun x hx => ⟨(h.at_ x hx).1, (h.at_ x hx).2.below hb⟩, fun x hx k hk => ?_, fun x y hx hy hne k hk hk2 => ?_⟩
  · rw [ha]; exact h.far x hx k ((hf x hx k).1 hk)
  · exact h.apart x y hx hy hne k ((hf x hx k).1 hk) ((hf y hy k).1 hk2)
theorem Dsk.turn (h : Dsk W base d pg M most n ps snaps cap D sm F) {x : Int} (hx : hasI D x) {s' : Sn} (hs : SS W1 base (F x).1 sm s') (hft : ∀ k, foot W1 (F x).1 s' k → foot W (F x).1 (F x).2 k ∨ W.heap.size ≤ k)
    (ho : ∀ k, k < W.heap.size → ¬ foot W (F x).1 (F x).2 k → W1.heap[k]? = W.heap[k]?) : Dsk W1 base d pg M most n ps snaps cap D sm (upF F x ((F x).1, s')) := by
  have hdk : ∀ k, (k = d ∨ k = pg ∨ some k = abk W pg ∨ k = M) → W1.heap[k]? = W.heap[k]? := fun k hk => ho k (h.dk.lt k hk) (fun hf => by
    have := h.far x hx k hf
    rcases hk with rfl | rfl | hk | rfl
    · exact this.1 rfl
    · exact this.2.1 rfl
    · exact this.2.2.1 hk
    · exact this.2.2.2 rfl)
  have ha : abk W1 pg = abk W pg := abk_same (hdk pg (.inr (.inl rfl)))
  have hsm : ∀ y, hasI D y → y ≠ x → ∀ k, foot W (F y).1 (F y).2 k → W1.heap[k]? = W.heap[k]? := fun y hy hne k hk => ho k ((h.at_ y hy).2.lt k hk).2 (fun hf => h.apart y x hy hx hne k hk hf)
  have hf : ∀ y, hasI D y → y ≠ x → ∀ k, foot W1 (F y).1 (F y).2 k ↔ foot W (F y).1 (F y).2 k := fun y hy hne k => foot_same (hsm y hy hne _ (.inr (.inl rfl))) k
  refine ⟨h.dk.same hdk, fun y hy => ?_, fun y hy k hk => ?_, fun y z hy hz hne k hk hk2 => ?_⟩
  · by_cases e : y = x
    · subst e; rw [upF_same]; exact ⟨(h.at_ y hy).1, hs⟩
    · rw [upF_other _ e]; exact ⟨(h.at_ y hy).1, (h.at_ y hy).2.same (hsm y hy e)⟩
  · rw [ha]
    by_cases e : y = x
    · subst e; rw [upF_same] at hk
      rcases hft k hk with h1 | h1
      · exact h.far y hy k h1
      · refine ⟨?_, ?_, ?_, ?_⟩
        · have := h.dk.lt d (.inl rfl); omega
        · have := h.dk.lt pg (.inr (.inl rfl)); omega
        · intro h2; have := h.dk.lt k (.inr (.inr (.inl h2))); omega
        · have := h.dk.lt M (.inr (.inr (.inr rfl))); omega
    · rw [upF_other _ e] at hk
      exact h.far y hy k ((hf y hy e k).1 hk)
  · by_cases e : y = x
    · subst e
      rw [upF_same] at hk
      have e2 : z ≠ y := fun e => hne e.symm
      rw [upF_other _ e2] at hk2
      have h2 := (hf z hz e2 k).1 hk2
      rcases hft k hk with h1 | h1
      · exact h.apart y z hy hz hne k h1 h2
      · have := ((h.at_ z hz).2.lt k h2).2; omega
    · rw [upF_other _ e] at hk
      have h1 := (hf y hy e k).1 hk
      by_cases e2 : z = x
      · subst e2
        rw [upF_same] at hk2
        rcases hft k hk2 with h2 | h2
        · exact h.apart y z hy hz hne k h1 h2
        · have := ((h.at_ y hy).2.lt k h1).2; omega
      · rw [upF_other _ e2] at hk2
        exact h.apart y z hy hz hne k h1 ((hf z hz e2 k).1 hk2)
theorem Dsk.turnDF (h : Dsk W base d pg M most n ps snaps cap D sm F) {x : Int} (hx : hasI D x) {s' : Sn} (hs : SS W1 base (F x).1 sm s') (h1 : s'.sg = (F x).2.sg) (h2 : s'.mb = (F x).2.mb) (h3 : s'.bv = (F x).2.bv) (hd : DF (F x).2.sg (F x).2.mb W W1) : Dsk W1 base d pg M most n ps snaps cap D sm (upF F x ((F x).1, s')) := by
  refine h.turn hx hs (fun k hk => ?_) (fun k hk hn => hd.block k hk (fun e => hn (.inr (.inl e))) (fun e => hn (.inr (.inr (.inl e)))) (fun e => hn (.inr (.inr (.inr (.inl e))))))
  rcases hk with e | e | e | e | e
  · exact .inl (.inl e)
  · rw [h1] at e; exact .inl (.inr (.inl e))
  · rw [h1] at e
    rcases hd.row with h4 | ⟨b, h4, h5⟩
    · rw [h4] at e; exact .inl (.inr (.inr (.inl e)))
    · rw [h4] at e; injection e with e; subst e; exact .inr h5
  · rw [h2] at e; exact .inl (.inr (.inr (.inr (.inl e))))
  · rw [h3] at e; exact .inl (.inr (.inr (.inr (.inr e))))
theorem Dsk.turnSF (h : Dsk W base d pg M most n ps snaps cap D sm F) {x : Int} (hx : hasI D x) {s' : Sn} (hs : SS W1 base (F x).1 sm s') (h1 : s'.sg = (F x).2.sg) (h2 : s'.mb = (F x).2.mb) (h3 : ∀ k, some k = s'.bv.ownBlock → W.heap.size ≤ k) (hd : SF (F x).1 W W1) : Dsk W1 base d pg M most n ps snaps cap D sm (upF F x ((F x).1, s')) := by
  have hS := (h.at_ x hx).2
  have e0 : abk W1 (F x).2.sg = abk W (F x).2.sg := abk_same (hd.block _ (hS.lt _ (.inr (.inl rfl))).2 (fun e => hS.apart.1 e.symm))
  refine h.turn hx hs (fun k hk => ?_) (fun k hk hn => hd.block k hk (fun e => hn (.inl e)))
  rcases hk with e | e | e | e | e
  · exact .inl (.inl e)
  · rw [h1] at e; exact .inl (.inr (.inl e))
  · rw [h1, e0] at e; exact .inl (.inr (.inr (.inl e)))
  · rw [h2] at e; exact .inl (.inr (.inr (.inr (.inl e))))
  · exact .inr (h3 k e)
theorem isKey_int (x : Int) : Go.WideAt.IsKeyLit (.int .i64 x) := by
  first | trivial | exact ⟨_, _, rfl⟩ | simp [Go.WideAt.IsKeyLit]
theorem hasI_put {D : DataW Unit} (hD : Go.Maps.IsMap D) (i y : Int) (v : DataW Unit) : hasI (D.put (.int .i64 i) v) y ↔ y = i ∨ hasI D y := by
  by_cases e : y = i
  · subst e; simp [hasI, Go.Maps.has_put_same hD (isKey_int y) v]
  · simp [hasI, e, Go.Maps.has_put_other (show Lit.int .i64 y ≠ .int .i64 i from fun h => e (by injection h)) v]
theorem at_putI {D : DataW Unit} (hD : Go.Maps.IsMap D) (i y : Int) (v z : DataW Unit) : (D.put (.int .i64 i) v).atKey (.int .i64 y) z = if y = i then v else D.atKey (.int .i64 y) z := by
  by_cases e : y = i
  · subst e; simp [Go.Maps.atKey_put_same hD (isKey_int y) v z]
  · simp [e, Go.Maps.atKey_put_other (show Lit.int .i64 y ≠ .int .i64 i from fun h => e (by injection h)) v z]
theorem hasI_del {D : DataW Unit} (i y : Int) : hasI (D.del (.int .i64 i)) y ↔ y ≠ i ∧ hasI D y := by
  by_cases e : y = i
  · subst e; simp [hasI, Go.Maps.has_del_same]
  · simp [hasI, e, Go.Maps.has_del_other (show Lit.int .i64 y ≠ .int .i64 i from fun h => e (by injection h))]
theorem at_delI {D : DataW Unit} {i y : Int} (e : y ≠ i) (z : DataW Unit) : (D.del (.int .i64 i)).atKey (.int .i64 y) z = D.atKey (.int .i64 y) z :=
  Go.Maps.atKey_del_other (show Lit.int .i64 y ≠ .int .i64 i from fun h => e (by injection h)) z
theorem Dsk.turnD (h : Dsk W base d pg M most n ps snaps cap D sm F) {n2 : Int} {ps2 : List S108} {cap2 : Nat} {D2 : DataW Unit} (hk : DK W1 base d pg M most n2 ps2 snaps cap2 D2) (hd : DF pg M W W1) (hs : ∀ x, hasI D2 x → hasI D x ∧ D2.atKey (.int .i64 x) .nil = D.atKey (.int .i64 x) .nil) : Dsk W1 base d pg M most n2 ps2 snaps cap2 D2 sm F := by
  have hsm : ∀ x, hasI D x → ∀ k, foot W (F x).1 (F x).2 k → W1.heap[k]? = W.heap[k]? := fun x hx k hf => hd.block k ((h.at_ x hx).2.lt k hf).2 (h.far x hx k hf).2.1 (h.far x hx k hf).2.2.1 (h.far x hx k hf).2.2.2
  have hf : ∀ x, hasI D x → ∀ k, foot W1 (F x).1 (F x).2 k ↔ foot W (F x).1 (F x).2 k := fun x hx k => foot_same (hsm x hx _ (.inr (.inl rfl))) k
  refine ⟨hk, fun x hx => ?_, fun x hx k hk => ?_, fun x y hx hy hne k hk hk2 => ?_⟩
  · obtain ⟨h1, h2⟩ := hs x hx
    rw [h2]; exact ⟨(h.at_ x h1).1, (h.at_ x h1).2.same (hsm x h1)⟩
  · obtain ⟨h1, h2⟩ := hs x hx
    have hk' := (hf x h1 k).1 hk
    have hfa := h.far x h1 k hk'
    refine ⟨hfa.1, hfa.2.1, ?_, hfa.2.2.2⟩
    rcases hd.row with e | ⟨b, e, hb⟩
    · rw [e]; exact hfa.2.2.1
    · rw [e]; intro he; injection he with he; have := ((h.at_ x h1).2.lt k hk').2; omega
  · exact h.apart x y (hs x hx).1 (hs y hy).1 hne k ((hf x (hs x hx).1 k).1 hk) ((hf y (hs y hy).1 k).1 hk2)
theorem Dsk.close (h : Dsk W base d pg M most n ps snaps cap D sm F) {n2 : Int} {ps2 : List S108} {i : Int} (hk : DK W1 base d pg M most n2 ps2 snaps cap (D.del (.int .i64 i))) (hd : DF pg M W W1) : Dsk W1 base d pg M most n2 ps2 snaps cap (D.del (.int .i64 i)) sm F :=
  h.turnD hk hd (fun x hx => by
    have := (hasI_del i x).1 hx
    exact ⟨this.2, at_delI this.1 _⟩)
theorem MP.isMap {W : World} {M n : Nat} {D : DataW Unit} (h : MP W M n D) : Go.Maps.IsMap D := by
  obtain ⟨es, clock, _, _, _, rfl⟩ := h
  exact ⟨_, rfl⟩
theorem Dsk.open_ (h : Dsk W base d pg M most n ps snaps cap D sm F) (hlo : base ≤ W.heap.size) {n2 : Int} {ps2 : List S108} {i : Int} {sb sg mb : Nat} (hi : ¬ hasI D i) (ho : Opn base d pg M most n2 ps2 snaps (cap + 1) (D.put (.int .i64 i) (.lit (.int .i64 (sb : Int)))) sm sb sg mb W W1) :
    Dsk W1 base d pg M most n2 ps2 snaps (cap + 1) (D.put (.int .i64 i) (.lit (.int .i64 (sb : Int)))) sm (upF F i (sb, newS sg mb)) := by
  have hD := h.dk.mp.isMap
  have hsm : ∀ x, hasI D x → ∀ k, foot W (F x).1 (F x).2 k → W1.heap[k]? = W.heap[k]? := fun x hx k hf => ho.df.block k ((h.at_ x hx).2.lt k hf).2 (h.far x hx k hf).2.1 (h.far x hx k hf).2.2.1 (h.far x hx k hf).2.2.2
  have hf : ∀ x, hasI D x → ∀ k, foot W1 (F x).1 (F x).2 k ↔ foot W (F x).1 (F x).2 k := fun x hx k => foot_same (hsm x hx _ (.inr (.inl rfl))) k
  have hnew : ∀ k, foot W1 sb (newS sg mb) k → W.heap.size ≤ k := fun k hk => (ho.ss.lt k hk).1
  have hold : ∀ x, hasI (D.put (.int .i64 i) (.lit (.int .i64 (sb : Int)))) x → x ≠ i → hasI D x := fun x hx hne => by
    rcases (hasI_put hD i x _).1 hx with e | e
    · exact absurd e hne
    · exact e
  refine ⟨ho.dk, fun x hx => ?_, fun x hx k hk => ?_, fun x y hx hy hne k hk hk2 => ?_⟩
  · rw [at_putI hD]
    by_cases e : x = i
    · subst e; rw [upF_same, if_pos rfl]; exact ⟨rfl, ho.ss.lower hlo⟩
    · have hx' := hold x hx e
      rw [upF_other _ e, if_neg e]; exact ⟨(h.at_ x hx').1, (h.at_ x hx').2.same (hsm x hx')⟩
  · by_cases e : x = i
    · subst e; rw [upF_same] at hk
      have hk0 := hnew k hk
      refine ⟨?_, ?_, ?_, ?_⟩
      · have := h.dk.lt d (.inl rfl); omega
      · have := h.dk.lt pg (.inr (.inl rfl)); omega
      · rcases hk with e | e | e | e | e
        · subst e; intro h2
          obtain ⟨g0, A, c, p1, p2⟩ := ho.dk.pl
          rw [abk_of ((blk_cell p1 1).trans (show _ = some (Value.slice A ps2.length c) from rfl))] at h2
          obtain ⟨cells, hc⟩ := Kd.R_typed p2 _ h2.symm
          have h3 := hc.symm.trans ho.ss.hd
          injection h3 with h3; injection h3 with _ h3 _; exact absurd h3 (by decide)
        · subst e; intro h2
          obtain ⟨g0, A, c, p1, p2⟩ := ho.dk.pl
          rw [abk_of ((blk_cell p1 1).trans (show _ = some (Value.slice A ps2.length c) from rfl))] at h2
          obtain ⟨cells, hc⟩ := Kd.R_typed p2 _ h2.symm
          obtain ⟨g0, A, c, q1, q2⟩ := ho.ss.pl
          have h3 := hc.symm.trans q1
          injection h3 with h3; injection h3 with _ h3 _; exact absurd h3 (by decide)
        · exact ho.fr k e
        · subst e; intro h2
          obtain ⟨g0, A, c, p1, p2⟩ := ho.dk.pl
          rw [abk_of ((blk_cell p1 1).trans (show _ = some (Value.slice A ps2.length c) from rfl))] at h2
          obtain ⟨cells, hc⟩ := Kd.R_typed p2 _ h2.symm
          obtain ⟨es, clock, hm, r⟩ := ho.ss.mp
          have h3 := hc.symm.trans hm
          cases h3
        · simp [newS, Value.ownBlock] at e
      · have := h.dk.lt M (.inr (.inr (.inr rfl))); omega
    · have hx' := hold x hx e
      rw [upF_other _ e] at hk
      have hk' := (hf x hx' k).1 hk
      have hfa := h.far x hx' k hk'
      refine ⟨hfa.1, hfa.2.1, ?_, hfa.2.2.2⟩
      rcases ho.df.row with e | ⟨b, e, hb⟩
      · rw [e]; exact hfa.2.2.1
      · rw [e]; intro he; injection he with he; have := ((h.at_ x hx').2.lt k hk').2; omega
  · by_cases e : x = i
    · subst e
      rw [upF_same] at hk
      have e2 : y ≠ x := fun e => hne e.symm
      have hy' := hold y hy e2
      rw [upF_other _ e2] at hk2
      have := ((h.at_ y hy').2.lt k ((hf y hy' k).1 hk2)).2
      have := hnew k hk
      omega
    · have hx' := hold x hx e
      rw [upF_other _ e] at hk
      by_cases e2 : y = i
      · subst e2
        rw [upF_same] at hk2
        have := ((h.at_ x hx').2.lt k ((hf x hx' k).1 hk)).2
        have := hnew k hk2
        omega
      · have hy' := hold y hy e2
        rw [upF_other _ e2] at hk2
        exact h.apart x y hx' hy' hne k ((hf x hx' k).1 hk) ((hf y hy' k).1 hk2)
end
end Go.Proofs.YtphaaagcdjpceaaDoor
namespace Go.Proofs.YtphaaagcdjpceaaDoor
open Go.RowKit Go.Sort Go.Shelf Go.Extern.Stop Go.Stop Go.Extern Go.Proofs.YtphaaagcdjpceaaDoorW.PrintWords Go.Proofs.YtphaaagcdjpceaaDoorW.PrintLast Go.Proofs.YtphaaagcdjpceaaDoorW.PrintMore
open Go.Maps (Keyed)
set_option linter.unusedVariables false
theorem sort_R {base : Nat} {ok : Nat → Prop} {v : Value} {L : List Int} {W : World} (h : Kd.R (Kd.int .i64) 3 W base ok v L) (hl : L.length < 4611686018427387904) :
    Calls Tryd.prog 66 #[v] W fun e w' => e = .returned (.tuple #[]) ∧ Kd.R (Kd.int .i64) 3 w' base ok v (L.mergeSort (fun x y => decide (x ≤ y))) ∧ W.grownBy w' v.ownBlock := by
  obtain ⟨hlen, ⟨rfl, hn⟩ | ⟨g, cap, cur, rfl, hbase, hb, h1, h2, h3, h4⟩⟩ := Kd.own_of_R h
  · have hL : L = [] := List.eq_nil_of_length_eq_zero hn
    subst hL
    refine (AnyM.slices_Sort_int_none Tryd.sortA none 0 W).mono ?_
    rintro e w' ⟨rfl, rfl⟩
    exact ⟨rfl, by rw [List.mergeSort_nil]; exact Kd.R_nil _ _ _ _ _, rfl, rfl, rfl, Nat.le_refl _, fun _ _ _ => rfl⟩
  · have hH : Holds (Value.int .i64) W g 0 L.toArray := holds_of_block_i hb (by rw [Nat.mul_one] at h4; exact h4)
    refine (AnyM.slices_Sort_int Tryd.sortA g 0 cap L W hH (blk_lt hb) hl).mono ?_
    rintro e w' ⟨rfl, n, os, rfl⟩
    have hs : (L.mergeSort (fun x y => decide (x ≤ y))).length = L.length := List.length_mergeSort _
    refine ⟨rfl, Kd.R_of_own ?_ h.1, ?_⟩
    · rw [hs]; exact ownsRow_sorted_i hs hbase hb h1 h2 h3
    · exact grownBy_sorted_i _
def mkP : Option Nat → Value
  | some b => .pointer (some ⟨b, 0, none⟩)
  | none => .pointer none
theorem ptrEl_shape (v : Value) (y : DataW Unit × List MemPlace) (h : ptrEl v = some y) : ∃ c, v = mkP c := by
  unfold ptrEl at h
  split at h
  · exact ⟨some _, rfl⟩
  · exact ⟨none, rfl⟩
  · cases h
set_option maxRecDepth 100000 in
theorem key_shape (key : Value) (kl : Lit) (h : Go.keyOf Tryd.prog 3 key = some kl) : ∃ x, key = Value.int .i64 x := by
  obtain ⟨x, rfl, _⟩ := Go.Maps.keyOf_int_inv Tryd.underlying3 h
  exact ⟨x, rfl⟩
theorem R_but {α : Type} {d : Kd α} {e base r : Nat} {ok : Nat → Prop} {W W1 : World} {v : Value} {xs : List α} (h : d.R e W base ok v xs) (hE : d.E = []) (hg : W.grownBy W1 (some r)) (hok : ∀ k, ok k → k ≠ r) : d.R e W1 base ok v xs :=
  Kd.R_grown h hg (fun k hk he => hok k hk (by injection he))
set_option maxHeartbeats 4000000 in
set_option maxRecDepth 100000 in
theorem kept_ok (d base pg M : Nat) (most n : Int) (ps : List S108) (snaps : Int) (cap : Nat) (D : DataW Unit) (sm : Int) (F : Int → Nat × Sn) (w : World) (h : Dsk w base d pg M most n ps snaps cap D sm F) (val : Int → Int → Int)
    (hV : ∀ x, hasI D x → ∀ k, hasI (F x).2.D k → (F x).2.D.atKey (.int .i64 k) .nil = .lit (.int .i64 (val x k))) (hs1 : Go.Maps.size D ≤ 1000) (hs2 : ∀ x, hasI D x → Go.Maps.size (F x).2.D ≤ 1000) :
    Calls Tryd.prog 46 #[.pointer (some ⟨d, 0, none⟩)] w fun e w' => ∃ v V, e = .returned v ∧ Kd.R (Kd.int .i64) 3 w' w.heap.size (fun _ => True) v ((V : List Int).mergeSort (fun x y => decide (x ≤ y))) ∧ V.Perm ((Go.intKeys D).flatMap fun x => (Go.intKeys (F x).2.D).map (val x)) ∧ Below w.heap.size w w' := by
  have HD := Lib.hid h.dk
  have HX := Lib.hid (fun x (hx : hasI D x) => h.at_ x hx)
  have HS1 := Lib.hid hs1
  have HS2 := Lib.hid hs2
  have HVL := Lib.hid hV
  have q2 := (blk_cell h.dk.hd 2).trans (show _ = some (Value.map (some M)) from rfl)
  clear h hs1 hs2 hV
  go_enter Tryd.func46, Tryd.ntmps46
  go_wp2_with ((with_reducible refine gate_dst (N := 12) rfl ?_); refine Go.wpList_range_own _ rfl (.tmp 11) 131 rfl 3 134 key3 Tryd.underlying131 ptrEl M cap D rfl HD.out.mp ?_; intro w2 hrg hg hsz; have HRG := Lib.hid hrg; have HG := Lib.hid hg; have HSZ := Lib.hid hsz; clear hrg hg hsz)
  have HB := Lib.hid (show Below w.heap.size w w2 from ⟨HG.out.os, HG.out.tape, HG.out.output, HG.out.size, fun k hk => HG.out.block k hk (by simp)⟩)
  (try simp only [Act.put, List.setIfInBounds_toArray, List.set_cons_zero, List.set_cons_succ])
  go_loopg [3] (Go.Maps.size D) (fun gk v3 wr => ∃ (V : List Int) (left : Lit → Bool) (cnt : Nat) (L : List Int), cnt ≤ gk ∧ V.length + cnt ≤ Go.Maps.size D ∧ L.length ≤ V.length * 1000 ∧ Hid (Go.CollectedI D left V) ∧ Hid (L.Perm (V.flatMap fun x => (Go.intKeys (F x).2.D).map (val x))) ∧ Hid (wr.ranges Tryd.prog 3 ptrEl M w.heap.size cap D left cnt) ∧ Hid (Kd.R (Kd.int .i64) 3 wr w.heap.size (fun k => k ≠ w.heap.size) v3 L) ∧ Hid (Below w.heap.size w wr) ∧ Hid (w.heap.size < wr.heap.size))
  case atStart => exact ⟨[], _, _, [], Nat.le_refl _, by simp, by simp, Lib.hid (Go.CollectedI.start D), Lib.hid (by simp), HRG, Lib.hid (Kd.R_nil _ _ _ _ _), HB, Lib.hid (by rw [HSZ.out]; omega)⟩
  case round =>
    obtain ⟨V, left, cnt, L, hc, hvc, hll, HT, HP, HR, HO, HBr, HLT⟩ := hrel
    obtain ⟨A3, c3, hv3⟩ := Kd.R_slice HO.out
    cases hv3
    go_wp2_with ((with_reducible refine gate_dst (N := 13) rfl ?_); refine Go.wpList_next_ranges _ rfl (.tmp 12) rfl 3 key3 ptrEl (Value.int .i64) mkP key_shape ptrEl_shape M w.heap.size cap D left cnt rfl HR.out ?hd ?hm)
    case hd =>
      intro hz hl
      have HPM := Lib.hid (HT.out.perm HR.out.owns key3 Tryd.underlying3 hl)
      clear HR HRG
      have hlen : L.length < 4611686018427387904 := by have := HS1.out; omega
      go_wp2_with (go_at_call 66; (with_reducible refine (sort_R HO.out hlen).mono ?_); rintro e w6 ⟨rfl, hr6, hg6⟩; have HR6 := Lib.hid hr6; have HG6 := Lib.hid hg6; clear hr6 hg6)
      go_ret
      refine ⟨_, L, rfl, Kd.R_mono HR6.out (fun _ _ => trivial), HP.out.trans (HPM.out.flatMap_right _), ?_⟩
      exact Below.grown HBr.out HG6.out HBr.out.size (fun k hk => by exact ((Kd.R_bound HO.out).1 k hk).2.1)
    case hm =>
      intro x c kl ya yb w3 cnt2 hkl hlf hpe hat hrg hlt hgr hsz hen
      obtain ⟨x', e1, rfl, hwx⟩ := Go.Maps.keyOf_int_inv Tryd.underlying3 hkl
      cases e1
      have hhas : hasI D x := Go.Maps.has_true_of_atKey hat
      obtain ⟨hsD, hSS⟩ := HX.out x hhas
      have hc2 : c = some (F x).1 := by
        have h1 := hat .nil
        rw [hsD] at h1
        cases c with
        | none => simp [mkP, ptrEl] at hpe; rw [← hpe.1] at h1; cases h1
        | some b => simp [mkP, ptrEl] at hpe; rw [← hpe.1] at h1; injection h1 with h1; injection h1 with _ h1; congr 1; omega
      subst hc2
      rw [show mkP (some (F x).1) = .pointer (some ⟨(F x).1, 0, none⟩) from rfl] at hen ⊢
      have HT2 := Lib.hid (HT.out.step hlf hat)
      have HRG2 := Lib.hid hrg
      have HGR := Lib.hid hgr
      have HHX := Lib.hid hhas
      have HSZ3 := Lib.hid hsz
      clear hat hpe hkl hrg hgr hlf hsD hhas hsz
      go_upto_region 5 with (fail)
      have HB3 := Lib.hid (Below.grown HBr.out HGR.out HBr.out.size (fun k hk => by injection hk with hk; omega))
      have HS3 := Lib.hid (hSS.below HB3.out)
      have HO3 := Lib.hid (R_but HO.out rfl HGR.out (fun k hk => hk))
      have s3 := (blk_cell HS3.out.hd 3).trans (show _ = some (Value.map (some (F x).2.mb)) from rfl)
      go_wp2_with ((with_reducible refine gate_dst (N := 21) rfl ?_); refine Go.wpList_range_own _ rfl (.tmp 20) 123 rfl 3 3 key3 Tryd.underlying123 (plainElem Tryd.prog 3) (F x).2.mb (F x).2.cap (F x).2.D rfl HS3.out.mp ?_; intro w4 hrg hg hsz4; have HRG4 := Lib.hid hrg; have HG4 := Lib.hid hg; have HSZ4 := Lib.hid hsz4; clear hrg hg hsz4)
      (try simp only [Act.put, List.setIfInBounds_toArray, List.set_cons_zero, List.set_cons_succ])
      have HB4 := Lib.hid (Below.grown HB3.out HG4.out HB3.out.size (fun k hk => by cases hk))
      have HLT3 := Lib.hid (show w.heap.size < w3.heap.size by rw [HSZ3.out]; exact HLT.out)
      have HO4 := Lib.hid (show Kd.R (Kd.int .i64) 3 w4 w.heap.size (fun k => k ≠ w.heap.size ∧ k ≠ w3.heap.size) (.slice A3 L.length c3) L from Kd.R_mono (Kd.R_move (Kd.R_bound HO3.out) (fun k hk => HG4.out.block k hk.2.2.1 (by simp))) (fun k hk => ⟨hk.1, by have := hk.2.2.1; omega⟩))
      have HRG5 := Lib.hid (HRG2.out.kept HG4.out (by simp) (by simp))
      have HMB := Lib.hid (show (F x).2.mb < w.heap.size from hSS.mp.lt)
      have HMM := Lib.hid (show M < w.heap.size from HD.out.mp.lt)
      have HVX := Lib.hid (HVL.out x HHX.out)
      have HZX := Lib.hid (HS2.out x HHX.out)
      clear hSS HRG2 HR HO HO3 s3 HGR HG4 hen HS3 HT
      go_loopg [3] (Go.Maps.size (F x).2.D) (fun gk2 v3 wq => ∃ (V2 : List Int) (left2 : Lit → Bool) (cntq : Nat), cntq ≤ gk2 ∧ V2.length + cntq ≤ Go.Maps.size (F x).2.D ∧ Hid (Go.CollectedI (F x).2.D left2 V2) ∧ Hid (wq.ranges Tryd.prog 3 (plainElem Tryd.prog 3) (F x).2.mb w3.heap.size (F x).2.cap (F x).2.D left2 cntq) ∧ Hid (wq.ranges Tryd.prog 3 ptrEl M w.heap.size cap D (fun z => left z && !z.sameKey (.int .i64 x)) cnt2) ∧ Hid (Kd.R (Kd.int .i64) 3 wq w.heap.size (fun k => k ≠ w.heap.size ∧ k ≠ w3.heap.size) v3 (L ++ V2.map (val x))) ∧ Hid (Below w.heap.size w wq) ∧ Hid (w3.heap.size < wq.heap.size))
      case atStart => exact ⟨[], _, _, Nat.le_refl _, by simp, Lib.hid (Go.CollectedI.start _), HRG4, HRG5, Lib.hid (by simpa using HO4.out), HB4, Lib.hid (by rw [HSZ4.out]; omega)⟩
      case round =>
        obtain ⟨V2, left2, cntq, hc2, hvc2, HT3, HRi, HRo, HOi, HBi, HLi⟩ := hrel
        clear HRG4 HRG5 HO4 HB4 HSZ4
        obtain ⟨LL, hLL⟩ : ∃ LL, L ++ V2.map (val x) = LL := ⟨_, rfl⟩
        have HLL := Lib.hid (show LL.length = L.length + V2.length from by rw [← hLL]; simp)
        rw [hLL] at HOi
        have HL2 := Lib.hid hLL
        clear hLL
        obtain ⟨A4, c4, hv4⟩ := Kd.R_slice HOi.out
        cases hv4
        go_wp2_with ((with_reducible refine gate_dst (N := 22) rfl ?_); refine Go.wpList_next_ranges_ii _ rfl (.tmp 21) rfl 3 3 .i64 .i64 key3 Tryd.underlying3 Tryd.underlying3 (F x).2.mb w3.heap.size (F x).2.cap (F x).2.D left2 cntq rfl HRi.out ?hd2 ?hm2)
        case hd2 =>
          intro hz hl
          have HPM := Lib.hid (HT3.out.perm HRi.out.owns key3 Tryd.underlying3 hl)
          have HOd := Lib.hid (Kd.R_mono HOi.out (fun k hk => hk.1))
          clear HRi HOi HT3
          go_wp2_with (fail)
          go_roundg cnt2
          case measure => omega
          case rel =>
            refine ⟨V ++ [x], _, _, _, Nat.le_refl _, by simp; omega, ?_, HT2, Lib.hid ?_, HRo, HOd, HBi, Lib.hid (by have := HLT3.out; have := HLi.out; omega)⟩
            · have := HZX.out
              have := HLL.out
              simp only [List.length_append, List.length_cons, List.length_nil]
              omega
            · rw [List.flatMap_append, ← HL2.out]
              refine HP.out.append ?_
              simpa using HPM.out.map (val x)
        case hm2 =>
          intro y r w5 cnt3 hwy hwr hlf hat hrg hlt5 hgr hsz5 hen
          have hhas : hasI (F x).2.D y := Go.Maps.has_true_of_atKey hat
          have hr : r = val x y := by
            have h1 := hat .nil
            rw [HVX.out y hhas] at h1
            injection h1 with h1; injection h1 with _ h1; exact h1.symm
          have HT4 := Lib.hid (HT3.out.step hlf hat)
          have HRi5 := Lib.hid hrg
          have HRo5 := Lib.hid (HRo.out.kept hgr (by have := HMM.out; have := HLT3.out; simp; omega) (by have := HLT3.out; simp; omega))
          have HO5 := Lib.hid (R_but HOi.out rfl hgr (fun k hk => hk.2))
          have HB5 := Lib.hid (Below.grown HBi.out hgr HBi.out.size (fun k hk => by injection hk with hk; have := HLT3.out; omega))
          have HL5 := Lib.hid (show w3.heap.size < w5.heap.size by rw [hsz5]; exact HLi.out)
          have HVR := Lib.hid hr
          have hll2 : LL.length ≤ 2000000 := by
            have := HS1.out; have := HZX.out
            rw [HLL.out]
            have : V.length ≤ 1000 := by omega
            have : L.length ≤ 1000000 := by omega
            omega
          clear hat hhas hlf hrg hgr hsz5 hr HT3 HRi HRo HOi HBi HLi
          go_wp2_with ((with_reducible refine gate_builtin (b := .append) (xs := #[.tmp 26, .tmp 28]) rfl ?_); at_builtin; refine Kd.R_append (Kd.int .i64) (w0 := w) w.heap.size rfl (.tmp 26) (.tmp 28) 35 3 (.int .i64 0) 8 rfl Tryd.underlying35 infoI3 rfl (by decide) (by decide) (.slice A4 LL.length c4) LL r [.int .i64 r] (fun k => k ≠ w.heap.size ∧ k ≠ w3.heap.size) (fun _ => False) rfl ?aX ?aP (fun _ hk => hk.elim) ?aF ?aO ?aB ?aS ?aL ?_; (case aX => first | rfl | (go_simp; done) | (go_simp; rfl)); (case aP => exact rfl); (case aB => exact HB5.out); (case aF => exact (fun k hk => by have := HL5.out; have := HLT3.out; exact ⟨by omega, by omega⟩)); (case aO => exact HO5.out); (case aS => exact HB5.out.size); (case aL => omega); intro v9 w9 ho hb hg hat; have HO9 := Lib.hid ho; have HB9 := Lib.hid hb; have HG9 := Lib.hid hg; clear ho hb hg hat)
          have HNB := Lib.hid (show ∀ k, k = M ∨ k = (F x).2.mb ∨ k = w.heap.size ∨ k = w3.heap.size → some k ≠ (Value.slice A4 LL.length c4).ownBlock from fun k hk he => by
            have h1 := (Kd.R_bound HO5.out).1 k he.symm
            have h2 := h1.2.1
            have h3 := h1.1
            have := HMM.out; have := HMB.out
            rcases hk with rfl | rfl | rfl | rfl
            · omega
            · omega
            · exact h3.1 rfl
            · exact h3.2 rfl)
          go_roundg cnt3
          case measure => omega
          case rel =>
            refine ⟨V2 ++ [y], _, _, Nat.le_refl _, by simp; omega, HT4, Lib.hid (HRi5.out.kept HG9.out (HNB.out _ (.inr (.inl rfl))) (HNB.out _ (.inr (.inr (.inr rfl))))), Lib.hid (HRo5.out.kept HG9.out (HNB.out _ (.inl rfl)) (HNB.out _ (.inr (.inr (.inl rfl))))), Lib.hid ?_, HB9, Lib.hid (Nat.lt_of_lt_of_le HL5.out HG9.out.size)⟩
            rw [List.map_append, ← List.append_assoc, HL2.out]
            simpa [← HVR.out] using HO9.out
end Go.Proofs.YtphaaagcdjpceaaDoor
namespace Go.Proofs.YtphaaagcdjpceaaDoor
open Go.RowKit Go.Extern.Stop Go.Stop Go.Extern Go.Proofs.YtphaaagcdjpceaaDoorW.PrintWords Go.Proofs.YtphaaagcdjpceaaDoorW.PrintLast Go.Proofs.YtphaaagcdjpceaaDoorW.PrintMore
open Go.Maps (Keyed)
set_option linter.unusedVariables false
abbrev DT : List Nat := [106, 108, 136]
theorem keeps_pool {W W' : World} {base g M : Nat} {most n : Int} {ps : List S108} {es : Array MapEntry} {clock : Nat} (hp : PL W base g most ps n) (hm : W.heap[M]? = some (.map es clock)) (hd : DF g M W W') : Keeps DT W W' := by
  refine ⟨hd.size, fun k cs t fr hk ht => hd.block k (blk_lt hk) ?_ ?_ ?_⟩
  · rintro rfl
    obtain ⟨g0, A, c, p1, p2⟩ := hp
    rw [p1] at hk; injection hk with hk; injection hk with _ hk _; subst hk; exact ht (by decide)
  · intro he
    obtain ⟨g0, A, c, p1, p2⟩ := hp
    rw [abk_of ((blk_cell p1 1).trans (show _ = some (Value.slice A ps.length c) from rfl))] at he
    obtain ⟨cells, hc⟩ := Kd.R_typed p2 k he.symm
    rw [hc] at hk; injection hk with hk; injection hk with _ hk _; subst hk; exact ht (by decide)
  · rintro rfl; rw [hm] at hk; cases hk
theorem keeps_SF {W W' : World} {base sb : Nat} {sm : Int} {s : Sn} (h : SS W base sb sm s) (hd : SF sb W W') : Keeps DT W W' :=
  ⟨hd.size, fun k cs t fr hk ht => hd.block k (blk_lt hk) (by
    rintro rfl
    rw [h.hd] at hk; injection hk with hk; injection hk with _ hk _; subst hk; exact ht (by decide))⟩
theorem keepsD {W W' : World} {base d pg M : Nat} {most n : Int} {ps : List S108} {snaps : Int} {cap : Nat} {D : DataW Unit} (h : DK W base d pg M most n ps snaps cap D) (hd : DF pg M W W') : Keeps DT W W' := by
  obtain ⟨_, hp, ⟨es, clock, hm, _⟩⟩ := h
  exact keeps_pool hp hm hd
theorem keepsS {W W' : World} {base sb : Nat} {sm : Int} {s : Sn} (h : SS W base sb sm s) (hd : DF s.sg s.mb W W') : Keeps DT W W' := by
  obtain ⟨_, hp, ⟨es, clock, hm, _⟩, _, _⟩ := h
  exact keeps_pool hp hm hd
set_option maxHeartbeats 4000000 in
set_option maxRecDepth 100000 in
theorem newdesk2 (a b : Int) (w : World) : Calls Tryd.prog 39 #[.int .i64 a, .int .i64 b] w fun e w' => ∃ d M, e = .returned (.pointer (some ⟨d, 0, none⟩)) ∧ DK w' w.heap.size d w.heap.size M (min (max a 0) 10000) 0 [] b 0 (.map []) ∧ Below w.heap.size w w' ∧ w.heap.size ≤ M := by
  go_enter Tryd.func39, Tryd.ntmps39
  go_wp2_with (fail)
  go_at_call 15
  (with_reducible refine (newpool_calls a _).mono ?_)
  rintro e w1 ⟨rfl, h1, hb⟩
  have H1 := Lib.hid h1; have HB := Lib.hid hb
  clear h1 hb
  have hmk := mk131
  have B2 := below_alloc (Below.refl w1.heap.size w1) (.map #[] 0)
  have B3 := below_alloc B2 (.cells #[.pointer (some ⟨w.heap.size, 0, none⟩), .int .i64 b, .map (some w1.heap.size)] 133)
  have hm := World.ownsMap_made w1 Tryd.prog 3 ptrEl
  have hn := heap_alloc_new (w1.alloc (.map #[] 0)) (.cells #[.pointer (some ⟨w.heap.size, 0, none⟩), .int .i64 b, .map (some w1.heap.size)] 133)
  rw [World.size_alloc] at hn
  have HD : Hid (DK ((w1.alloc (.map #[] 0)).alloc (.cells #[.pointer (some ⟨w.heap.size, 0, none⟩), .int .i64 b, .map (some w1.heap.size)] 133)) w.heap.size (w1.heap.size + 1) w.heap.size w1.heap.size (min (max a 0) 10000) 0 [] b 0 (.map [])) := Lib.hid ⟨hn, H1.out.below B3, World.ownsMap.alloc hm _⟩
  have HB3 := Lib.hid (below_step HB.out B3)
  clear B2 B3 hm hn
  go_wp2
  go_ret
  exact ⟨_, _, rfl, HD.out, HB3.out, HB.out.size⟩
structure DS (w W : World) (d pg M : Nat) (most n : Int) (ps : List S108) (snaps : Int) (cap : Nat) (D : DataW Unit) (sm : Int) (F : Int → Nat × Sn) : Prop where
  ds : Dsk W w.heap.size d pg M most n ps snaps cap D sm F
  bl : Below w.heap.size w W
  lm : w.heap.size ≤ M
theorem DK.lower {W : World} {base b2 d pg M : Nat} {most n : Int} {ps : List S108} {snaps : Int} {cap : Nat} {D : DataW Unit} (h : DK W base d pg M most n ps snaps cap D) (hb : b2 ≤ base) : DK W b2 d pg M most n ps snaps cap D := ⟨h.hd, h.pl.lower hb, h.mp⟩
section
variable {w W : World} {d pg M : Nat} {most n : Int} {ps : List S108} {snaps : Int} {cap : Nat} {D : DataW Unit} {sm : Int} {F : Int → Nat × Sn}
theorem DS.below {W1 : World} (h : DS w W d pg M most n ps snaps cap D sm F) (hb : Below W.heap.size W W1) : DS w W1 d pg M most n ps snaps cap D sm F := ⟨h.ds.below hb, below_step h.bl hb, h.lm⟩
theorem DS.good (h : DS w W d pg M most n ps snaps cap D sm F) (hG : Good w) : Good W := hG.below h.bl
def F0 : Int → Nat × Sn := fun _ => (0, newS 0 0)
theorem dnew (a b : Int) (hb : Below w.heap.size w W) : Calls Tryd.prog 39 #[.int .i64 a, .int .i64 b] W fun e w' => ∃ d pg M, e = .returned (.pointer (some ⟨d, 0, none⟩)) ∧ DS w w' d pg M (min (max a 0) 10000) 0 [] b 0 (.map []) (min (max b 0) 10000) F0 ∧ Below W.heap.size W w' := by
  refine (newdesk2 a b W).mono ?_
  rintro e w' ⟨d, M, rfl, hk, hl, hM⟩
  have hno : ∀ x, ¬ hasI (.map []) x := fun x h => by simp [hasI, Go.Maps.has] at h
  have hlo := hb.size
  exact ⟨d, _, M, rfl, ⟨⟨hk.lower hlo, fun x hx => absurd hx (hno x), fun x hx => absurd hx (hno x), fun x y hx => absurd hx (hno x)⟩, below_step hb hl, Nat.le_trans hlo hM⟩, hl⟩
theorem dopen (h : DS w W d pg M most n ps snaps cap D sm F) (hsm : sm = min (max snaps 0) 10000) (i : Nat) (hni : ¬ hasI D (i : Int)) (hcap : cap < 1000) (hi : i ≤ ps.length) (hf : ∀ j, j < i → (plc ps j).f1 = true) (hf2 : i < ps.length → (plc ps i).f1 = false) (hm : (i : Int) ≠ most) (hl : ps.length ≤ 1000) (ht0 : 0 ≤ turnOf ps i) (ht1 : turnOf ps i ≤ 1000000) (hn0 : -1000000 ≤ n) (hn1 : n ≤ 1000000) :
    Calls Tryd.prog 40 #[.pointer (some ⟨d, 0, none⟩)] W fun e w' => ∃ sb sg mb : Nat, e = .returned (.tuple #[.agg #[.int .i64 (i : Int), .int .i64 (turnOf ps i)], .nilIface]) ∧ DS w w' d pg M most (n + 1) (tookL ps i) snaps (cap + 1) (D.put (.int .i64 (i : Int)) (.lit (.int .i64 (sb : Int)))) sm (upF F (i : Int) (sb, newS sg mb)) ∧ Keeps DT W w' := by
  subst hsm
  refine (open_ok d w.heap.size pg M most n ps snaps cap D i W h.ds.dk h.bl.size h.lm hcap hi hf hf2 hm hl ht0 ht1 hn0 hn1).mono ?_
  rintro e w' ⟨sb, sg, mb, rfl, ho⟩
  exact ⟨sb, sg, mb, rfl, ⟨h.ds.open_ h.bl.size hni ho, h.bl.trans ho.be, h.lm⟩, keepsD h.ds.dk ho.df⟩
theorem dopen_full {i : Nat} (h : DS w W d pg M (i : Int) n ps snaps cap D sm F) (hG : Good w) (hi : i ≤ ps.length) (hf : ∀ j, j < i → (plc ps j).f1 = true) (hf2 : i < ps.length → (plc ps i).f1 = false) (hl : ps.length ≤ 1000) :
    Calls Tryd.prog 40 #[.pointer (some ⟨d, 0, none⟩)] W fun e w' => ∃ k, e = .returned (.tuple #[.agg #[.int .i64 0, .int .i64 0], .iface 179 (.pointer (some ⟨k, 0, none⟩))]) ∧ Joined w' k 2 ∧ DS w w' d pg M (i : Int) n ps snaps cap D sm F ∧ Below W.heap.size W w' := by
  refine (open_full d w.heap.size pg M n ps snaps cap D i W (h.good hG) h.ds.dk hi hf hf2 hl).mono ?_
  rintro e w' ⟨k, rfl, hj, hb⟩
  exact ⟨k, rfl, hj, h.below hb, hb⟩
theorem dsend (h : DS w W d pg M most n ps snaps cap D sm F) {p t : Int} (hp : (Lit.int .i64 p).wf = true) (hh : hasB ps p t = true) (hx : hasI D p) (hw : (F p).2.wt = false) (A : Option Addr) (c : Nat) (bs : List Int) (hb : Kd.C (Kd.int .u8) W A bs.length bs) (hl : bs.length ≤ 100000) :
    Calls Tryd.prog 41 #[.pointer (some ⟨d, 0, none⟩), .agg #[.int .i64 p, .int .i64 t], .slice A bs.length c] W fun e w' => ∃ v', e = .returned .nilIface ∧ DS w w' d pg M most n ps snaps cap D sm (upF F p ((F p).1, { (F p).2 with wt := true, bv := v', bs := bs })) ∧ Keeps DT W w' := by
  obtain ⟨h1, h2⟩ := h.ds.at_ p hx
  refine (send_ok d w.heap.size pg M (F p).1 most n ps snaps cap D p t sm (F p).2 W h.ds.dk hp hh h1 h2 hw A c bs hb hl).mono ?_
  rintro e w' ⟨v', rfl, hs, hr, hf, hbl⟩
  exact ⟨v', rfl, ⟨h.ds.turnSF hx hs rfl rfl (fun k hk => ((Kd.R_bound hr).1 k hk.symm).2.1) hf, h.bl.trans hbl, h.lm⟩, keeps_SF h2 hf⟩
theorem dsend_busy (h : DS w W d pg M most n ps snaps cap D sm F) (hG : Good w) {p t : Int} (hp : (Lit.int .i64 p).wf = true) (hh : hasB ps p t = true) (hx : hasI D p) (hw : (F p).2.wt = true) (A : Option Addr) (m c : Nat) (hl : m ≤ 100000) :
    Calls Tryd.prog 41 #[.pointer (some ⟨d, 0, none⟩), .agg #[.int .i64 p, .int .i64 t], .slice A m c] W fun e w' => ∃ k, e = .returned (.iface 179 (.pointer (some ⟨k, 0, none⟩))) ∧ Joined w' k 17 ∧ DS w w' d pg M most n ps snaps cap D sm F ∧ Below W.heap.size W w' := by
  obtain ⟨h1, h2⟩ := h.ds.at_ p hx
  refine (send_busy d w.heap.size pg M (F p).1 most n ps snaps cap D p t sm (F p).2 W h.ds.dk hp hh h1 h2 (h.good hG) hw A m c hl).mono ?_
  rintro e w' ⟨k, rfl, hj, hb⟩
  exact ⟨k, rfl, hj, h.below hb, hb⟩
theorem dsend_no (h : DS w W d pg M most n ps snaps cap D sm F) (hG : Good w) {p t : Int} (hp : -9223372036854775808 ≤ p ∧ p ≤ 9223372036854775807) (hh : hasB ps p t = false) (A : Option Addr) (m c : Nat) :
    Calls Tryd.prog 41 #[.pointer (some ⟨d, 0, none⟩), .agg #[.int .i64 p, .int .i64 t], .slice A m c] W fun e w' => ∃ k, e = .returned (.iface 179 (.pointer (some ⟨k, 0, none⟩))) ∧ Joined w' k 3 ∧ DS w w' d pg M most n ps snaps cap D sm F ∧ Below W.heap.size W w' := by
  refine (send_no d w.heap.size pg M most n ps snaps cap D p t W (h.good hG) h.ds.dk hp hh A m c).mono ?_
  rintro e w' ⟨k, rfl, hj, hb⟩
  exact ⟨k, rfl, hj, h.below hb, hb⟩
theorem dwaits (h : DS w W d pg M most n ps snaps cap D sm F) {p t : Int} (hp : (Lit.int .i64 p).wf = true) (hh : hasB ps p t = true) (hx : hasI D p) (hw : (F p).2.wt = true) (hl : (F p).2.bs.length ≤ 100000) :
    Calls Tryd.prog 45 #[.pointer (some ⟨d, 0, none⟩), .agg #[.int .i64 p, .int .i64 t]] W fun e w' => ∃ v', e = .returned (.tuple #[v', .bool true]) ∧ Kd.R (Kd.int .u8) 5 w' W.heap.size (fun _ => True) v' (F p).2.bs ∧ DS w w' d pg M most n ps snaps cap D sm F ∧ Below W.heap.size W w' := by
  obtain ⟨h1, h2⟩ := h.ds.at_ p hx
  refine (waits_yes d w.heap.size pg M (F p).1 most n ps snaps cap D p t sm (F p).2 W h.ds.dk hp hh h1 h2 hw hl).mono ?_
  rintro e w' ⟨v', rfl, hr, hb⟩
  exact ⟨v', rfl, hr, h.below hb, hb⟩
theorem dwaits_none (h : DS w W d pg M most n ps snaps cap D sm F) {p t : Int} (hp : (Lit.int .i64 p).wf = true) (hh : hasB ps p t = true) (hx : hasI D p) (hw : (F p).2.wt = false) :
    Calls Tryd.prog 45 #[.pointer (some ⟨d, 0, none⟩), .agg #[.int .i64 p, .int .i64 t]] W fun e w' => e = .returned (.tuple #[.slice none 0 0, .bool false]) ∧ DS w w' d pg M most n ps snaps cap D sm F ∧ Below W.heap.size W w' := by
  obtain ⟨h1, h2⟩ := h.ds.at_ p hx
  refine (waits_none d w.heap.size pg M (F p).1 most n ps snaps cap D p t sm (F p).2 W h.ds.dk hp hh h1 h2 hw).mono ?_
  rintro e w' ⟨rfl, hb⟩
  exact ⟨rfl, h.below hb, hb⟩
theorem dwaits_no (h : DS w W d pg M most n ps snaps cap D sm F) (hG : Good w) {p t : Int} (hp : -9223372036854775808 ≤ p ∧ p ≤ 9223372036854775807) (hh : hasB ps p t = false) :
    Calls Tryd.prog 45 #[.pointer (some ⟨d, 0, none⟩), .agg #[.int .i64 p, .int .i64 t]] W fun e w' => e = .returned (.tuple #[.slice none 0 0, .bool false]) ∧ DS w w' d pg M most n ps snaps cap D sm F ∧ Below W.heap.size W w' := by
  refine (waits_no d w.heap.size pg M most n ps snaps cap D p t W (h.good hG) h.ds.dk hp hh).mono ?_
  rintro e w' ⟨rfl, hb⟩
  exact ⟨rfl, h.below hb, hb⟩
theorem dtake (h : DS w W d pg M most n ps snaps cap D sm F) {p t : Int} (hp : (Lit.int .i64 p).wf = true) (hh : hasB ps p t = true) (hx : hasI D p) (hw : (F p).2.wt = true) :
    Calls Tryd.prog 49 #[.pointer (some ⟨d, 0, none⟩), .agg #[.int .i64 p, .int .i64 t]] W fun e w' => e = .returned (.tuple #[(F p).2.bv, .nilIface]) ∧ Kd.R (Kd.int .u8) 5 w' w.heap.size (fun _ => True) (F p).2.bv (F p).2.bs ∧ DS w w' d pg M most n ps snaps cap D sm (upF F p ((F p).1, { (F p).2 with wt := false, bv := .slice none 0 0, bs := [] })) ∧ Keeps DT W w' := by
  obtain ⟨h1, h2⟩ := h.ds.at_ p hx
  refine (takes_yes d w.heap.size pg M (F p).1 most n ps snaps cap D p t sm (F p).2 W h.ds.dk hp hh h1 h2 hw).mono ?_
  rintro e w' ⟨rfl, hs, hr, hf, hbl⟩
  exact ⟨rfl, hr, ⟨h.ds.turnSF hx hs rfl rfl (fun k hk => by simp [Value.ownBlock] at hk) hf, h.bl.trans hbl, h.lm⟩, keeps_SF h2 hf⟩
theorem dtake_idle (h : DS w W d pg M most n ps snaps cap D sm F) (hG : Good w) {p t : Int} (hp : (Lit.int .i64 p).wf = true) (hh : hasB ps p t = true) (hx : hasI D p) (hw : (F p).2.wt = false) :
    Calls Tryd.prog 49 #[.pointer (some ⟨d, 0, none⟩), .agg #[.int .i64 p, .int .i64 t]] W fun e w' => ∃ k, e = .returned (.tuple #[.slice none 0 0, .iface 179 (.pointer (some ⟨k, 0, none⟩))]) ∧ Joined w' k 18 ∧ DS w w' d pg M most n ps snaps cap D sm F ∧ Below W.heap.size W w' := by
  obtain ⟨h1, h2⟩ := h.ds.at_ p hx
  refine (takes_idle d w.heap.size pg M (F p).1 most n ps snaps cap D p t sm (F p).2 W h.ds.dk hp hh h1 h2 (h.good hG) hw).mono ?_
  rintro e w' ⟨k, rfl, hj, hb⟩
  exact ⟨k, rfl, hj, h.below hb, hb⟩
def keptS (s : Sn) (i : Nat) (r : Int) : Sn := { s with ps := tookL s.ps i, n := s.n + 1, cap := s.cap + 1, D := s.D.put (.int .i64 (i : Int)) (.lit (.int .i64 r)) }
theorem dkeep (h : DS w W d pg M most n ps snaps cap D sm F) {p t : Int} (hp : (Lit.int .i64 p).wf = true) (hh : hasB ps p t = true) (hx : hasI D p) {r : Int} {i : Nat} (hcap : (F p).2.cap < 1000000) (hr : (Lit.int .i64 r).wf = true) (hi : i ≤ (F p).2.ps.length) (hf : ∀ j, j < i → (plc (F p).2.ps j).f1 = true) (hf2 : i < (F p).2.ps.length → (plc (F p).2.ps i).f1 = false) (hm : (i : Int) ≠ sm) (hl : (F p).2.ps.length ≤ 1000) (ht0 : 0 ≤ turnOf (F p).2.ps i) (ht1 : turnOf (F p).2.ps i ≤ 1000000) (hn0 : -1000000 ≤ (F p).2.n) (hn1 : (F p).2.n ≤ 1000000) :
    Calls Tryd.prog 42 #[.pointer (some ⟨d, 0, none⟩), .agg #[.int .i64 p, .int .i64 t], .int .i64 r] W fun e w' => e = .returned (.tuple #[.agg #[.int .i64 (i : Int), .int .i64 (turnOf (F p).2.ps i)], .nilIface]) ∧ DS w w' d pg M most n ps snaps cap D sm (upF F p ((F p).1, keptS (F p).2 i r)) ∧ Keeps DT W w' := by
  obtain ⟨h1, h2⟩ := h.ds.at_ p hx
  refine (keep_ok d w.heap.size pg M (F p).1 most n ps snaps cap D p t sm (F p).2 r i W h.ds.dk hp hh h1 h2 hcap hr hi hf hf2 hm hl ht0 ht1 hn0 hn1).mono ?_
  rintro e w' ⟨rfl, hs, hd, hbl⟩
  exact ⟨rfl, ⟨h.ds.turnDF hx (s' := keptS (F p).2 i r) hs rfl rfl rfl hd, h.bl.trans hbl, h.lm⟩, keepsS h2 hd⟩
theorem dfind (h : DS w W d pg M most n ps snaps cap D sm F) {p t : Int} (hp : (Lit.int .i64 p).wf = true) (hh : hasB ps p t = true) (hx : hasI D p) {p2 t2 r : Int} (hp2 : (Lit.int .i64 p2).wf = true) (hh2 : hasB (F p).2.ps p2 t2 = true) (hr : (F p).2.D.atKey (.int .i64 p2) (.lit (.int .i64 0)) = .lit (.int .i64 r)) :
    Calls Tryd.prog 47 #[.pointer (some ⟨d, 0, none⟩), .agg #[.int .i64 p, .int .i64 t], .agg #[.int .i64 p2, .int .i64 t2]] W fun e w' => e = .returned (.tuple #[.int .i64 r, .nilIface]) ∧ DS w w' d pg M most n ps snaps cap D sm F ∧ Below W.heap.size W w' := by
  obtain ⟨h1, h2⟩ := h.ds.at_ p hx
  refine (find_ok d w.heap.size pg M (F p).1 most n ps snaps cap D p t sm (F p).2 p2 t2 r W h.ds.dk hp hh h1 h2 hp2 hh2 hr).mono ?_
  rintro e w' ⟨rfl, hb⟩
  exact ⟨rfl, h.below hb, hb⟩
theorem dkept (h : DS w W d pg M most n ps snaps cap D sm F) (val : Int → Int → Int) (hV : ∀ x, hasI D x → ∀ k, hasI (F x).2.D k → (F x).2.D.atKey (.int .i64 k) .nil = .lit (.int .i64 (val x k))) (hs1 : Go.Maps.size D ≤ 1000) (hs2 : ∀ x, hasI D x → Go.Maps.size (F x).2.D ≤ 1000) :
    Calls Tryd.prog 46 #[.pointer (some ⟨d, 0, none⟩)] W fun e w' => ∃ v V, e = .returned v ∧ Kd.R (Kd.int .i64) 3 w' W.heap.size (fun _ => True) v ((V : List Int).mergeSort (fun x y => decide (x ≤ y))) ∧ V.Perm ((Go.intKeys D).flatMap fun x => (Go.intKeys (F x).2.D).map (val x)) ∧ DS w w' d pg M most n ps snaps cap D sm F ∧ Below W.heap.size W w' := by
  refine (kept_ok d w.heap.size pg M most n ps snaps cap D sm F W h.ds val hV hs1 hs2).mono ?_
  rintro e w' ⟨v, V, rfl, h1, h2, hb⟩
  exact ⟨v, V, rfl, h1, h2, h.below hb, hb⟩
theorem dclose (h : DS w W d pg M most n ps snaps cap D sm F) (i : Nat) {t : Int} (hi : i < ps.length) (hl : ps.length ≤ 1000) (hh : hasB ps (i : Int) t = true) (hx : hasI D (i : Int)) (hn0 : -1000000 ≤ n) (hn1 : n ≤ 1000000) (hmax : Go.Maps.size (F (i : Int)).2.D ≤ 1000000) (val : Int → Int) (hval : ∀ k ∈ Go.intKeys (F (i : Int)).2.D, (Lit.int .i64 k).wf = true ∧ (F (i : Int)).2.D.atKey (.int .i64 k) (.lit (.int .i64 0)) = .lit (.int .i64 (val k))) :
    Calls Tryd.prog 43 #[.pointer (some ⟨d, 0, none⟩), .agg #[.int .i64 (i : Int), .int .i64 t]] W fun e w' => ∃ v, e = .returned (.tuple #[v, .nilIface]) ∧ Kd.R (Kd.int .i64) 3 w' W.heap.size (fun _ => True) v (((Go.intKeys (F (i : Int)).2.D).mergeSort (fun x y => decide (x ≤ y))).map val) ∧ DS w w' d pg M most (n - 1) (ps.set i ⟨(plc ps i).f0, false⟩) snaps cap (D.del (.int .i64 (i : Int))) sm F ∧ Keeps DT W w' := by
  obtain ⟨h1, h2⟩ := h.ds.at_ i hx
  refine (close_ok d w.heap.size pg M (F (i : Int)).1 most n ps snaps cap D i t sm (F (i : Int)).2 W h.ds.dk hi hl hh h1 hn0 hn1 h.lm h2 hmax val hval (fun k hk => ⟨(h.ds.far i hx k hk).2.1, (h.ds.far i hx k hk).2.2.1, (h.ds.far i hx k hk).2.2.2⟩)).mono ?_
  rintro e w' ⟨v, rfl, hr, hk, hd, hb⟩
  exact ⟨v, rfl, hr, ⟨h.ds.close hk hd, h.bl.trans hb, h.lm⟩, keepsD h.ds.dk hd⟩
end
end Go.Proofs.YtphaaagcdjpceaaDoor
namespace Go.Proofs.YtphaaagcdjpceaaDoor
open Go.RowKit Go.Extern.Stop Go.Stop Go.Extern Go.Proofs.YtphaaagcdjpceaaDoorW.PrintWords Go.Proofs.YtphaaagcdjpceaaDoorW.PrintLast Go.Proofs.YtphaaagcdjpceaaDoorW.PrintMore
open Go.Maps (Keyed)
set_option linter.unusedVariables false
theorem upF_up (F : Int → Nat × Sn) (x : Int) (a b : Nat × Sn) : upF (upF F x a) x b = upF F x b := by
  funext y; unfold upF; split <;> rfl
theorem bytes1 (W : World) (b : Int) : Kd.C (Kd.int .u8) (W.alloc (.cells #[.int .u8 b] 5 (1, 2))) (some ⟨W.heap.size, 0, none⟩) [b].length [b] := by
  refine Kd.C_of_reads (d := (0 : Int)) ⟨rfl, by simp, fun _ => ⟨⟨W.heap.size, 0, none⟩, rfl, fun i hi => ?_⟩⟩
  obtain rfl : i = 0 := by simp at hi; omega
  have hb : (W.alloc (.cells #[.int .u8 b] 5 (1, 2))).heap[W.heap.size]? = some (.cells #[.int .u8 b] 5 (1, 2)) := heap_alloc_new W _
  show (W.alloc (.cells #[.int .u8 b] 5 (1, 2))).cell? ⟨W.heap.size, 0, none⟩ = _
  unfold World.cell?
  rw [show ({ block := W.heap.size, off := 0 } : Addr).block = W.heap.size from rfl, hb]
  rfl
theorem str80 {A : Option Addr} {n c : Nat} {xs : List Int} {W : World} (h : Kd.C (Kd.int .u8) W A n xs) : (convert 80 9 (.slice A n c)).run Tryd.prog W = .ok (.string (strOfNums xs)) W := Kd.C_string Tryd.underlying80 Tryd.underlying5 Tryd.underlying9 h
theorem keeps_hn {W W1 : World} {x : Nat} {p t : Int} (h : Hn W x p t) (hk : Keeps DT W W1) : Hn W1 x p t := (hk.2 x _ _ _ h (by decide)).trans h
theorem keeps_R5 {W W1 : World} {base : Nat} {v : Value} {xs : List Int} (h : Kd.R (Kd.int .u8) 5 W base (fun _ => True) v xs) (hk : Keeps DT W W1) : Kd.R (Kd.int .u8) 5 W1 base (fun _ => True) v xs := R_keeps h hk (fun q hq => by
  have : q = 5 := by simpa [Kd.int, Kd.scalar] using hq
  subst this; decide)
theorem keeps_R3 {W W1 : World} {base : Nat} {v : Value} {xs : List Int} (h : Kd.R (Kd.int .i64) 3 W base (fun _ => True) v xs) (hk : Keeps DT W W1) : Kd.R (Kd.int .i64) 3 W1 base (fun _ => True) v xs := R_keeps h hk (fun q hq => by
  have : q = 3 := by simpa [Kd.int, Kd.scalar] using hq
  subst this; decide)
theorem keeps_J {W W1 : World} {k : Nat} {n : Int} (h : Joined W k n) (hk : Keeps DT W W1) : Joined W1 k n := h.keeps hk ⟨by decide, by decide⟩
abbrev D1 (sb : Nat) : DataW Unit := .map [(.int .i64 0, .lit (.int .i64 (sb : Int)))]
abbrev SA (sg mb : Nat) (wt : Bool) (bv : Value) (bs : List Int) : Sn := ⟨wt, bv, bs, sg, [], 0, mb, 0, .map []⟩
abbrev SB (sg mb : Nat) : Sn := ⟨false, .slice none 0 0, [], sg, [⟨1, true⟩], 1, mb, 1, .map [(.int .i64 0, .lit (.int .i64 7))]⟩
theorem hasI_D1 (sb : Nat) : hasI (D1 sb) 0 := rfl
theorem hasB_one : hasB [⟨1, true⟩] 0 1 = true := rfl
theorem at_one : (DataW.map [(.int .i64 0, .lit (.int .i64 7))] : DataW Unit).atKey (.int .i64 0) (.lit (.int .i64 0)) = .lit (.int .i64 7) := rfl
section
variable {w W : World} {d pg M : Nat} {most n : Int} {ps : List S108} {snaps : Int} {cap : Nat} {D : DataW Unit} {sm : Int} {F : Int → Nat × Sn}
theorem dsend1 (h : DS w W d pg M most n ps snaps cap D sm F) {p t : Int} (hp : (Lit.int .i64 p).wf = true) (hh : hasB ps p t = true) (hx : hasI D p) (hw : (F p).2.wt = false) (A : Option Addr) (b : Int) (hb : Kd.C (Kd.int .u8) W A [b].length [b]) :
    Calls Tryd.prog 41 #[.pointer (some ⟨d, 0, none⟩), .agg #[.int .i64 p, .int .i64 t], .slice A 1 1] W fun e w' => ∃ v', e = .returned .nilIface ∧ DS w w' d pg M most n ps snaps cap D sm (upF F p ((F p).1, { (F p).2 with wt := true, bv := v', bs := [b] })) ∧ Keeps DT W w' :=
  dsend h hp hh hx hw A 1 [b] hb (by simp)
end
theorem dkeep1 {w W : World} {d pg M sb sg mb : Nat} (h : DS w W d pg M 1 1 [⟨1, true⟩] 1 1 (D1 sb) 1 (upF F0 0 (sb, SA sg mb false (.slice none 0 0) []))) :
    Calls Tryd.prog 42 #[.pointer (some ⟨d, 0, none⟩), .agg #[.int .i64 0, .int .i64 1], .int .i64 7] W fun e w' => e = .returned (.tuple #[.agg #[.int .i64 0, .int .i64 1], .nilIface]) ∧ DS w w' d pg M 1 1 [⟨1, true⟩] 1 1 (D1 sb) 1 (upF F0 0 (sb, SB sg mb)) ∧ Keeps DT W w' := by
  refine (dkeep h (p := 0) (t := 1) (r := 7) (i := 0) rfl rfl (hasI_D1 sb) (by rw [upF_same]; dsimp only [SA]; decide) rfl (by rw [upF_same]; dsimp only [SA]; decide) (fun j hj => absurd hj (by omega)) (by rw [upF_same]; dsimp only [SA]; decide) (by decide) (by rw [upF_same]; dsimp only [SA]; decide) (by rw [upF_same]; dsimp only [SA]; decide) (by rw [upF_same]; dsimp only [SA]; decide) (by rw [upF_same]; dsimp only [SA]; decide) (by rw [upF_same]; dsimp only [SA]; decide)).mono ?_
  rintro e w' ⟨rfl, h1, h2⟩
  rw [upF_same, upF_up] at h1
  rw [upF_same]
  exact ⟨rfl, h1, h2⟩
theorem dkept1 {w W : World} {d pg M sb sg mb : Nat} (h : DS w W d pg M 1 1 [⟨1, true⟩] 1 1 (D1 sb) 1 (upF F0 0 (sb, SB sg mb))) :
    Calls Tryd.prog 46 #[.pointer (some ⟨d, 0, none⟩)] W fun e w' => ∃ v, e = .returned v ∧ Kd.R (Kd.int .i64) 3 w' W.heap.size (fun _ => True) v [7] ∧ DS w w' d pg M 1 1 [⟨1, true⟩] 1 1 (D1 sb) 1 (upF F0 0 (sb, SB sg mb)) ∧ Below W.heap.size W w' := by
  have h0 : ∀ x, hasI (D1 sb) x → x = 0 := fun x hx => by
    simp [hasI, Go.Maps.has, Lit.sameKey] at hx; omega
  refine (dkept h (fun _ _ => 7) (fun x hx k hk => ?_) (by simp [Go.Maps.size]) (fun x hx => ?_)).mono ?_
  · obtain rfl := h0 x hx
    rw [upF_same] at hk ⊢
    have hk0 : k = 0 := by simp [hasI, Go.Maps.has, Lit.sameKey] at hk; omega
    subst hk0; rfl
  · obtain rfl := h0 x hx
    rw [upF_same]; simp [Go.Maps.size]
  · rintro e w' ⟨v, V, rfl, hr, hp, h1, h2⟩
    have e1 : ((Go.intKeys (D1 sb)).flatMap fun x => (Go.intKeys ((upF F0 0 (sb, SB sg mb)) x).2.D).map (fun _ => (7 : Int))) = [7] := by
      show (([0] : List Int).flatMap fun x => (Go.intKeys ((upF F0 0 (sb, SB sg mb)) x).2.D).map (fun _ => (7 : Int))) = [7]
      simp [upF_same, Go.intKeys]
    rw [e1] at hp
    obtain rfl := hp.eq_singleton
    exact ⟨v, rfl, by simpa using hr, h1, h2⟩
theorem dclose1 {w W : World} {d pg M sb sg mb : Nat} (h : DS w W d pg M 1 1 [⟨1, true⟩] 1 1 (D1 sb) 1 (upF F0 0 (sb, SB sg mb))) :
    Calls Tryd.prog 43 #[.pointer (some ⟨d, 0, none⟩), .agg #[.int .i64 0, .int .i64 1]] W fun e w' => ∃ v, e = .returned (.tuple #[v, .nilIface]) ∧ Kd.R (Kd.int .i64) 3 w' W.heap.size (fun _ => True) v [7] ∧ DS w w' d pg M 1 0 [⟨1, false⟩] 1 1 (.map []) 1 (upF F0 0 (sb, SB sg mb)) ∧ Keeps DT W w' := by
  refine (dclose h 0 (t := 1) (by decide) (by decide) rfl (hasI_D1 sb) (by decide) (by decide) (by rw [show ((0 : Nat) : Int) = 0 from rfl, upF_same]; simp [Go.Maps.size]) (fun _ => 7) ?_).mono ?_
  · rw [show ((0 : Nat) : Int) = 0 from rfl, upF_same]
    intro k hk
    have hk0 : k = 0 := by simpa [Go.intKeys, Go.intOf] using hk
    subst hk0; exact ⟨rfl, rfl⟩
  · rintro e w' ⟨v, rfl, hr, h1, h2⟩
    rw [show ((0 : Nat) : Int) = 0 from rfl, upF_same] at hr
    exact ⟨v, rfl, by simpa [Go.intKeys, Go.intOf] using hr, h1, h2⟩
set_option maxHeartbeats 8000000 in
set_option maxRecDepth 100000 in
theorem awaked_calls (w : World) (hG : Good w) : Calls Tryd.prog 48 #[] w fun e w' => e = .returned (.bool true) ∧ Below w.heap.size w w' := by
  have HG := Lib.hid hG
  clear hG
  go_enter Tryd.func48, Tryd.ntmps48
  go_wp2_with (fail)
  go_at_call 39
  (with_reducible refine (dnew (w := w) 1 1 (Below.refl _ _)).mono ?_)
  rintro e w1 ⟨d, pg, M, rfl, h1, b1⟩
  have H1 : Hid (DS w w1 d pg M 1 0 [] 1 0 (.map []) 1 F0) := Lib.hid h1
  clear h1 b1
  go_wp2_with (fail)
  go_at_call 40
  (with_reducible refine (dopen H1.out (by decide) 0 (fun h => by simp [hasI, Go.Maps.has] at h) (by decide) (by decide) (fun j hj => absurd hj (by omega)) (fun h => absurd h (by simp)) (by decide) (by decide) (by decide) (by decide) (by decide) (by decide)).mono ?_)
  rintro e w2 ⟨sb, sg, mb, rfl, h2, k2⟩
  have h2' : DS w w2 d pg M 1 1 [⟨1, true⟩] 1 1 (D1 sb) 1 (upF F0 0 (sb, SA sg mb false (.slice none 0 0) [])) := h2
  rw [show turnOf [] 0 = 1 from rfl]
  have B2 := below_alloc (Below.refl w2.heap.size w2) (.cells #[.int .i64 0, .int .i64 1] 40)
  have H2 := Lib.hid (h2'.below B2)
  have HH := Lib.hid (show Hn (w2.alloc (.cells #[.int .i64 0, .int .i64 1] 40)) w2.heap.size 0 1 from heap_alloc_new w2 _)
  clear h2 h2' k2 H1 B2
  go_wp2_with (fail)
  generalize w2.alloc (.cells #[.int .i64 0, .int .i64 1] 40) = W2 at *
  have F1 : ∀ j : Nat, j < 1 → (plc [⟨1, true⟩] j).f1 = true := fun j hj => by
    obtain rfl : j = 0 := by omega
    rfl
  go_at_call 40
  (with_reducible refine (dopen_full (i := 1) H2.out HG.out (by decide) F1 (fun h => absurd h (by simp)) (by decide)).mono ?_)
  rintro e w3 ⟨k1, rfl, hj, h3, b3⟩
  have B3 := below_alloc (Below.refl w3.heap.size w3) (.cells #[.int .i64 0, .int .i64 0] 40)
  have H3 := Lib.hid (h3.below B3)
  have HJ1 := Lib.hid (hj.below B3)
  have HH3 := Lib.hid (show Hn _ _ _ _ from blk_below (blk_below HH.out b3) B3)
  clear hj h3 b3 B3 H2 HH
  have q0 := (blk_cell HH3.out 0).trans (show _ = some (Value.int .i64 0) from rfl)
  have q1 := (blk_cell HH3.out 1).trans (show _ = some (Value.int .i64 1) from rfl)
  have kc := fun (w : World) (C : Array Value) (n c : Nat) => Lib.run_convert_bytes_const (P := Tryd.prog) w 80 5 C n c Tryd.underlying80 Tryd.underlying5
  go_upto_region 6 with (fail)
  generalize w3.alloc (.cells #[.int .i64 0, .int .i64 0] 40) = W3 at *
  go_wp2_with (fail)
  have HC := Lib.hid (bytes1 W3 97)
  have B4 := below_alloc (Below.refl W3.heap.size W3) (.cells #[.int .u8 97] 5 (1, 2))
  have H4 := Lib.hid (H3.out.below B4)
  have HJ4 := Lib.hid (HJ1.out.below B4)
  have HH4 := Lib.hid (show Hn _ _ _ _ from blk_below HH3.out B4)
  clear B4 H3 HJ1 HH3 q0 q1
  go_at_call 41
  (with_reducible refine (dsend1 H4.out (p := 0) (t := 1) rfl rfl (hasI_D1 sb) (by rw [upF_same]) _ 97 HC.out).mono ?_)
  rintro e w5 ⟨v1, rfl, h5, k5⟩
  rw [upF_same, upF_up] at h5
  have H5 : Hid (DS w w5 d pg M 1 1 [⟨1, true⟩] 1 1 (D1 sb) 1 (upF F0 0 (sb, SA sg mb true v1 [97]))) := Lib.hid h5
  have HJ5 := Lib.hid (keeps_J HJ4.out k5)
  have HH5 := Lib.hid (keeps_hn HH4.out k5)
  clear h5 k5 H4 HJ4 HH4 HC
  have q0 := (blk_cell HH5.out 0).trans (show _ = some (Value.int .i64 0) from rfl)
  have q1 := (blk_cell HH5.out 1).trans (show _ = some (Value.int .i64 1) from rfl)
  go_wp2_with (fail)
  go_at_call 41
  (with_reducible refine (dsend_busy H5.out HG.out (p := 0) (t := 1) rfl rfl (hasI_D1 sb) (by rw [upF_same]) none 0 0 (by decide)).mono ?_)
  rintro e w6 ⟨k2, rfl, hj, h6, b6⟩
  have H6 := Lib.hid h6
  have HJ6 := Lib.hid (HJ5.out.below b6)
  have HK6 := Lib.hid hj
  have HH6 := Lib.hid (show Hn _ _ _ _ from blk_below HH5.out b6)
  clear h6 b6 hj H5 HJ5 HH5 q0 q1
  have q0 := (blk_cell HH6.out 0).trans (show _ = some (Value.int .i64 0) from rfl)
  have q1 := (blk_cell HH6.out 1).trans (show _ = some (Value.int .i64 1) from rfl)
  go_wp2_with (fail)
  go_at_call 45
  (with_reducible refine (dwaits H6.out (p := 0) (t := 1) rfl rfl (hasI_D1 sb) (by rw [upF_same]) (by rw [upF_same]; dsimp only [SA]; decide)).mono ?_)
  rintro e w7 ⟨v2, rfl, hr, h7, b7⟩
  rw [upF_same] at hr
  obtain ⟨A2, c2, rfl⟩ := Kd.R_slice hr
  have H7 := Lib.hid h7
  have HJ7 := Lib.hid (HJ6.out.below b7)
  have HK7 := Lib.hid (HK6.out.below b7)
  have HH7 := Lib.hid (show Hn _ _ _ _ from blk_below HH6.out b7)
  have HR7 := Lib.hid hr
  clear h7 b7 hr H6 HJ6 HK6 HH6 q0 q1
  have q0 := (blk_cell HH7.out 0).trans (show _ = some (Value.int .i64 0) from rfl)
  have q1 := (blk_cell HH7.out 1).trans (show _ = some (Value.int .i64 1) from rfl)
  go_wp2_with (fail)
  go_at_call 49
  (with_reducible refine (dtake H7.out (p := 0) (t := 1) rfl rfl (hasI_D1 sb) (by rw [upF_same])).mono ?_)
  rintro e w8 ⟨rfl, hr, h8, k8⟩
  rw [upF_same] at hr ⊢
  rw [upF_same, upF_up] at h8
  have hr' : Kd.R (Kd.int .u8) 5 w8 w.heap.size (fun _ => True) v1 [97] := hr
  obtain ⟨A1, c1, rfl⟩ := Kd.R_slice hr'
  have H8 : Hid (DS w w8 d pg M 1 1 [⟨1, true⟩] 1 1 (D1 sb) 1 (upF F0 0 (sb, SA sg mb false (.slice none 0 0) []))) := Lib.hid h8
  have HJ8 := Lib.hid (keeps_J HJ7.out k8)
  have HK8 := Lib.hid (keeps_J HK7.out k8)
  have HH8 := Lib.hid (keeps_hn HH7.out k8)
  have HR8 := Lib.hid (keeps_R5 HR7.out k8)
  have HT8 := Lib.hid hr'
  clear h8 k8 hr hr' H7 HJ7 HK7 HH7 HR7 q0 q1
  have q0 := (blk_cell HH8.out 0).trans (show _ = some (Value.int .i64 0) from rfl)
  have q1 := (blk_cell HH8.out 1).trans (show _ = some (Value.int .i64 1) from rfl)
  go_wp2_with (fail)
  go_at_call 49
  (with_reducible refine (dtake_idle H8.out HG.out (p := 0) (t := 1) rfl rfl (hasI_D1 sb) (by rw [upF_same])).mono ?_)
  rintro e w9 ⟨k3, rfl, hj, h9, b9⟩
  have H9 := Lib.hid h9
  have HJ9 := Lib.hid (HJ8.out.below b9)
  have HK9 := Lib.hid (HK8.out.below b9)
  have HL9 := Lib.hid hj
  have HH9 := Lib.hid (show Hn _ _ _ _ from blk_below HH8.out b9)
  have HR9 := Lib.hid (Kd.R_below HR8.out b9)
  have HT9 := Lib.hid (Kd.R_below HT8.out b9)
  clear h9 b9 hj H8 HJ8 HK8 HH8 HR8 HT8 q0 q1
  have q0 := (blk_cell HH9.out 0).trans (show _ = some (Value.int .i64 0) from rfl)
  have q1 := (blk_cell HH9.out 1).trans (show _ = some (Value.int .i64 1) from rfl)
  go_wp2_with (fail)
  go_at_call 42
  (with_reducible refine (dkeep1 H9.out).mono ?_)
  rintro e w10 ⟨rfl, h10, k10⟩
  have B10 := below_alloc (Below.refl w10.heap.size w10) (.cells #[.int .i64 0, .int .i64 1] 40)
  have H10 := Lib.hid (h10.below B10)
  have HJ10 := Lib.hid ((keeps_J HJ9.out k10).below B10)
  have HK10 := Lib.hid ((keeps_J HK9.out k10).below B10)
  have HL10 := Lib.hid ((keeps_J HL9.out k10).below B10)
  have HH10 := Lib.hid (show Hn _ _ _ _ from blk_below (keeps_hn HH9.out k10) B10)
  have HR10 := Lib.hid (Kd.R_below (keeps_R5 HR9.out k10) B10)
  have HT10 := Lib.hid (Kd.R_below (keeps_R5 HT9.out k10) B10)
  have HN10 := Lib.hid (show Hn (w10.alloc (.cells #[.int .i64 0, .int .i64 1] 40)) w10.heap.size 0 1 from heap_alloc_new w10 _)
  clear h10 k10 B10 H9 HJ9 HK9 HL9 HH9 HR9 HT9 q0 q1
  go_upto_region 12 with (fail)
  generalize w10.alloc (.cells #[.int .i64 0, .int .i64 1] 40) = W10 at *
  have q0 := (blk_cell HH10.out 0).trans (show _ = some (Value.int .i64 0) from rfl)
  have q1 := (blk_cell HH10.out 1).trans (show _ = some (Value.int .i64 1) from rfl)
  have r0 := (blk_cell HN10.out 0).trans (show _ = some (Value.int .i64 0) from rfl)
  have r1 := (blk_cell HN10.out 1).trans (show _ = some (Value.int .i64 1) from rfl)
  go_wp2_with (fail)
  go_at_call 47
  (with_reducible refine (dfind H10.out (p := 0) (t := 1) (p2 := 0) (t2 := 1) (r := 7) rfl rfl (hasI_D1 sb) rfl (by rw [upF_same]; exact hasB_one) (by rw [upF_same]; exact at_one)).mono ?_)
  rintro e w11 ⟨rfl, h11, b11⟩
  have H11 := Lib.hid h11
  have HJ11 := Lib.hid (HJ10.out.below b11)
  have HK11 := Lib.hid (HK10.out.below b11)
  have HL11 := Lib.hid (HL10.out.below b11)
  have HH11 := Lib.hid (show Hn _ _ _ _ from blk_below HH10.out b11)
  have HR11 := Lib.hid (Kd.R_below HR10.out b11)
  have HT11 := Lib.hid (Kd.R_below HT10.out b11)
  clear h11 b11 H10 HJ10 HK10 HL10 HH10 HR10 HT10 HN10 q0 q1 r0 r1
  go_wp2_with (fail)
  go_at_call 46
  (with_reducible refine (dkept1 H11.out).mono ?_)
  rintro e w12 ⟨v3, rfl, hr, h12, b12⟩
  obtain ⟨A3, c3, rfl⟩ := Kd.R_slice hr
  have H12 := Lib.hid h12
  have HJ12 := Lib.hid (HJ11.out.below b12)
  have HK12 := Lib.hid (HK11.out.below b12)
  have HL12 := Lib.hid (HL11.out.below b12)
  have HH12 := Lib.hid (show Hn _ _ _ _ from blk_below HH11.out b12)
  have HR12 := Lib.hid (Kd.R_below HR11.out b12)
  have HT12 := Lib.hid (Kd.R_below HT11.out b12)
  have HU12 := Lib.hid hr
  clear h12 b12 hr H11 HJ11 HK11 HL11 HH11 HR11 HT11
  have q0 := (blk_cell HH12.out 0).trans (show _ = some (Value.int .i64 0) from rfl)
  have q1 := (blk_cell HH12.out 1).trans (show _ = some (Value.int .i64 1) from rfl)
  go_wp2_with (fail)
  go_at_call 43
  (with_reducible refine (dclose1 H12.out).mono ?_)
  rintro e w13 ⟨v4, rfl, hr, h13, k13⟩
  obtain ⟨A4, c4, rfl⟩ := Kd.R_slice hr
  have H13 := Lib.hid h13
  have HJ13 := Lib.hid (keeps_J HJ12.out k13)
  have HK13 := Lib.hid (keeps_J HK12.out k13)
  have HL13 := Lib.hid (keeps_J HL12.out k13)
  have HH13 := Lib.hid (keeps_hn HH12.out k13)
  have HR13 := Lib.hid (keeps_R5 HR12.out k13)
  have HT13 := Lib.hid (keeps_R5 HT12.out k13)
  have HU13 := Lib.hid (keeps_R3 HU12.out k13)
  have HV13 := Lib.hid hr
  clear h13 k13 hr H12 HJ12 HK12 HL12 HH12 HR12 HT12 HU12 q0 q1
  go_wp2_with (fail)
  go_at_call 14
  (with_reducible refine (code_join k1 2 _ (good_et' (H13.out.good HG.out)) HJ13.out).mono ?_)
  rintro e w14 ⟨rfl, b14⟩
  have H14 := Lib.hid (H13.out.below b14)
  have HK14 := Lib.hid (HK13.out.below b14)
  have HL14 := Lib.hid (HL13.out.below b14)
  have HH14 := Lib.hid (show Hn _ _ _ _ from blk_below HH13.out b14)
  have HR14 := Lib.hid (Kd.R_below HR13.out b14)
  have HT14 := Lib.hid (Kd.R_below HT13.out b14)
  have HU14 := Lib.hid (Kd.R_below HU13.out b14)
  have HV14 := Lib.hid (Kd.R_below HV13.out b14)
  clear b14 H13 HJ13 HK13 HL13 HH13 HR13 HT13 HU13 HV13
  go_wp2_with (fail)
  go_at_call 14
  (with_reducible refine (code_join k2 17 _ (good_et' (H14.out.good HG.out)) HK14.out).mono ?_)
  rintro e w15 ⟨rfl, b15⟩
  have H15 := Lib.hid (H14.out.below b15)
  have HL15 := Lib.hid (HL14.out.below b15)
  have HH15 := Lib.hid (show Hn _ _ _ _ from blk_below HH14.out b15)
  have HR15 := Lib.hid (Kd.R_below HR14.out b15)
  have HT15 := Lib.hid (Kd.R_below HT14.out b15)
  have HU15 := Lib.hid (Kd.R_below HU14.out b15)
  have HV15 := Lib.hid (Kd.R_below HV14.out b15)
  clear b15 H14 HK14 HL14 HH14 HR14 HT14 HU14 HV14
  have s1 : (convert 80 9 (.slice A2 1 c2)).run Tryd.prog w15 = .ok (.string { data := #[97] }) w15 := str80 (W := w15) (c := c2) (Kd.R_reads' HR15.out).2.2
  have s2 : (convert 80 9 (.slice A1 1 c1)).run Tryd.prog w15 = .ok (.string { data := #[97] }) w15 := str80 (W := w15) (c := c1) (Kd.R_reads' HT15.out).2.2
  go_wp2_with (fail)
  go_at_call 14
  (with_reducible refine (code_join k3 18 _ (good_et' (H15.out.good HG.out)) HL15.out).mono ?_)
  rintro e w16 ⟨rfl, b16⟩
  have H16 := Lib.hid (H15.out.below b16)
  have HH16 := Lib.hid (show Hn _ _ _ _ from blk_below HH15.out b16)
  obtain ⟨a3, e3, u3⟩ := Kd.at_int (Kd.R_reads' (Kd.R_below HU15.out b16)).2.2 0 (by decide) (by decide)
  obtain ⟨a4, e4, u4⟩ := Kd.at_int (Kd.R_reads' (Kd.R_below HV15.out b16)).2.2 0 (by decide) (by decide)
  subst e3 e4
  have u3' : w16.cell? a3 = some (.int .i64 7) := u3
  have u4' : w16.cell? a4 = some (.int .i64 7) := u4
  clear b16 H15 HL15 HH15 HR15 HT15 HU15 HV15 s1 s2 u3 u4
  have q0 := (blk_cell HH16.out 0).trans (show _ = some (Value.int .i64 0) from rfl)
  have q1 := (blk_cell HH16.out 1).trans (show _ = some (Value.int .i64 1) from rfl)
  go_wp2_with (fail)
  go_at_call 41
  (with_reducible refine (dsend_no H16.out HG.out (p := 0) (t := 1) (by decide) rfl none 0 0).mono ?_)
  rintro e w17 ⟨k4, rfl, hj, h17, b17⟩
  have H17 := Lib.hid h17
  have HJ17 := Lib.hid hj
  clear h17 hj b17 H16 HH16 q0 q1 u3' u4'
  go_wp2_with (fail)
  go_at_call 14
  (with_reducible refine (code_join k4 3 _ (good_et' (H17.out.good HG.out)) HJ17.out).mono ?_)
  rintro e w18 ⟨rfl, b18⟩
  have HB := Lib.hid (below_step H17.out.bl b18)
  clear b18
  go_wp2
  go_ret
  exact ⟨rfl, HB.out⟩
end Go.Proofs.YtphaaagcdjpceaaDoor
namespace Go.Proofs.YtphaaagcdjpceaaDoor
open Go.RowKit Go.Extern.Stop Go.Stop Go.Extern Go.Proofs.YtphaaagcdjpceaaDoorW.PrintWords Go.Proofs.YtphaaagcdjpceaaDoorW.PrintLast Go.Proofs.YtphaaagcdjpceaaDoorW.PrintMore
open Go.Maps (Keyed)
set_option linter.unusedVariables false
abbrev tk (n : Nat) : List S108 := List.replicate n ⟨1, true⟩
structure RD (D : DataW Unit) (rs : List Int) : Prop where
  tidy : Go.Maps.Tidy D
  has : ∀ k, hasI D k ↔ 0 ≤ k ∧ k < (rs.length : Int)
  at_ : ∀ k : Int, 0 ≤ k → k < (rs.length : Int) → ∀ z, D.atKey (.int .i64 k) z = .lit (.int .i64 (rs.getD k.toNat 0))
  size : Go.Maps.size D = rs.length
theorem RD.nil : RD (.map []) [] := ⟨Go.Maps.tidy_empty, fun k => ⟨fun h => by simp [hasI, Go.Maps.has] at h, fun h => by simp at h; omega⟩, fun k h1 h2 => by simp at h2; omega, rfl⟩
theorem RD.snoc {D : DataW Unit} {rs : List Int} (h : RD D rs) (r : Int) : RD (D.put (.int .i64 (rs.length : Int)) (.lit (.int .i64 r))) (rs ++ [r]) := by
  refine ⟨h.tidy.put (isKey_int _) _, fun k => ?_, fun k h1 h2 z => ?_, ?_⟩
  · rw [hasI_put h.tidy.isMap, h.has]; simp; omega
  · rw [at_putI h.tidy.isMap]
    by_cases e : k = (rs.length : Int)
    · subst e; simp
    · rw [if_neg e]
      have h3 : k < (rs.length : Int) := by simp at h2; omega
      rw [h.at_ k h1 h3]
      have : k.toNat < rs.length := by omega
      rw [List.getD_eq_getElem?_getD, List.getD_eq_getElem?_getD, List.getElem?_append_left this]
  · rw [Go.Maps.size_put h.tidy]
    have hn : Go.Maps.has D (.int .i64 (rs.length : Int)) = false := by
      have := h.has (rs.length : Int)
      cases hh : Go.Maps.has D (.int .i64 (rs.length : Int))
      · rfl
      · exact absurd (this.1 hh).2 (by omega)
    rw [hn, h.size]; simp
theorem RD.keys {W : World} {mb cap : Nat} {D : DataW Unit} {rs : List Int} (h : RD D rs) (hm : RM W mb cap D) : ((List.range rs.length).map (fun i : Nat => (i : Int))).Perm (Go.intKeys D) := by
  refine Go.CollectedI.perm (left := fun _ => false) ⟨?_, fun x => ?_⟩ hm key3 Tryd.underlying3 (fun _ => rfl)
  · rw [List.Nodup, List.pairwise_map]
    exact List.nodup_range.imp (fun h e => h (by omega))
  · have h1 := h.has x
    unfold hasI at h1
    rw [List.mem_map, h1]
    simp only [List.mem_range, and_true]
    constructor
    · rintro ⟨i, hi, rfl⟩; omega
    · rintro ⟨h2, h3⟩; exact ⟨x.toNat, by omega, by omega⟩
theorem RD.count {W : World} {mb cap : Nat} {D : DataW Unit} {rs : List Int} (h : RD D rs) (hm : RM W mb cap D) : (Go.intKeys D).length = rs.length := by
  have := (h.keys hm).length_eq
  simpa using this.symm
abbrev sT (sg mb : Nat) (v : Value) (b : Int) (n : Nat) (D : DataW Unit) : Sn := ⟨true, v, [b], sg, tk n, (n : Int), mb, n, D⟩
def F2 (a b : Nat × Sn) : Int → Nat × Sn := fun x => if x = 0 then a else if x = 1 then b else (0, newS 0 0)
abbrev E2 (p q : Nat) : DataW Unit := .map [(.int .i64 0, .lit (.int .i64 (p : Int))), (.int .i64 1, .lit (.int .i64 (q : Int)))]
abbrev OD (w W : World) (d pg M p q : Nat) (s u : Sn) : Prop := DS w W d pg M 2 2 [⟨1, true⟩, ⟨1, true⟩] 20 2 (E2 p q) 20 (F2 (p, s) (q, u))
abbrev OC0 (w W : World) (d pg M p q : Nat) (s u : Sn) : Prop := DS w W d pg M 2 1 [⟨1, false⟩, ⟨1, true⟩] 20 2 (.map [(.int .i64 1, .lit (.int .i64 (q : Int)))]) 20 (F2 (p, s) (q, u))
abbrev OO0 (w W : World) (d pg M p q : Nat) (s u : Sn) : Prop := DS w W d pg M 2 2 [⟨2, true⟩, ⟨1, true⟩] 20 3 (E2 p q) 20 (F2 (p, s) (q, u))
abbrev OC1 (w W : World) (d pg M p q : Nat) (s u : Sn) : Prop := DS w W d pg M 2 1 [⟨1, true⟩, ⟨1, false⟩] 20 2 (.map [(.int .i64 0, .lit (.int .i64 (p : Int)))]) 20 (F2 (p, s) (q, u))
abbrev OO1 (w W : World) (d pg M p q : Nat) (s u : Sn) : Prop := DS w W d pg M 2 2 [⟨1, true⟩, ⟨2, true⟩] 20 3 (E2 p q) 20 (F2 (p, s) (q, u))
end Go.Proofs.YtphaaagcdjpceaaDoor
namespace Go.Proofs.YtphaaagcdjpceaaDoor
open Go.RowKit Go.Extern.Stop Go.Stop Go.Extern Go.Proofs.YtphaaagcdjpceaaDoorW.PrintWords Go.Proofs.YtphaaagcdjpceaaDoorW.PrintLast Go.Proofs.YtphaaagcdjpceaaDoorW.PrintMore
open Go.Maps (Keyed)
set_option linter.unusedVariables false
section
variable {w W : World} {d pg M : Nat}
end
theorem take_next {zs : List Int} {j : Nat} (h : j < zs.length) : zs.take (j + 1) = zs.take j ++ [zs.getD j 0] := by
  rw [List.take_add_one, List.getD_eq_getElem?_getD, List.getElem?_eq_getElem h]; rfl
theorem cells_set2 {wx : World} {hb : Nat} {a : Addr} {r u v : Value} (hc : wx.cell? a = some r) (hne : a.block ≠ hb) : ((wx.setCell ⟨hb, 0, none⟩ u).setCell ⟨hb, 1, none⟩ v).cell? a = some r := by
  rw [World.cell?_of_block (a := a) ((Below.heap_setCell _ ⟨hb, 1, none⟩ v a.block hne).trans (Below.heap_setCell wx ⟨hb, 0, none⟩ u a.block hne))]
  exact hc
def hsOf (n : Nat) : List S40 := (List.range n).map (fun j : Nat => ⟨(j : Int), 1⟩)
structure SN (W : World) (B x z : Nat) (r0 r1 : Value) (n0 n1 : Nat) : Prop where
  hz : W.heap[z]? = some (.cells #[r0, r1] 82 (0, 0))
  h0 : Kd.R k40 40 W B (fun k => k ≠ x) r0 (hsOf n0)
  h1 : Kd.R k40 40 W B (fun k => k ≠ x) r1 (hsOf n1)
  ne : ∀ k, r0.ownBlock = some k → r1.ownBlock ≠ some k
theorem SN.keeps {W W1 : World} {B x z : Nat} {r0 r1 : Value} {n0 n1 : Nat} (h : SN W B x z r0 r1 n0 n1) (hk : Keeps DT W W1) : SN W1 B x z r0 r1 n0 n1 :=
  ⟨(hk.2 z _ _ _ h.hz (by decide)).trans h.hz, R_keeps h.h0 hk (fun q hq => by rw [E40 q hq]; decide), R_keeps h.h1 hk (fun q hq => by rw [E40 q hq]; decide), h.ne⟩
theorem SN.below {W W1 : World} {B x z : Nat} {r0 r1 : Value} {n0 n1 : Nat} (h : SN W B x z r0 r1 n0 n1) (hb : Below W.heap.size W W1) : SN W1 B x z r0 r1 n0 n1 := h.keeps (Keeps.below hb)
theorem SS.kinds2 {W : World} {base sb : Nat} {sm : Int} {s : Sn} (h : SS W base sb sm s) (k : Nat) (hk : foot W sb s k) (cs : Array Value) (t : Nat) (fr : Nat × Nat) (e : W.heap[k]? = some (Obj.cells cs t fr)) : t = 136 ∨ t = 106 ∨ t = 108 ∨ t = 5 := by
  obtain ⟨h1, ⟨g0, A, c, p1, p2⟩, ⟨es, clock, hm, r⟩, h4, h5⟩ := h
  rcases hk with rfl | rfl | hk | rfl | hk
  · rw [h1] at e; injection e with e; injection e with _ e _; exact .inl e.symm
  · rw [p1] at e; injection e with e; injection e with _ e _; exact .inr (.inl e.symm)
  · rw [abk_of ((blk_cell p1 1).trans (show _ = some (Value.slice A s.ps.length c) from rfl))] at hk
    obtain ⟨cells, hc⟩ := Kd.R_typed p2 k hk.symm
    rw [hc] at e; injection e with e; injection e with _ e _; exact .inr (.inr (.inl e.symm))
  · rw [hm] at e; cases e
  · obtain ⟨cells, hc⟩ := Kd.R_typed h4 k hk.symm
    rw [hc] at e; injection e with e; injection e with _ e _; exact .inr (.inr (.inr e.symm))
theorem DK.kinds2 {W : World} {base d pg M : Nat} {most n : Int} {ps : List S108} {snaps : Int} {cap : Nat} {D : DataW Unit} (h : DK W base d pg M most n ps snaps cap D) (k : Nat) (hk : k = d ∨ k = pg ∨ some k = abk W pg ∨ k = M) (cs : Array Value) (t : Nat) (fr : Nat × Nat) (e : W.heap[k]? = some (Obj.cells cs t fr)) : t = 133 ∨ t = 106 ∨ t = 108 := by
  obtain ⟨h1, ⟨g0, A, c, p1, p2⟩, ⟨es, clock, hm, r⟩⟩ := h
  rcases hk with rfl | rfl | hk | rfl
  · rw [h1] at e; injection e with e; injection e with _ e _; exact .inl e.symm
  · rw [p1] at e; injection e with e; injection e with _ e _; exact .inr (.inl e.symm)
  · rw [abk_of ((blk_cell p1 1).trans (show _ = some (Value.slice A ps.length c) from rfl))] at hk
    obtain ⟨cells, hc⟩ := Kd.R_typed p2 k hk.symm
    rw [hc] at e; injection e with e; injection e with _ e _; exact .inr (.inr e.symm)
  · rw [hm] at e; cases e
section
variable {W W1 : World} {base d pg M : Nat} {most n : Int} {ps : List S108} {snaps : Int} {cap : Nat} {D : DataW Unit} {sm : Int} {F : Int → Nat × Sn}
theorem Dsk.but {r : Option Nat} (h : Dsk W base d pg M most n ps snaps cap D sm F) (hr : ∀ k, r = some k → ∃ cs t fr, W.heap[k]? = some (Obj.cells cs t fr) ∧ (t = 40 ∨ t = 82)) (ho : ∀ k, k < W.heap.size → some k ≠ r → W1.heap[k]? = W.heap[k]?) : Dsk W1 base d pg M most n ps snaps cap D sm F := by
  have hsm : ∀ x, hasI D x → ∀ k, foot W (F x).1 (F x).2 k → W1.heap[k]? = W.heap[k]? := fun x hx k hk => ho k ((h.at_ x hx).2.lt k hk).2 (fun e => by
    obtain ⟨cs, t, fr, hc, ht⟩ := hr k e.symm
    have := (h.at_ x hx).2.kinds2 k hk cs t fr hc
    rcases ht with rfl | rfl <;> exact absurd this (by decide))
  have hdk : ∀ k, (k = d ∨ k = pg ∨ some k = abk W pg ∨ k = M) → W1.heap[k]? = W.heap[k]? := fun k hk => ho k (h.dk.lt k hk) (fun e => by
    obtain ⟨cs, t, fr, hc, ht⟩ := hr k e.symm
    have := h.dk.kinds2 k hk cs t fr hc
    rcases ht with rfl | rfl <;> exact absurd this (by decide))
  have hf : ∀ x, hasI D x → ∀ k, foot W1 (F x).1 (F x).2 k ↔ foot W (F x).1 (F x).2 k := fun x hx k => foot_same (hsm x hx _ (.inr (.inl rfl))) k
  have ha : abk W1 pg = abk W pg := abk_same (hdk pg (.inr (.inl rfl)))
  refine ⟨h.dk.same hdk, fun x hx => ⟨(h.at_ x hx).1, (h.at_ x hx).2.same (hsm x hx)⟩, fun x hx k hk => ?_, fun x y hx hy hne k hk hk2 => ?_⟩
  · rw [ha]; exact h.far x hx k ((hf x hx k).1 hk)
  · exact h.apart x y hx hy hne k ((hf x hx k).1 hk) ((hf y hy k).1 hk2)
end
section
variable {w W W1 : World} {d pg M : Nat} {most n : Int} {ps : List S108} {snaps : Int} {cap : Nat} {D : DataW Unit} {sm : Int} {F : Int → Nat × Sn}
theorem DS.but {r : Option Nat} (h : DS w W d pg M most n ps snaps cap D sm F) (hr : ∀ k, r = some k → ∃ cs t fr, W.heap[k]? = some (Obj.cells cs t fr) ∧ (t = 40 ∨ t = 82)) (ho : ∀ k, k < W.heap.size → some k ≠ r → W1.heap[k]? = W.heap[k]?) (hb : Below w.heap.size w W1) : DS w W1 d pg M most n ps snaps cap D sm F := ⟨h.ds.but hr ho, hb, h.lm⟩
theorem DS.cell {g t : Nat} {cs : Array Value} {fr : Nat × Nat} (h : DS w W d pg M most n ps snaps cap D sm F) (hg : W.heap[g]? = some (Obj.cells cs t fr)) (ht : t = 40 ∨ t = 82) (hlo : w.heap.size ≤ g) (j : Nat) (u : Value) : DS w (W.setCell ⟨g, j, none⟩ u) d pg M most n ps snaps cap D sm F :=
  h.but (r := some g) (fun k hk => by injection hk with hk; subst hk; exact ⟨cs, t, fr, hg, ht⟩) (fun k hk hne => Below.heap_setCell W ⟨g, j, none⟩ u k (fun e => hne (by rw [e]))) (h.bl.setCell (p := ⟨g, j, none⟩) hlo u)
theorem DS.grown {v : Value} {xs : List S40} {ok : Nat → Prop} {B : Nat} (h : DS w W d pg M most n ps snaps cap D sm F) (hv : Kd.R k40 40 W B ok v xs) (hg : W.grownBy W1 v.ownBlock) (hb : Below w.heap.size w W1) : DS w W1 d pg M most n ps snaps cap D sm F :=
  h.but (fun k hk => by
    obtain ⟨cells, hc⟩ := Kd.R_typed hv k hk
    exact ⟨_, _, _, hc, .inl rfl⟩) (fun k hk hne => hg.block k hk hne) hb
end
theorem hn_set2 {W : World} {g : Nat} {a b p t : Int} (h : Hn W g a b) : Hn ((W.setCell ⟨g, 0, none⟩ (.int .i64 p)).setCell ⟨g, 1, none⟩ (.int .i64 t)) g p t := blk_set (blk_set h 0 (.int .i64 p)) 1 (.int .i64 t)
theorem EE40 : k40.E = [] := by
  cases h : k40.E with
  | nil => rfl
  | cons q r =>
    have : (k40.E).length = 0 := rfl
    rw [h] at this; simp at this
theorem SN.row1 {W : World} {B x z n0 n1 : Nat} {r0 r1 : Value} (h : SN W B x z r0 r1 n0 n1) : Kd.R k40 40 W B (fun k => r0.ownBlock ≠ some k ∧ k ≠ x) r1 (hsOf n1) := Kd.R_mono (Kd.R_tight EE40 h.h1) (fun k hk => ⟨fun e => h.ne k e hk.symm, h.h1.1 k hk.symm⟩)
end Go.Proofs.YtphaaagcdjpceaaDoor
namespace Go.Proofs.YtphaaagcdjpceaaDoor
open Go.RowKit Go.Extern.Stop Go.Stop Go.Extern Go.Proofs.YtphaaagcdjpceaaDoorW.PrintWords Go.Proofs.YtphaaagcdjpceaaDoorW.PrintLast Go.Proofs.YtphaaagcdjpceaaDoorW.PrintMore
open Go.Maps (Keyed)
set_option linter.unusedVariables false
section
variable {w W : World} {d pg M : Nat} {most n : Int} {ps : List S108} {snaps : Int} {cap : Nat} {D : DataW Unit} {sm : Int} {F : Int → Nat × Sn}
theorem dtake_no (h : DS w W d pg M most n ps snaps cap D sm F) (hG : Good w) {p t : Int} (hp : -9223372036854775808 ≤ p ∧ p ≤ 9223372036854775807) (hh : hasB ps p t = false) :
    Calls Tryd.prog 49 #[.pointer (some ⟨d, 0, none⟩), .agg #[.int .i64 p, .int .i64 t]] W fun e w' => ∃ k, e = .returned (.tuple #[.slice none 0 0, .iface 179 (.pointer (some ⟨k, 0, none⟩))]) ∧ Joined w' k 3 ∧ DS w w' d pg M most n ps snaps cap D sm F ∧ Below W.heap.size W w' := by
  refine (takes_no d w.heap.size pg M most n ps snaps cap D p t W (h.good hG) h.ds.dk hp hh).mono ?_
  rintro e w' ⟨k, rfl, hj, hb⟩
  exact ⟨k, rfl, hj, h.below hb, hb⟩
theorem dfind_no (h : DS w W d pg M most n ps snaps cap D sm F) (hG : Good w) {p t : Int} (hp : -9223372036854775808 ≤ p ∧ p ≤ 9223372036854775807) (hh : hasB ps p t = false) (p2 t2 : Int) :
    Calls Tryd.prog 47 #[.pointer (some ⟨d, 0, none⟩), .agg #[.int .i64 p, .int .i64 t], .agg #[.int .i64 p2, .int .i64 t2]] W fun e w' => ∃ k, e = .returned (.tuple #[.int .i64 0, .iface 179 (.pointer (some ⟨k, 0, none⟩))]) ∧ Joined w' k 3 ∧ DS w w' d pg M most n ps snaps cap D sm F ∧ Below W.heap.size W w' := by
  refine (finds_no d w.heap.size pg M most n ps snaps cap D p t W (h.good hG) h.ds.dk hp hh p2 t2).mono ?_
  rintro e w' ⟨k, rfl, hj, hb⟩
  exact ⟨k, rfl, hj, h.below hb, hb⟩
theorem dkeep_no (h : DS w W d pg M most n ps snaps cap D sm F) (hG : Good w) {p t : Int} (hp : -9223372036854775808 ≤ p ∧ p ≤ 9223372036854775807) (hh : hasB ps p t = false) (r : Int) :
    Calls Tryd.prog 42 #[.pointer (some ⟨d, 0, none⟩), .agg #[.int .i64 p, .int .i64 t], .int .i64 r] W fun e w' => ∃ k, e = .returned (.tuple #[.agg #[.int .i64 0, .int .i64 0], .iface 179 (.pointer (some ⟨k, 0, none⟩))]) ∧ Joined w' k 3 ∧ DS w w' d pg M most n ps snaps cap D sm F ∧ Below W.heap.size W w' := by
  refine (keep_no d w.heap.size pg M most n ps snaps cap D p t W (h.good hG) h.ds.dk hp hh r).mono ?_
  rintro e w' ⟨k, rfl, hj, hb⟩
  exact ⟨k, rfl, hj, h.below hb, hb⟩
theorem dkeep_full {i : Nat} (h : DS w W d pg M most n ps snaps cap D (i : Int) F) (hG : Good w) {p t : Int} (hp : (Lit.int .i64 p).wf = true) (hh : hasB ps p t = true) (hx : hasI D p) (r : Int) (hi : i ≤ (F p).2.ps.length) (hf : ∀ j, j < i → (plc (F p).2.ps j).f1 = true) (hf2 : i < (F p).2.ps.length → (plc (F p).2.ps i).f1 = false) (hl : (F p).2.ps.length ≤ 1000) :
    Calls Tryd.prog 42 #[.pointer (some ⟨d, 0, none⟩), .agg #[.int .i64 p, .int .i64 t], .int .i64 r] W fun e w' => ∃ k, e = .returned (.tuple #[.agg #[.int .i64 0, .int .i64 0], .iface 179 (.pointer (some ⟨k, 0, none⟩))]) ∧ Joined w' k 2 ∧ DS w w' d pg M most n ps snaps cap D (i : Int) F ∧ Below W.heap.size W w' := by
  obtain ⟨h1, h2⟩ := h.ds.at_ p hx
  refine (keep_full d w.heap.size pg M (F p).1 most n ps snaps cap D p t (F p).2 r i W (h.good hG) h.ds.dk hp hh h1 h2 hi hf hf2 hl).mono ?_
  rintro e w' ⟨k, rfl, hj, hb⟩
  exact ⟨k, rfl, hj, h.below hb, hb⟩
theorem dfind_gone (h : DS w W d pg M most n ps snaps cap D sm F) (hG : Good w) {p t : Int} (hp : (Lit.int .i64 p).wf = true) (hh : hasB ps p t = true) (hx : hasI D p) {p2 t2 : Int} (hh2 : hasB (F p).2.ps p2 t2 = false) :
    Calls Tryd.prog 47 #[.pointer (some ⟨d, 0, none⟩), .agg #[.int .i64 p, .int .i64 t], .agg #[.int .i64 p2, .int .i64 t2]] W fun e w' => ∃ k, e = .returned (.tuple #[.int .i64 0, .iface 179 (.pointer (some ⟨k, 0, none⟩))]) ∧ Joined w' k 3 ∧ DS w w' d pg M most n ps snaps cap D sm F ∧ Below W.heap.size W w' := by
  obtain ⟨h1, h2⟩ := h.ds.at_ p hx
  refine (find_gone d w.heap.size pg M (F p).1 most n ps snaps cap D p t sm (F p).2 p2 t2 W (h.good hG) h.ds.dk hp hh h1 h2 hh2).mono ?_
  rintro e w' ⟨k, rfl, hj, hb⟩
  exact ⟨k, rfl, hj, h.below hb, hb⟩
end
end Go.Proofs.YtphaaagcdjpceaaDoor
namespace Go.Proofs.YtphaaagcdjpceaaDoor
open Go.RowKit Go.Extern.Stop Go.Stop Go.Extern Go.Proofs.YtphaaagcdjpceaaDoorW.PrintWords Go.Proofs.YtphaaagcdjpceaaDoorW.PrintLast Go.Proofs.YtphaaagcdjpceaaDoorW.PrintMore
open Go.Maps (Keyed)
set_option linter.unusedVariables false
set_option maxRecDepth 100000 in
theorem upon_delr {o : Oper} {a : Act} {K : Act → World → Prop} {Q : Exit → Act → World → Prop} {W : World} {M n : Nat} {D : DataW Unit} {p : Int} {ty : TypeId} {f : Value → World → Result Next} (h : RM W M n D) (hp : (Lit.int .i64 p).wf = true)
    (hk : ∀ w', Pv W w' M n (D.del (.int .i64 p)) → Oper.upon Tryd.prog o a K Q ((Result.ok (.tuple #[]) w').andThen f)) :
    Oper.upon Tryd.prog o a K Q ((Sem.run Tryd.prog (Builtin.delete_ #[123, 3] ty #[.map (some M), .int .i64 p]) W).andThen f) := by
  obtain ⟨w', hr, h1, h2⟩ := World.ownsMap.drop h key3 Tryd.underlying123 (Go.Maps.keyOf_int_mk Tryd.underlying3 hp) ty
  rw [hr]
  exact hk w' ⟨h1, h2.grown⟩
theorem let_err (d : Nat) (p t p2 t2 : Int) (w : World) (hF : ∀ W', Below w.heap.size w W' → Calls Tryd.prog 47 #[.pointer (some ⟨d, 0, none⟩), .agg #[.int .i64 p, .int .i64 t], .agg #[.int .i64 p2, .int .i64 t2]] W' fun e w' => ∃ k, e = .returned (.tuple #[.int .i64 0, .iface 179 (.pointer (some ⟨k, 0, none⟩))]) ∧ Joined w' k 3 ∧ Below W'.heap.size W' w') :
    Calls Tryd.prog 50 #[.pointer (some ⟨d, 0, none⟩), .agg #[.int .i64 p, .int .i64 t], .agg #[.int .i64 p2, .int .i64 t2]] w fun e w' => ∃ k, e = .returned (.tuple #[.int .i64 0, .iface 179 (.pointer (some ⟨k, 0, none⟩))]) ∧ Joined w' k 3 ∧ Below w.heap.size w w' := by
  obtain ⟨B1, hN, hR⟩ := two40 w (.int .i64 p) (.int .i64 t) (.int .i64 p2) (.int .i64 t2)
  have HN := Lib.hid (show Hn ((w.alloc (.cells #[.int .i64 p, .int .i64 t] 40)).alloc (.cells #[.int .i64 p2, .int .i64 t2] 40)) w.heap.size p t from hN)
  have HR := Lib.hid (show Hn ((w.alloc (.cells #[.int .i64 p, .int .i64 t] 40)).alloc (.cells #[.int .i64 p2, .int .i64 t2] 40)) (w.heap.size + 1) p2 t2 from hR)
  have HB := Lib.hid B1
  have HF := Lib.hid hF
  clear B1 hN hR hF
  go_enter Tryd.func50, Tryd.ntmps50
  go_upto_region 1 with (fail)
  generalize (w.alloc (.cells #[.int .i64 p, .int .i64 t] 40)).alloc (.cells #[.int .i64 p2, .int .i64 t2] 40) = w1 at *
  have q0 := (blk_cell HN.out 0).trans (show _ = some (Value.int .i64 p) from rfl)
  have q1 := (blk_cell HN.out 1).trans (show _ = some (Value.int .i64 t) from rfl)
  have k0 := (blk_cell HR.out 0).trans (show _ = some (Value.int .i64 p2) from rfl)
  have k1 := (blk_cell HR.out 1).trans (show _ = some (Value.int .i64 t2) from rfl)
  go_wp2_with (fail)
  go_at_call 47
  (with_reducible refine (HF.out _ HB.out).mono ?_)
  rintro e w2 ⟨k, rfl, hj, hb⟩
  have HJ := Lib.hid hj
  have HB2 := Lib.hid (below_step HB.out hb)
  clear hj hb HF q0 q1 k0 k1
  go_wp2
  go_ret2
  exact ⟨k, rfl, HJ.out, HB2.out⟩
set_option maxHeartbeats 8000000 in
set_option maxRecDepth 100000 in
theorem let_ok (d base pg M sb : Nat) (most n : Int) (ps : List S108) (snaps : Int) (cap : Nat) (D : DataW Unit) (p t : Int) (sm : Int) (s : Sn) (i : Nat) (t2 r : Int) (w : World) (h : DK w base d pg M most n ps snaps cap D) (hp : (Lit.int .i64 p).wf = true) (hh : hasB ps p t = true) (hs : D.atKey (.int .i64 p) .nil = .lit (.int .i64 (sb : Int)))
    (hS : SS w base sb sm s) (hi : i < s.ps.length) (hl : s.ps.length ≤ 1000) (hh2 : hasB s.ps (i : Int) t2 = true) (hr : s.D.atKey (.int .i64 (i : Int)) (.lit (.int .i64 0)) = .lit (.int .i64 r)) (hn0 : -1000000 ≤ s.n) (hn1 : s.n ≤ 1000000) (hd : d ≠ s.sg ∧ some d ≠ abk w s.sg ∧ d ≠ s.mb) :
    Calls Tryd.prog 50 #[.pointer (some ⟨d, 0, none⟩), .agg #[.int .i64 p, .int .i64 t], .agg #[.int .i64 (i : Int), .int .i64 t2]] w fun e w' => e = .returned (.tuple #[.int .i64 r, .nilIface]) ∧ SS w' base sb sm { s with ps := s.ps.set i ⟨(plc s.ps i).f0, false⟩, n := s.n - 1, D := s.D.del (.int .i64 (i : Int)) } ∧ DF s.sg s.mb w w' ∧ Below base w w' := by
  obtain ⟨B1, hN, hR⟩ := two40 w (.int .i64 p) (.int .i64 t) (.int .i64 (i : Int)) (.int .i64 t2)
  have HN := Lib.hid (show Hn ((w.alloc (.cells #[.int .i64 p, .int .i64 t] 40)).alloc (.cells #[.int .i64 (i : Int), .int .i64 t2] 40)) w.heap.size p t from hN)
  have HR := Lib.hid (show Hn ((w.alloc (.cells #[.int .i64 p, .int .i64 t] 40)).alloc (.cells #[.int .i64 (i : Int), .int .i64 t2] 40)) (w.heap.size + 1) (i : Int) t2 from hR)
  have HD := Lib.hid (h.below B1)
  have HS := Lib.hid (hS.below B1)
  have HB := Lib.hid B1
  have HWI := Lib.hid (show (Lit.int .i64 (i : Int)).wf = true from wf_i64 (by omega) (by omega))
  have HA := Lib.hid (And.intro hp (And.intro hh (And.intro hs (And.intro hh2 hr))))
  have HI := Lib.hid (And.intro hi (And.intro hn0 hn1))
  have HLT := Lib.hid (show s.sg < w.heap.size ∧ s.mb < w.heap.size ∧ base ≤ s.mb ∧ base ≤ w.heap.size from ⟨(hS.lt _ (.inr (.inl rfl))).2, (hS.lt _ (.inr (.inr (.inr (.inl rfl))))).2, hS.lo.2, by have := hS.lo.1; have := (hS.lt _ (.inl rfl)).2; omega⟩)
  clear B1 hN hR h hp hh hs hS hi hl hh2 hr hn0 hn1 hd
  go_enter Tryd.func50, Tryd.ntmps50
  go_upto_region 1 with (fail)
  generalize (w.alloc (.cells #[.int .i64 p, .int .i64 t] 40)).alloc (.cells #[.int .i64 (i : Int), .int .i64 t2] 40) = w1 at *
  have q0 := (blk_cell HN.out 0).trans (show _ = some (Value.int .i64 p) from rfl)
  have q1 := (blk_cell HN.out 1).trans (show _ = some (Value.int .i64 t) from rfl)
  have k0 := (blk_cell HR.out 0).trans (show _ = some (Value.int .i64 (i : Int)) from rfl)
  have k1 := (blk_cell HR.out 1).trans (show _ = some (Value.int .i64 t2) from rfl)
  go_upto_region 4 with (go_at_call 47; (with_reducible refine (find_ok d base pg M sb most n ps snaps cap D p t sm s (i : Int) t2 r _ HD.out HA.out.1 HA.out.2.1 HA.out.2.2.1 HS.out HWI.out HA.out.2.2.2.1 HA.out.2.2.2.2).mono ?_); rintro e w2 ⟨rfl, hb⟩; have HB2 := Lib.hid (below_step HB.out hb); have HD2 := Lib.hid (HD.out.below hb); have HS2 := Lib.hid (HS.out.below hb); have HN2 := Lib.hid (show Hn w2 w.heap.size p t from blk_below HN.out hb); have HR2 := Lib.hid (show Hn w2 (w.heap.size + 1) (i : Int) t2 from blk_below HR.out hb); clear hb)
  clear q0 q1 k0 k1 HB HD HS HN HR
  have q2 := (blk_cell HD2.out.hd 2).trans (show _ = some (Value.map (some M)) from rfl)
  have q0 := (blk_cell HN2.out 0).trans (show _ = some (Value.int .i64 p) from rfl)
  have hlk := HD2.out.mp.look p HA.out.1 HA.out.2.2.1
  go_quiet (fail)
  rename_i nq
  clear hlk q2 q0
  have HB3 := Lib.hid (pw_below_drewN HB2.out nq)
  have HS3 := Lib.hid (HS2.out.below (pw_below_drewN (Below.refl w2.heap.size w2) nq))
  have HR3 := Lib.hid (show Hn (w2.drewN nq) (w.heap.size + 1) (i : Int) t2 from HR2.out)
  clear HB2 HD2 HS2 HN2 HR2
  generalize w2.drewN nq = w3 at *
  go_upto_region 5 with (fail)
  have s3 := (blk_cell HS3.out.hd 3).trans (show _ = some (Value.map (some s.mb)) from rfl)
  have k0 := (blk_cell HR3.out 0).trans (show _ = some (Value.int .i64 (i : Int)) from rfl)
  have HXM := Lib.hid (show sb ≠ s.mb ∧ w.heap.size + 1 ≠ s.mb from ⟨HS3.out.apart.2.2.1, fun e => by
    obtain ⟨es, clock, hm, _⟩ := HS3.out.mp
    have hx := HR3.out
    unfold Hn at hx
    rw [e, hm] at hx; cases hx⟩)
  go_cut [] (fun wd => Hid (Pv w3 wd s.mb s.cap (s.D.del (.int .i64 (i : Int)))))
  case first =>
    go_region_held3 (fun w' => w'.cell? ⟨sb, 3, none⟩ = some (.map (some s.mb)) ∧ w'.cell? ⟨w.heap.size + 1, 0, none⟩ = some (.int .i64 (i : Int))) (first | go_keep | exact ⟨s3, k0⟩ | exact ⟨(World.cell?_of_block (a := ⟨sb, 3, none⟩) (HPV.out.gr.block sb (cell_lt s3) (by rintro e; injection e with e; exact HXM.out.1 e))).trans s3, (World.cell?_of_block (a := ⟨w.heap.size + 1, 0, none⟩) (HPV.out.gr.block _ (cell_lt k0) (by rintro e; injection e with e; exact HXM.out.2 e))).trans k0⟩) ((refine upon_delr (show RM w3.drew s.mb s.cap s.D from HS3.out.mp) HWI.out ?_; intro wm hm1; have HPV := Lib.hid (show Pv w3 wm s.mb s.cap (s.D.del (.int .i64 (i : Int))) from ⟨hm1.mp, ⟨hm1.gr.os, hm1.gr.tape, hm1.gr.output, hm1.gr.size, hm1.gr.block⟩⟩); clear hm1; go_simp))
    all_goals (
      go_wp2
      go_meet
      case rel => exact HPV)
  case rest =>
    have HPV := hcut
    clear hcut
    have HS4 := Lib.hid (HS3.out.put HPV.out.gr HPV.out.mp)
    have HR4 := Lib.hid (show Hn wc (w.heap.size + 1) (i : Int) t2 from HPV.out.keeps HR3.out HS3.out.mp)
    have HW4 := Lib.hid (show DF s.sg s.mb w wc ∧ Below base w wc from ⟨(DF.of_below HB3.out HLT.out.1).trans (DF.of_put HPV.out.gr (Nat.lt_of_lt_of_le HLT.out.1 HB3.out.size) HS3.out.sgmb), Below.grown (HB3.out.mono HLT.out.2.2.2) HPV.out.gr (Nat.le_trans HLT.out.2.2.2 HB3.out.size) (fun k hk => by injection hk with hk; subst hk; exact HLT.out.2.2.1)⟩)
    clear s3 k0 HS3 HR3 HPV HB3
    have s2 := (blk_cell HS4.out.hd 2).trans (show _ = some (Value.pointer (some ⟨s.sg, 0, none⟩)) from rfl)
    have k0 := (blk_cell HR4.out 0).trans (show _ = some (Value.int .i64 (i : Int)) from rfl)
    have k1 := (blk_cell HR4.out 1).trans (show _ = some (Value.int .i64 t2) from rfl)
    have HPG := Lib.hid (show s.sg < wc.heap.size from HS4.out.pl.glt)
    have HLB := Lib.hid (show base ≤ wc.heap.size from HS4.out.pl.lt)
    have HFr : Hid (∀ W', Below wc.heap.size wc W' → Calls Tryd.prog 17 #[.pointer (some ⟨s.sg, 0, none⟩), .agg #[.int .i64 (i : Int), .int .i64 t2]] W' fun e w' => e = .returned .nilIface ∧ PL w' base s.sg sm (s.ps.set i ⟨(plc s.ps i).f0, false⟩) (s.n - 1) ∧ Fq base s.sg W' w') := fun W' hb' => free_oq s.sg base sm s.n s.ps i t2 W' (HS4.out.pl.below hb') HI.out.1 HA.out.2.2.2.1 HI.out.2.1 HI.out.2.2
    go_upto_region 6 with (fail)
    go_cut [6, 7] (fun v6 v7 wd => v6 = .int .i64 r ∧ v7 = .nilIface ∧ Hid (PL wd base s.sg sm (s.ps.set i ⟨(plc s.ps i).f0, false⟩) (s.n - 1)) ∧ Hid (Fq base s.sg wc wd))
    case first =>
      have HK1 := Lib.hid (Below.refl wc.heap.size wc)
      go_region_held3 (fun w' => w'.cell? ⟨sb, 2, none⟩ = some (.pointer (some ⟨s.sg, 0, none⟩)) ∧ w'.cell? ⟨w.heap.size + 1, 0, none⟩ = some (.int .i64 (i : Int)) ∧ w'.cell? ⟨w.heap.size + 1, 1, none⟩ = some (.int .i64 t2)) (first | go_keep | exact ⟨s2, k0, k1⟩ | exact ⟨(blk_cell ((HF2.out.fr.2.2 sb _ _ _ HS4.out.hd (by decide)).trans HS4.out.hd) 2).trans rfl, (blk_cell ((HF2.out.fr.2.2 (w.heap.size + 1) _ _ _ HR4.out (by decide)).trans HR4.out) 0).trans rfl, (blk_cell ((HF2.out.fr.2.2 (w.heap.size + 1) _ _ _ HR4.out (by decide)).trans HR4.out) 1).trans rfl⟩) ((go_at_call 17; (with_reducible refine (HFr.out _ (by first | exact HK1.out | exact below_drew1 HK1.out)).mono ?_); rintro e wx ⟨rfl, hp, hf⟩; have HP2 := Lib.hid hp; have HF2 := Lib.hid (show Fq base s.sg wc wx from (Fq.of_below (below_drew1 HK1.out) HLB.out HPG.out).trans hf); clear hp hf))
      all_goals (
        go_wp2
        go_meet
        case rel => exact ⟨rfl, rfl, HP2, HF2⟩)
    case rest =>
      obtain ⟨rfl, rfl, HP2, HF2⟩ := hcut
      have HS5 := Lib.hid (HS4.out.took HP2.out HF2.out)
      have HW5 := Lib.hid (And.intro (HW4.out.1.trans (DF.of_oth HF2.out.oth HF2.out.fr.1.size)) (HW4.out.2.trans HF2.out.fr.1))
      clear HFr s2 k0 k1 HS4 HR4 HW4 HP2 HF2
      go_wp2_with (fail)
      go_ret2
      exact ⟨rfl, HS5.out, HW5.out.1, HW5.out.2⟩
end Go.Proofs.YtphaaagcdjpceaaDoor
namespace Go.Proofs.YtphaaagcdjpceaaDoor
open Go.RowKit Go.Extern.Stop Go.Stop Go.Extern Go.Proofs.YtphaaagcdjpceaaDoorW.PrintWords Go.Proofs.YtphaaagcdjpceaaDoorW.PrintLast Go.Proofs.YtphaaagcdjpceaaDoorW.PrintMore
open Go.Maps (Keyed)
set_option linter.unusedVariables false
set_option maxHeartbeats 4000000 in
set_option maxRecDepth 100000 in
theorem close_no (d base pg M : Nat) (most n : Int) (ps : List S108) (snaps : Int) (cap : Nat) (D : DataW Unit) (p t : Int) (w : World) (hG : Good w) (h : DK w base d pg M most n ps snaps cap D) (hp : -9223372036854775808 ≤ p ∧ p ≤ 9223372036854775807) (hh : hasB ps p t = false) :
    Calls Tryd.prog 43 #[.pointer (some ⟨d, 0, none⟩), .agg #[.int .i64 p, .int .i64 t]] w fun e w' => ∃ k, e = .returned (.tuple #[.slice none 0 0, .iface 179 (.pointer (some ⟨k, 0, none⟩))]) ∧ Joined w' k 3 ∧ Below w.heap.size w w' := by
  have B1 := below_alloc (Below.refl w.heap.size w) (.cells #[.int .i64 p, .int .i64 t] 40)
  have HN := Lib.hid (show Hn (w.alloc (.cells #[.int .i64 p, .int .i64 t] 40)) w.heap.size p t from heap_alloc_new w _)
  have HD := Lib.hid (h.below B1)
  have HG := Lib.hid (hG.below B1)
  have HB := Lib.hid B1
  have HH := Lib.hid (And.intro hp hh)
  clear B1 h hG hh hp
  go_enter Tryd.func43, Tryd.ntmps43
  go_upto_region 1 with (fail)
  generalize w.alloc (.cells #[.int .i64 p, .int .i64 t] 40) = w1 at *
  have q0 := (blk_cell HD.out.hd 0).trans (show _ = some (Value.pointer (some ⟨pg, 0, none⟩)) from rfl)
  have k0 := (blk_cell HN.out 0).trans (show _ = some (Value.int .i64 p) from rfl)
  have k1 := (blk_cell HN.out 1).trans (show _ = some (Value.int .i64 t) from rfl)
  have HC : Hid (∀ W', Below w1.heap.size w1 W' → Calls Tryd.prog 17 #[.pointer (some ⟨pg, 0, none⟩), .agg #[.int .i64 p, .int .i64 t]] W' fun e w' => ∃ k, e = .returned (.iface 179 (.pointer (some ⟨k, 0, none⟩))) ∧ Joined w' k 3 ∧ Below W'.heap.size W' w') := fun W' hb' => free_no pg base most n ps p t W' (HG.out.below hb') HH.out.1 (HD.out.pl.below hb') HH.out.2
  go_cut [6] (fun v6 wc => ∃ k, v6 = .iface 179 (.pointer (some ⟨k, 0, none⟩)) ∧ Hid (Joined wc k 3) ∧ Hid (Below w1.heap.size w1 wc))
  case first =>
    have HK1 := Lib.hid (Below.refl w1.heap.size w1)
    go_region_held3 (fun w' => w'.cell? ⟨d, 0, none⟩ = some (.pointer (some ⟨pg, 0, none⟩)) ∧ w'.cell? ⟨w.heap.size, 0, none⟩ = some (.int .i64 p) ∧ w'.cell? ⟨w.heap.size, 1, none⟩ = some (.int .i64 t)) (first | go_keep | exact ⟨q0, k0, k1⟩ | exact ⟨(HK1.out.cell (cell_lt q0)).trans q0, (HK1.out.cell (cell_lt k0)).trans k0, (HK1.out.cell (cell_lt k1)).trans k1⟩) ((go_at_call 17; (with_reducible refine (HC.out _ (by first | exact HK1.out | exact below_drew1 HK1.out)).mono ?_); rintro e wx ⟨k, rfl, hj, hb⟩; have HJ := Lib.hid hj; first | (have HK1 := Lib.hid (below_step HK1.out hb)) | (have HK1 := Lib.hid (show Below w1.heap.size w1 wx from below_step (below_drew1 HK1.out) hb))))
    all_goals (
      go_wp2
      go_meet
      case rel => exact ⟨_, rfl, HJ, HK1⟩)
  case rest =>
    obtain ⟨k, rfl, HJ, HBc⟩ := hcut
    have HB4 := Lib.hid (below_step HB.out HBc.out)
    clear HC q0 k0 k1 HBc
    go_wp2_with (fail)
    go_ret2
    exact ⟨k, rfl, HJ.out, HB4.out⟩
section
variable {w W : World} {d pg M : Nat} {most n : Int} {ps : List S108} {snaps : Int} {cap : Nat} {D : DataW Unit} {sm : Int} {F : Int → Nat × Sn}
theorem dclose_no (h : DS w W d pg M most n ps snaps cap D sm F) (hG : Good w) {p t : Int} (hp : -9223372036854775808 ≤ p ∧ p ≤ 9223372036854775807) (hh : hasB ps p t = false) :
    Calls Tryd.prog 43 #[.pointer (some ⟨d, 0, none⟩), .agg #[.int .i64 p, .int .i64 t]] W fun e w' => ∃ k, e = .returned (.tuple #[.slice none 0 0, .iface 179 (.pointer (some ⟨k, 0, none⟩))]) ∧ Joined w' k 3 ∧ DS w w' d pg M most n ps snaps cap D sm F ∧ Below W.heap.size W w' := by
  refine (close_no d w.heap.size pg M most n ps snaps cap D p t W (h.good hG) h.ds.dk hp hh).mono ?_
  rintro e w' ⟨k, rfl, hj, hb⟩
  exact ⟨k, rfl, hj, h.below hb, hb⟩
theorem dlet_no (h : DS w W d pg M most n ps snaps cap D sm F) (hG : Good w) {p t : Int} (hp : -9223372036854775808 ≤ p ∧ p ≤ 9223372036854775807) (hh : hasB ps p t = false) (p2 t2 : Int) :
    Calls Tryd.prog 50 #[.pointer (some ⟨d, 0, none⟩), .agg #[.int .i64 p, .int .i64 t], .agg #[.int .i64 p2, .int .i64 t2]] W fun e w' => ∃ k, e = .returned (.tuple #[.int .i64 0, .iface 179 (.pointer (some ⟨k, 0, none⟩))]) ∧ Joined w' k 3 ∧ DS w w' d pg M most n ps snaps cap D sm F ∧ Below W.heap.size W w' := by
  refine (let_err d p t p2 t2 W (fun W' hb' => (dfind_no (h.below hb') hG hp hh p2 t2).mono (fun e w' ⟨k, e1, hj, _, hb⟩ => ⟨k, e1, hj, hb⟩))).mono ?_
  rintro e w' ⟨k, rfl, hj, hb⟩
  exact ⟨k, rfl, hj, h.below hb, hb⟩
theorem dlet_gone (h : DS w W d pg M most n ps snaps cap D sm F) (hG : Good w) {p t : Int} (hp : (Lit.int .i64 p).wf = true) (hh : hasB ps p t = true) (hx : hasI D p) {p2 t2 : Int} (hh2 : hasB (F p).2.ps p2 t2 = false) :
    Calls Tryd.prog 50 #[.pointer (some ⟨d, 0, none⟩), .agg #[.int .i64 p, .int .i64 t], .agg #[.int .i64 p2, .int .i64 t2]] W fun e w' => ∃ k, e = .returned (.tuple #[.int .i64 0, .iface 179 (.pointer (some ⟨k, 0, none⟩))]) ∧ Joined w' k 3 ∧ DS w w' d pg M most n ps snaps cap D sm F ∧ Below W.heap.size W w' := by
  refine (let_err d p t p2 t2 W (fun W' hb' => (dfind_gone (h.below hb') hG hp hh hx hh2).mono (fun e w' ⟨k, e1, hj, _, hb⟩ => ⟨k, e1, hj, hb⟩))).mono ?_
  rintro e w' ⟨k, rfl, hj, hb⟩
  exact ⟨k, rfl, hj, h.below hb, hb⟩
def letS (s : Sn) (i : Nat) : Sn := { s with ps := s.ps.set i ⟨(plc s.ps i).f0, false⟩, n := s.n - 1, D := s.D.del (.int .i64 (i : Int)) }
theorem dlet (h : DS w W d pg M most n ps snaps cap D sm F) {p t : Int} (hp : (Lit.int .i64 p).wf = true) (hh : hasB ps p t = true) (hx : hasI D p) (i : Nat) {t2 r : Int} (hi : i < (F p).2.ps.length) (hl : (F p).2.ps.length ≤ 1000) (hh2 : hasB (F p).2.ps (i : Int) t2 = true) (hr : (F p).2.D.atKey (.int .i64 (i : Int)) (.lit (.int .i64 0)) = .lit (.int .i64 r)) (hn0 : -1000000 ≤ (F p).2.n) (hn1 : (F p).2.n ≤ 1000000) :
    Calls Tryd.prog 50 #[.pointer (some ⟨d, 0, none⟩), .agg #[.int .i64 p, .int .i64 t], .agg #[.int .i64 (i : Int), .int .i64 t2]] W fun e w' => e = .returned (.tuple #[.int .i64 r, .nilIface]) ∧ DS w w' d pg M most n ps snaps cap D sm (upF F p ((F p).1, letS (F p).2 i)) ∧ Keeps DT W w' := by
  obtain ⟨h1, h2⟩ := h.ds.at_ p hx
  refine (let_ok d w.heap.size pg M (F p).1 most n ps snaps cap D p t sm (F p).2 i t2 r W h.ds.dk hp hh h1 h2 hi hl hh2 hr hn0 hn1 ⟨fun e => (h.ds.far p hx _ (.inr (.inl rfl))).1 e.symm, fun e => (h.ds.far p hx d (.inr (.inr (.inl e)))).1 rfl, fun e => (h.ds.far p hx _ (.inr (.inr (.inr (.inl rfl))))).1 e.symm⟩).mono ?_
  rintro e w' ⟨rfl, hs, hd, hb⟩
  exact ⟨rfl, ⟨h.ds.turnDF hx (s' := letS (F p).2 i) hs rfl rfl rfl hd, h.bl.trans hb, h.lm⟩, keepsS h2 hd⟩
end
end Go.Proofs.YtphaaagcdjpceaaDoor
