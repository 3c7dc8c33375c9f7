/- desk: a desk with its sessions; what a call on one session leaves of the others. -/
import Derived.Test.YtphaaagcdjpceaaDoorDk14
import Derived.Maps.Views
namespace Go.Proofs.YtphaaagcdjpceaaDoor
open Go.RowKit Go.Extern.Stop Go.Stop Go.Extern Go.Proofs.YtphaaagcdjpceaaDoorW.PrintWords Go.Proofs.YtphaaagcdjpceaaDoorW.PrintLast Go.Proofs.YtphaaagcdjpceaaDoorW.PrintMore
open Go.Maps (Keyed)
set_option linter.unusedVariables false
theorem DK.lt {W : World} {base d pg M : Nat} {most n : Int} {ps : List S108} {snaps : Int} {cap : Nat} {D : DataW Unit} (h : DK W base d pg M most n ps snaps cap D) (k : Nat) (hk : k = d ∨ k = pg ∨ some k = abk W pg ∨ k = M) : k < W.heap.size := by
  rcases hk with rfl | rfl | hk | rfl
  · exact blk_lt h.hd
  · exact h.pl.glt
  · exact (h.pl.abl k hk).2
  · exact h.mp.lt
theorem DK.same {W W1 : World} {base d pg M : Nat} {most n : Int} {ps : List S108} {snaps : Int} {cap : Nat} {D : DataW Unit} (h : DK W base d pg M most n ps snaps cap D) (hs : ∀ k, (k = d ∨ k = pg ∨ some k = abk W pg ∨ k = M) → W1.heap[k]? = W.heap[k]?) : DK W1 base d pg M most n ps snaps cap D := by
  obtain ⟨h1, h2, ⟨es, clock, hm, r⟩⟩ := h
  exact ⟨(hs d (.inl rfl)).trans h1, h2.same (hs pg (.inr (.inl rfl))) (fun k hk => hs k (.inr (.inr (.inl hk)))), ⟨es, clock, (hs M (.inr (.inr (.inr rfl)))).trans hm, r⟩⟩
/-- Places and their sessions, one of them anew. -/
def upF (F : Int → Nat × Sn) (x : Int) (v : Nat × Sn) : Int → Nat × Sn := fun y => if y = x then v else F y
theorem upF_same (F : Int → Nat × Sn) (x : Int) (v : Nat × Sn) : upF F x v x = v := by simp [upF]
theorem upF_other {F : Int → Nat × Sn} {x y : Int} (v : Nat × Sn) (h : y ≠ x) : upF F x v y = F y := by simp [upF, h]
abbrev hasI (D : DataW Unit) (x : Int) : Prop := Go.Maps.has D (.int .i64 x) = true
/-- A desk with its sessions. -/
structure Dsk (W : World) (base d pg M : Nat) (most n : Int) (ps : List S108) (snaps : Int) (cap : Nat) (D : DataW Unit) (sm : Int) (F : Int → Nat × Sn) : Prop where
  dk : DK W base d pg M most n ps snaps cap D
  at_ : ∀ x, hasI D x → D.atKey (.int .i64 x) .nil = .lit (.int .i64 ((F x).1 : Int)) ∧ SS W base (F x).1 sm (F x).2
  far : ∀ x, hasI D x → ∀ k, foot W (F x).1 (F x).2 k → k ≠ d ∧ k ≠ pg ∧ some k ≠ abk W pg ∧ k ≠ M
  apart : ∀ x y, hasI D x → hasI D y → x ≠ y → ∀ k, foot W (F x).1 (F x).2 k → ¬ foot W (F y).1 (F y).2 k
section
variable {W W1 : World} {base d pg M : Nat} {most n : Int} {ps : List S108} {snaps : Int} {cap : Nat} {D : DataW Unit} {sm : Int} {F : Int → Nat × Sn}
/-- What leaves all that was there. -/
theorem Dsk.below (h : Dsk W base d pg M most n ps snaps cap D sm F) (hb : Below W.heap.size W W1) : Dsk W1 base d pg M most n ps snaps cap D sm F := by
  have hf : ∀ x, hasI D x → ∀ k, foot W1 (F x).1 (F x).2 k ↔ foot W (F x).1 (F x).2 k := fun x hx k => foot_same (hb.block _ ((h.at_ x hx).2.lt _ (.inr (.inl rfl))).2) k
  have ha : abk W1 pg = abk W pg := abk_same (hb.block pg h.dk.pl.glt)
  refine ⟨h.dk.below hb, fun x hx => ⟨(h.at_ x hx).1, (h.at_ x hx).2.below hb⟩, fun x hx k hk => ?_, fun x y hx hy hne k hk hk2 => ?_⟩
  · rw [ha]; exact h.far x hx k ((hf x hx k).1 hk)
  · exact h.apart x y hx hy hne k ((hf x hx k).1 hk) ((hf y hy k).1 hk2)
/-- A call on one session. -/
theorem Dsk.turn (h : Dsk W base d pg M most n ps snaps cap D sm F) {x : Int} (hx : hasI D x) {s' : Sn} (hs : SS W1 base (F x).1 sm s') (hft : ∀ k, foot W1 (F x).1 s' k → foot W (F x).1 (F x).2 k ∨ W.heap.size ≤ k)
    (ho : ∀ k, k < W.heap.size → ¬ foot W (F x).1 (F x).2 k → W1.heap[k]? = W.heap[k]?) : Dsk W1 base d pg M most n ps snaps cap D sm (upF F x ((F x).1, s')) := by
  have hdk : ∀ k, (k = d ∨ k = pg ∨ some k = abk W pg ∨ k = M) → W1.heap[k]? = W.heap[k]? := fun k hk => ho k (h.dk.lt k hk) (fun hf => by
    have := h.far x hx k hf
    rcases hk with rfl | rfl | hk | rfl
    · exact this.1 rfl
    · exact this.2.1 rfl
    · exact this.2.2.1 hk
    · exact this.2.2.2 rfl)
  have ha : abk W1 pg = abk W pg := abk_same (hdk pg (.inr (.inl rfl)))
  have hsm : ∀ y, hasI D y → y ≠ x → ∀ k, foot W (F y).1 (F y).2 k → W1.heap[k]? = W.heap[k]? := fun y hy hne k hk => ho k ((h.at_ y hy).2.lt k hk).2 (fun hf => h.apart y x hy hx hne k hk hf)
  have hf : ∀ y, hasI D y → y ≠ x → ∀ k, foot W1 (F y).1 (F y).2 k ↔ foot W (F y).1 (F y).2 k := fun y hy hne k => foot_same (hsm y hy hne _ (.inr (.inl rfl))) k
  refine ⟨h.dk.same hdk, fun y hy => ?_, fun y hy k hk => ?_, fun y z hy hz hne k hk hk2 => ?_⟩
  · by_cases e : y = x
    · subst e; rw [upF_same]; exact ⟨(h.at_ y hy).1, hs⟩
    · rw [upF_other _ e]; exact ⟨(h.at_ y hy).1, (h.at_ y hy).2.same (hsm y hy e)⟩
  · rw [ha]
    by_cases e : y = x
    · subst e; rw [upF_same] at hk
      rcases hft k hk with h1 | h1
      · exact h.far y hy k h1
      · refine ⟨?_, ?_, ?_, ?_⟩
        · have := h.dk.lt d (.inl rfl); omega
        · have := h.dk.lt pg (.inr (.inl rfl)); omega
        · intro h2; have := h.dk.lt k (.inr (.inr (.inl h2))); omega
        · have := h.dk.lt M (.inr (.inr (.inr rfl))); omega
    · rw [upF_other _ e] at hk
      exact h.far y hy k ((hf y hy e k).1 hk)
  · by_cases e : y = x
    · subst e
      rw [upF_same] at hk
      have e2 : z ≠ y := fun e => hne e.symm
      rw [upF_other _ e2] at hk2
      have h2 := (hf z hz e2 k).1 hk2
      rcases hft k hk with h1 | h1
      · exact h.apart y z hy hz hne k h1 h2
      · have := ((h.at_ z hz).2.lt k h2).2; omega
    · rw [upF_other _ e] at hk
      have h1 := (hf y hy e k).1 hk
      by_cases e2 : z = x
      · subst e2
        rw [upF_same] at hk2
        rcases hft k hk2 with h2 | h2
        · exact h.apart y z hy hz hne k h1 h2
        · have := ((h.at_ y hy).2.lt k h1).2; omega
      · rw [upF_other _ e2] at hk2
        exact h.apart y z hy hz hne k h1 ((hf z hz e2 k).1 hk2)
/-- Keep, Let: the session's pool and refs have turned. -/
theorem Dsk.turnDF (h : Dsk W base d pg M most n ps snaps cap D sm F) {x : Int} (hx : hasI D x) {s' : Sn} (hs : SS W1 base (F x).1 sm s') (h1 : s'.sg = (F x).2.sg) (h2 : s'.mb = (F x).2.mb) (h3 : s'.bv = (F x).2.bv) (hd : DF (F x).2.sg (F x).2.mb W W1) : Dsk W1 base d pg M most n ps snaps cap D sm (upF F x ((F x).1, s')) := by
  refine h.turn hx hs (fun k hk => ?_) (fun k hk hn => hd.block k hk (fun e => hn (.inr (.inl e))) (fun e => hn (.inr (.inr (.inl e)))) (fun e => hn (.inr (.inr (.inr (.inl e))))))
  rcases hk with e | e | e | e | e
  · exact .inl (.inl e)
  · rw [h1] at e; exact .inl (.inr (.inl e))
  · rw [h1] at e
    rcases hd.row with h4 | ⟨b, h4, h5⟩
    · rw [h4] at e; exact .inl (.inr (.inr (.inl e)))
    · rw [h4] at e; injection e with e; subst e; exact .inr h5
  · rw [h2] at e; exact .inl (.inr (.inr (.inr (.inl e))))
  · rw [h3] at e; exact .inl (.inr (.inr (.inr (.inr e))))
/-- Send, Take: the session's head has turned. -/
theorem Dsk.turnSF (h : Dsk W base d pg M most n ps snaps cap D sm F) {x : Int} (hx : hasI D x) {s' : Sn} (hs : SS W1 base (F x).1 sm s') (h1 : s'.sg = (F x).2.sg) (h2 : s'.mb = (F x).2.mb) (h3 : ∀ k, some k = s'.bv.ownBlock → W.heap.size ≤ k) (hd : SF (F x).1 W W1) : Dsk W1 base d pg M most n ps snaps cap D sm (upF F x ((F x).1, s')) := by
  have hS := (h.at_ x hx).2
  have e0 : abk W1 (F x).2.sg = abk W (F x).2.sg := abk_same (hd.block _ (hS.lt _ (.inr (.inl rfl))).2 (fun e => hS.apart.1 e.symm))
  refine h.turn hx hs (fun k hk => ?_) (fun k hk hn => hd.block k hk (fun e => hn (.inl e)))
  rcases hk with e | e | e | e | e
  · exact .inl (.inl e)
  · rw [h1] at e; exact .inl (.inr (.inl e))
  · rw [h1, e0] at e; exact .inl (.inr (.inr (.inl e)))
  · rw [h2] at e; exact .inl (.inr (.inr (.inr (.inl e))))
  · exact .inr (h3 k e)
theorem isKey_int (x : Int) : Go.WideAt.IsKeyLit (.int .i64 x) := by
  first | trivial | exact ⟨_, _, rfl⟩ | simp [Go.WideAt.IsKeyLit]
theorem hasI_put {D : DataW Unit} (hD : Go.Maps.IsMap D) (i y : Int) (v : DataW Unit) : hasI (D.put (.int .i64 i) v) y ↔ y = i ∨ hasI D y := by
  by_cases e : y = i
  · subst e; simp [hasI, Go.Maps.has_put_same hD (isKey_int y) v]
  · simp [hasI, e, Go.Maps.has_put_other (show Lit.int .i64 y ≠ .int .i64 i from fun h => e (by injection h)) v]
theorem at_putI {D : DataW Unit} (hD : Go.Maps.IsMap D) (i y : Int) (v z : DataW Unit) : (D.put (.int .i64 i) v).atKey (.int .i64 y) z = if y = i then v else D.atKey (.int .i64 y) z := by
  by_cases e : y = i
  · subst e; simp [Go.Maps.atKey_put_same hD (isKey_int y) v z]
  · simp [e, Go.Maps.atKey_put_other (show Lit.int .i64 y ≠ .int .i64 i from fun h => e (by injection h)) v z]
theorem hasI_del {D : DataW Unit} (i y : Int) : hasI (D.del (.int .i64 i)) y ↔ y ≠ i ∧ hasI D y := by
  by_cases e : y = i
  · subst e; simp [hasI, Go.Maps.has_del_same]
  · simp [hasI, e, Go.Maps.has_del_other (show Lit.int .i64 y ≠ .int .i64 i from fun h => e (by injection h))]
theorem at_delI {D : DataW Unit} {i y : Int} (e : y ≠ i) (z : DataW Unit) : (D.del (.int .i64 i)).atKey (.int .i64 y) z = D.atKey (.int .i64 y) z :=
  Go.Maps.atKey_del_other (show Lit.int .i64 y ≠ .int .i64 i from fun h => e (by injection h)) z
/-- The desk's own pool and map have turned: the sessions that stay. -/
theorem Dsk.turnD (h : Dsk W base d pg M most n ps snaps cap D sm F) {n2 : Int} {ps2 : List S108} {cap2 : Nat} {D2 : DataW Unit} (hk : DK W1 base d pg M most n2 ps2 snaps cap2 D2) (hd : DF pg M W W1) (hs : ∀ x, hasI D2 x → hasI D x ∧ D2.atKey (.int .i64 x) .nil = D.atKey (.int .i64 x) .nil) : Dsk W1 base d pg M most n2 ps2 snaps cap2 D2 sm F := by
  have hsm : ∀ x, hasI D x → ∀ k, foot W (F x).1 (F x).2 k → W1.heap[k]? = W.heap[k]? := fun x hx k hf => hd.block k ((h.at_ x hx).2.lt k hf).2 (h.far x hx k hf).2.1 (h.far x hx k hf).2.2.1 (h.far x hx k hf).2.2.2
  have hf : ∀ x, hasI D x → ∀ k, foot W1 (F x).1 (F x).2 k ↔ foot W (F x).1 (F x).2 k := fun x hx k => foot_same (hsm x hx _ (.inr (.inl rfl))) k
  refine ⟨hk, fun x hx => ?_, fun x hx k hk => ?_, fun x y hx hy hne k hk hk2 => ?_⟩
  · obtain ⟨h1, h2⟩ := hs x hx
    rw [h2]; exact ⟨(h.at_ x h1).1, (h.at_ x h1).2.same (hsm x h1)⟩
  · obtain ⟨h1, h2⟩ := hs x hx
    have hk' := (hf x h1 k).1 hk
    have hfa := h.far x h1 k hk'
    refine ⟨hfa.1, hfa.2.1, ?_, hfa.2.2.2⟩
    rcases hd.row with e | ⟨b, e, hb⟩
    · rw [e]; exact hfa.2.2.1
    · rw [e]; intro he; injection he with he; have := ((h.at_ x h1).2.lt k hk').2; omega
  · exact h.apart x y (hs x hx).1 (hs y hy).1 hne k ((hf x (hs x hx).1 k).1 hk) ((hf y (hs y hy).1 k).1 hk2)
/-- Close. -/
theorem Dsk.close (h : Dsk W base d pg M most n ps snaps cap D sm F) {n2 : Int} {ps2 : List S108} {i : Int} (hk : DK W1 base d pg M most n2 ps2 snaps cap (D.del (.int .i64 i))) (hd : DF pg M W W1) : Dsk W1 base d pg M most n2 ps2 snaps cap (D.del (.int .i64 i)) sm F :=
  h.turnD hk hd (fun x hx => by
    have := (hasI_del i x).1 hx
    exact ⟨this.2, at_delI this.1 _⟩)
theorem MP.isMap {W : World} {M n : Nat} {D : DataW Unit} (h : MP W M n D) : Go.Maps.IsMap D := by
  obtain ⟨es, clock, _, _, _, rfl⟩ := h
  exact ⟨_, rfl⟩
/-- Open. -/
theorem Dsk.open_ (h : Dsk W base d pg M most n ps snaps cap D sm F) (hlo : base ≤ W.heap.size) {n2 : Int} {ps2 : List S108} {i : Int} {sb sg mb : Nat} (hi : ¬ hasI D i) (ho : Opn base d pg M most n2 ps2 snaps (cap + 1) (D.put (.int .i64 i) (.lit (.int .i64 (sb : Int)))) sm sb sg mb W W1) :
    Dsk W1 base d pg M most n2 ps2 snaps (cap + 1) (D.put (.int .i64 i) (.lit (.int .i64 (sb : Int)))) sm (upF F i (sb, newS sg mb)) := by
  have hD := h.dk.mp.isMap
  have hsm : ∀ x, hasI D x → ∀ k, foot W (F x).1 (F x).2 k → W1.heap[k]? = W.heap[k]? := fun x hx k hf => ho.df.block k ((h.at_ x hx).2.lt k hf).2 (h.far x hx k hf).2.1 (h.far x hx k hf).2.2.1 (h.far x hx k hf).2.2.2
  have hf : ∀ x, hasI D x → ∀ k, foot W1 (F x).1 (F x).2 k ↔ foot W (F x).1 (F x).2 k := fun x hx k => foot_same (hsm x hx _ (.inr (.inl rfl))) k
  have hnew : ∀ k, foot W1 sb (newS sg mb) k → W.heap.size ≤ k := fun k hk => (ho.ss.lt k hk).1
  have hold : ∀ x, hasI (D.put (.int .i64 i) (.lit (.int .i64 (sb : Int)))) x → x ≠ i → hasI D x := fun x hx hne => by
    rcases (hasI_put hD i x _).1 hx with e | e
    · exact absurd e hne
    · exact e
  refine ⟨ho.dk, fun x hx => ?_, fun x hx k hk => ?_, fun x y hx hy hne k hk hk2 => ?_⟩
  · rw [at_putI hD]
    by_cases e : x = i
    · subst e; rw [upF_same, if_pos rfl]; exact ⟨rfl, ho.ss.lower hlo⟩
    · have hx' := hold x hx e
      rw [upF_other _ e, if_neg e]; exact ⟨(h.at_ x hx').1, (h.at_ x hx').2.same (hsm x hx')⟩
  · by_cases e : x = i
    · subst e; rw [upF_same] at hk
      have hk0 := hnew k hk
      refine ⟨?_, ?_, ?_, ?_⟩
      · have := h.dk.lt d (.inl rfl); omega
      · have := h.dk.lt pg (.inr (.inl rfl)); omega
      · rcases hk with e | e | e | e | e
        · subst e; intro h2
          obtain ⟨g0, A, c, p1, p2⟩ := ho.dk.pl
          rw [abk_of ((blk_cell p1 1).trans (show _ = some (Value.slice A ps2.length c) from rfl))] at h2
          obtain ⟨cells, hc⟩ := Kd.R_typed p2 _ h2.symm
          have h3 := hc.symm.trans ho.ss.hd
          injection h3 with h3; injection h3 with _ h3 _; exact absurd h3 (by decide)
        · subst e; intro h2
          obtain ⟨g0, A, c, p1, p2⟩ := ho.dk.pl
          rw [abk_of ((blk_cell p1 1).trans (show _ = some (Value.slice A ps2.length c) from rfl))] at h2
          obtain ⟨cells, hc⟩ := Kd.R_typed p2 _ h2.symm
          obtain ⟨g0, A, c, q1, q2⟩ := ho.ss.pl
          have h3 := hc.symm.trans q1
          injection h3 with h3; injection h3 with _ h3 _; exact absurd h3 (by decide)
        · exact ho.fr k e
        · subst e; intro h2
          obtain ⟨g0, A, c, p1, p2⟩ := ho.dk.pl
          rw [abk_of ((blk_cell p1 1).trans (show _ = some (Value.slice A ps2.length c) from rfl))] at h2
          obtain ⟨cells, hc⟩ := Kd.R_typed p2 _ h2.symm
          obtain ⟨es, clock, hm, r⟩ := ho.ss.mp
          have h3 := hc.symm.trans hm
          cases h3
        · simp [newS, Value.ownBlock] at e
      · have := h.dk.lt M (.inr (.inr (.inr rfl))); omega
    · have hx' := hold x hx e
      rw [upF_other _ e] at hk
      have hk' := (hf x hx' k).1 hk
      have hfa := h.far x hx' k hk'
      refine ⟨hfa.1, hfa.2.1, ?_, hfa.2.2.2⟩
      rcases ho.df.row with e | ⟨b, e, hb⟩
      · rw [e]; exact hfa.2.2.1
      · rw [e]; intro he; injection he with he; have := ((h.at_ x hx').2.lt k hk').2; omega
  · by_cases e : x = i
    · subst e
      rw [upF_same] at hk
      have e2 : y ≠ x := fun e => hne e.symm
      have hy' := hold y hy e2
      rw [upF_other _ e2] at hk2
      have := ((h.at_ y hy').2.lt k ((hf y hy' k).1 hk2)).2
      have := hnew k hk
      omega
    · have hx' := hold x hx e
      rw [upF_other _ e] at hk
      by_cases e2 : y = i
      · subst e2
        rw [upF_same] at hk2
        have := ((h.at_ x hx').2.lt k ((hf x hx' k).1 hk)).2
        have := hnew k hk2
        omega
      · have hy' := hold y hy e2
        rw [upF_other _ e2] at hk2
        exact h.apart x y hx' hy' hne k ((hf x hx' k).1 hk) ((hf y hy' k).1 hk2)
end
end Go.Proofs.YtphaaagcdjpceaaDoor
