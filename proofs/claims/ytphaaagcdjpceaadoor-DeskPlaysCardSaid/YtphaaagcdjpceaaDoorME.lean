import Derived.Test.YtphaaagcdjpceaaDoorMD
import Derived.Test.YtphaaagcdjpceaaDoorMB
import Derived.Deep.Cut
import Derived.Deep.RegionHeld3
import Derived.Deep.QuietTactic
import Derived.BigQuiet
import Derived.BigRegion
import Derived.StillTailTactics
namespace Go.Proofs.YtphaaagcdjpceaaDoor
open Go.RowKit Go.Extern.Stop Go.Stop Go.Extern Go.Proofs.YtphaaagcdjpceaaDoorW.PrintWords Go.Proofs.YtphaaagcdjpceaaDoorW.PrintLast Go.Proofs.YtphaaagcdjpceaaDoorW.PrintMore
set_option linter.unusedVariables false
abbrev DT5 : List Nat := [133, 136, 106, 108, 5]
section
variable {w W W1 : World} {base d pg M : Nat} {most n : Int} {ps : List S108} {snaps : Int} {cap : Nat} {D : DataW Unit} {sm : Int} {F : Int → Nat × Sn}
theorem Dsk.butT {S : Nat → Prop} (h : Dsk W base d pg M most n ps snaps cap D sm F) (hr : ∀ k, S k → ∃ cs t fr, W.heap[k]? = some (Obj.cells cs t fr) ∧ t ∉ DT5) (ho : ∀ k, k < W.heap.size → ¬ S k → W1.heap[k]? = W.heap[k]?) : Dsk W1 base d pg M most n ps snaps cap D sm F := by
  have hsm : ∀ x, hasI D x → ∀ k, foot W (F x).1 (F x).2 k → W1.heap[k]? = W.heap[k]? := fun x hx k hk => ho k ((h.at_ x hx).2.lt k hk).2 (fun e => by
    obtain ⟨cs, t, fr, hc, ht⟩ := hr k e
    rcases (h.at_ x hx).2.kinds2 k hk cs t fr hc with rfl | rfl | rfl | rfl <;> exact ht (by decide))
  have hdk : ∀ k, (k = d ∨ k = pg ∨ some k = abk W pg ∨ k = M) → W1.heap[k]? = W.heap[k]? := fun k hk => ho k (h.dk.lt k hk) (fun e => by
    obtain ⟨cs, t, fr, hc, ht⟩ := hr k e
    rcases h.dk.kinds2 k hk cs t fr hc with rfl | rfl | rfl <;> exact ht (by decide))
  have hf : ∀ x, hasI D x → ∀ k, foot W1 (F x).1 (F x).2 k ↔ foot W (F x).1 (F x).2 k := fun x hx k => foot_same (hsm x hx _ (.inr (.inl rfl))) k
  have ha : abk W1 pg = abk W pg := abk_same (hdk pg (.inr (.inl rfl)))
  refine ⟨h.dk.same hdk, fun x hx => ⟨(h.at_ x hx).1, (h.at_ x hx).2.same (hsm x hx)⟩, fun x hx k hk => ?_, fun x y hx hy hne k hk hk2 => ?_⟩
  · rw [ha]; exact h.far x hx k ((hf x hx k).1 hk)
  · exact h.apart x y hx hy hne k ((hf x hx k).1 hk) ((hf y hy k).1 hk2)
theorem DS.butT {S : Nat → Prop} (h : DS w W d pg M most n ps snaps cap D sm F) (hr : ∀ k, S k → ∃ cs t fr, W.heap[k]? = some (Obj.cells cs t fr) ∧ t ∉ DT5) (ho : ∀ k, k < W.heap.size → ¬ S k → W1.heap[k]? = W.heap[k]?) (hb : Below w.heap.size w W1) : DS w W1 d pg M most n ps snaps cap D sm F := ⟨h.ds.butT hr ho, hb, h.lm⟩
end
theorem RP.typed {W : World} {base r N : Nat} {ps : List S108} (h : RP W base r ps N) (k : Nat) (hk : k = r ∨ some k = bk W r 0 ∨ some k = bk W r 1) : ∃ cs t fr, W.heap[k]? = some (Obj.cells cs t fr) ∧ (t = 111 ∨ t = 3 ∨ t = 4) ∧ base ≤ k := by
  obtain ⟨h0, A1, c1, A2, c2, ts, bs, h1, h2, h3, _⟩ := h
  have e0 : bk W r 0 = (Value.slice A1 N c1).ownBlock := by unfold bk; rw [(blk_cell h1 0).trans (show _ = some (Value.slice A1 N c1) from rfl)]; rfl
  have e1 : bk W r 1 = (Value.slice A2 N c2).ownBlock := by unfold bk; rw [(blk_cell h1 1).trans (show _ = some (Value.slice A2 N c2) from rfl)]; rfl
  rcases hk with rfl | hk | hk
  · exact ⟨_, _, _, h1, .inl rfl, h0⟩
  · rw [e0] at hk
    obtain ⟨cells, hc⟩ := Kd.R_typed h2 k hk.symm
    exact ⟨_, _, _, hc, .inr (.inl rfl), Kd.R_base h2 k hk.symm⟩
  · rw [e1] at hk
    obtain ⟨cells, hc⟩ := Kd.R_typed h3 k hk.symm
    exact ⟨_, _, _, hc, .inr (.inr rfl), Kd.R_base h3 k hk.symm⟩
theorem DS.fe {w W W1 : World} {d pg M : Nat} {most n : Int} {ps : List S108} {snaps : Int} {cap : Nat} {D : DataW Unit} {sm : Int} {F : Int → Nat × Sn} (h : DS w W d pg M most n ps snaps cap D sm F) {r N : Nat} {qs : List S108} (hp : RP W w.heap.size r qs N) (hf : Fe w.heap.size r W W1) : DS w W1 d pg M most n ps snaps cap D sm F :=
  h.butT (S := fun k => some k = bk W r 0 ∨ some k = bk W r 1) (fun k hk => by
    obtain ⟨cs, t, fr, hc, ht, _⟩ := hp.typed k (hk.elim (fun e => .inr (.inl e)) (fun e => .inr (.inr e)))
    exact ⟨cs, t, fr, hc, by rcases ht with rfl | rfl | rfl <;> decide⟩) (fun k hk hn => hf.blk k hk (fun e => hn (.inl e)) (fun e => hn (.inr e))) (h.bl.trans hf.fd.1)
theorem RP.same {W W1 : World} {base r N : Nat} {ps : List S108} (h : RP W base r ps N) (hs : ∀ k, (k = r ∨ some k = bk W r 0 ∨ some k = bk W r 1) → W1.heap[k]? = W.heap[k]?) : RP W1 base r ps N := by
  obtain ⟨h0, A1, c1, A2, c2, ts, bs, h1, h2, h3, h4⟩ := h
  have e0 : bk W r 0 = (Value.slice A1 N c1).ownBlock := by unfold bk; rw [(blk_cell h1 0).trans (show _ = some (Value.slice A1 N c1) from rfl)]; rfl
  have e1 : bk W r 1 = (Value.slice A2 N c2).ownBlock := by unfold bk; rw [(blk_cell h1 1).trans (show _ = some (Value.slice A2 N c2) from rfl)]; rfl
  exact ⟨h0, A1, c1, A2, c2, ts, bs, (hs r (.inl rfl)).trans h1, R_same h2 rfl (fun k hk => hs k (.inr (.inl (by rw [e0]; exact hk)))), R_same h3 rfl (fun k hk => hs k (.inr (.inr (by rw [e1]; exact hk)))), h4⟩
structure Seat where
  bl : Nat
  x : Int
  t : Int
  wt : Bool
  b : ByteArray
  rp : Nat
  ps : List S108
  hv : Value
  hs : List S40
  rv : Value
  rs : List Int
structure SE (W : World) (base N : Nat) (s : Seat) : Prop where
  hd : W.heap[s.bl]? = some (.cells #[.int .i64 s.x, .int .i64 s.t, .bool s.wt, .string s.b, .pointer (some ⟨s.rp, 0, none⟩), s.hv, s.rv] 96 (0, 0))
  rp : RP W base s.rp s.ps N
  hr : HR W base s.hv s.hs
  rr : Kd.R (Kd.int .i64) 3 W base (fun _ => True) s.rv s.rs
  lo : base ≤ s.bl
def sfoot (W : World) (s : Seat) (k : Nat) : Prop := k = s.bl ∨ (k = s.rp ∨ some k = bk W s.rp 0 ∨ some k = bk W s.rp 1) ∨ some k = s.hv.ownBlock ∨ some k = s.rv.ownBlock
theorem SE.same {W W1 : World} {base N : Nat} {s : Seat} (h : SE W base N s) (hs : ∀ k, sfoot W s k → W1.heap[k]? = W.heap[k]?) : SE W1 base N s :=
  ⟨(hs _ (.inl rfl)).trans h.hd, h.rp.same (fun k hk => hs k (.inr (.inl hk))), R_same h.hr rfl (fun k hk => hs k (.inr (.inr (.inl hk)))), R_same h.rr rfl (fun k hk => hs k (.inr (.inr (.inr hk)))), h.lo⟩
theorem SE.typed {W : World} {base N : Nat} {s : Seat} (h : SE W base N s) (k : Nat) (hk : sfoot W s k) : ∃ cs t fr, W.heap[k]? = some (Obj.cells cs t fr) ∧ (t = 96 ∨ t = 111 ∨ t = 3 ∨ t = 4 ∨ t = 40) ∧ base ≤ k := by
  rcases hk with rfl | hk | hk | hk
  · exact ⟨_, _, _, h.hd, .inl rfl, h.lo⟩
  · obtain ⟨cs, t, fr, hc, ht, hb⟩ := h.rp.typed k hk
    exact ⟨cs, t, fr, hc, by rcases ht with e | e | e <;> simp [e], hb⟩
  · obtain ⟨cells, hc⟩ := Kd.R_typed h.hr k hk.symm
    exact ⟨_, _, _, hc, .inr (.inr (.inr (.inr rfl))), Kd.R_base h.hr k hk.symm⟩
  · obtain ⟨cells, hc⟩ := Kd.R_typed h.rr k hk.symm
    exact ⟨_, _, _, hc, .inr (.inr (.inl rfl)), Kd.R_base h.rr k hk.symm⟩
theorem SE.lt {W : World} {base N : Nat} {s : Seat} (h : SE W base N s) (k : Nat) (hk : sfoot W s k) : k < W.heap.size := by
  obtain ⟨cs, t, fr, hc, _⟩ := h.typed k hk
  exact blk_lt hc
theorem sfoot_same {W W1 : World} {s : Seat} (h : W1.heap[s.rp]? = W.heap[s.rp]?) (k : Nat) : sfoot W1 s k ↔ sfoot W s k := by unfold sfoot; rw [bk_same h 0, bk_same h 1]
theorem SE.keeps {W W1 : World} {base N : Nat} {s : Seat} (h : SE W base N s) (hk : Keeps DT W W1) : SE W1 base N s := h.same (fun k hf => by
  obtain ⟨cs, t, fr, hc, ht, _⟩ := h.typed k hf
  exact hk.2 k cs t fr hc (by rcases ht with rfl | rfl | rfl | rfl | rfl <;> decide))
structure SL (W : World) (base N : Nat) (L : List Seat) : Prop where
  all : ∀ s ∈ L, SE W base N s
  ap : L.Pairwise (fun s u => ∀ k, sfoot W s k → ¬ sfoot W u k)
theorem SL.nil (W : World) (base N : Nat) : SL W base N [] := ⟨fun s hs => by simp at hs, List.Pairwise.nil⟩
theorem SL.same {W W1 : World} {base N : Nat} {L : List Seat} (h : SL W base N L) (hs : ∀ s ∈ L, ∀ k, sfoot W s k → W1.heap[k]? = W.heap[k]?) : SL W1 base N L := by
  refine ⟨fun s hm => (h.all s hm).same (hs s hm), h.ap.imp_of_mem (fun {s u} hm hu hap k hk hk2 => ?_)⟩
  exact hap k ((sfoot_same (hs s hm _ (.inr (.inl (.inl rfl)))) k).1 hk) ((sfoot_same (hs u hu _ (.inr (.inl (.inl rfl)))) k).1 hk2)
theorem SL.keeps {W W1 : World} {base N : Nat} {L : List Seat} (h : SL W base N L) (hk : Keeps DT W W1) : SL W1 base N L := h.same (fun s hm k hf => by
  obtain ⟨cs, t, fr, hc, ht, _⟩ := (h.all s hm).typed k hf
  exact hk.2 k cs t fr hc (by rcases ht with rfl | rfl | rfl | rfl | rfl <;> decide))
theorem SL.below {W W1 : World} {base N : Nat} {L : List Seat} (h : SL W base N L) (hb : Below W.heap.size W W1) : SL W1 base N L := h.keeps (Keeps.below hb)
theorem SL.snoc {W : World} {base N : Nat} {L : List Seat} (h : SL W base N L) {u : Seat} (hu : SE W base N u) (hn : ∀ s ∈ L, ∀ k, sfoot W s k → ¬ sfoot W u k) : SL W base N (L ++ [u]) := by
  refine ⟨fun s hs => ?_, ?_⟩
  · rcases List.mem_append.1 hs with hs | hs
    · exact h.all s hs
    · simp at hs; subst hs; exact hu
  · rw [List.pairwise_append]
    exact ⟨h.ap, List.pairwise_singleton _ _, fun s hs v hv => by simp at hv; subst hv; exact hn s hs⟩
theorem SL.sub {W : World} {base N : Nat} {L L2 : List Seat} (h : SL W base N L) (hs : L2.Sublist L) : SL W base N L2 := ⟨fun s hm => h.all s (hs.subset hm), h.ap.sublist hs⟩
theorem SL.turn {W W1 : World} {base N : Nat} {L : List Seat} (h : SL W base N L) {i : Nat} (hi : i < L.length) {s' : Seat} (hs' : SE W1 base N s') (hft : ∀ k, sfoot W1 s' k → sfoot W L[i] k ∨ W.heap.size ≤ k) (ho : ∀ k, k < W.heap.size → ¬ sfoot W L[i] k → W1.heap[k]? = W.heap[k]?) : SL W1 base N (L.set i s') := by
  have ap : ∀ a b (ha : a < L.length) (hb : b < L.length), a ≠ b → ∀ k, sfoot W L[a] k → ¬ sfoot W L[b] k := by
    intro a b ha hb hne k h1 h2
    rcases Nat.lt_or_gt_of_ne hne with h' | h'
    · exact (List.pairwise_iff_getElem.1 h.ap a b ha hb h') k h1 h2
    · exact (List.pairwise_iff_getElem.1 h.ap b a hb ha h') k h2 h1
  have hst : ∀ j (hj : j < L.length), j ≠ i → ∀ k, sfoot W L[j] k → W1.heap[k]? = W.heap[k]? := fun j hj hne k hk => ho k ((h.all _ (List.getElem_mem hj)).lt k hk) (fun hf => ap j i hj hi hne k hk hf)
  have hsf : ∀ j (hj : j < L.length), j ≠ i → ∀ k, sfoot W1 L[j] k ↔ sfoot W L[j] k := fun j hj hne k => sfoot_same (hst j hj hne _ (.inr (.inl (.inl rfl)))) k
  refine ⟨fun u hu => ?_, List.pairwise_iff_getElem.2 (fun a b ha hb hab k hk hk2 => ?_)⟩
  · obtain ⟨j, hj, rfl⟩ := List.mem_iff_getElem.1 hu
    rw [List.length_set] at hj
    rw [List.getElem_set]
    split
    · exact hs'
    · rename_i hne
      exact (h.all _ (List.getElem_mem hj)).same (hst j hj (fun e => hne e.symm))
  · rw [List.length_set] at ha hb
    rw [List.getElem_set] at hk hk2
    split at hk
    · rename_i e
      subst e
      rw [if_neg (by omega)] at hk2
      have h2 := (hsf b hb (by omega) k).1 hk2
      rcases hft k hk with h1 | h1
      · exact ap i b hi hb (by omega) k h1 h2
      · have := (h.all _ (List.getElem_mem hb)).lt k h2; omega
    · rename_i e
      have h1 := (hsf a ha (fun e' => e e'.symm) k).1 hk
      split at hk2
      · rename_i e2
        subst e2
        rcases hft k hk2 with h2 | h2
        · exact ap a i ha hi (by omega) k h1 h2
        · have := (h.all _ (List.getElem_mem ha)).lt k h1; omega
      · rename_i e2
        exact ap a b ha hb (by omega) k h1 ((hsf b hb (fun e' => e2 e'.symm) k).1 hk2)
theorem DS.seat {w W W1 : World} {d pg M : Nat} {most n : Int} {ps : List S108} {snaps : Int} {cap : Nat} {D : DataW Unit} {sm : Int} {F : Int → Nat × Sn} (h : DS w W d pg M most n ps snaps cap D sm F) {N : Nat} {s : Seat} (hs : SE W w.heap.size N s) (ho : ∀ k, k < W.heap.size → ¬ sfoot W s k → W1.heap[k]? = W.heap[k]?) (hb : Below w.heap.size w W1) : DS w W1 d pg M most n ps snaps cap D sm F :=
  h.butT (S := sfoot W s) (fun k hk => by
    obtain ⟨cs, t, fr, hc, ht, _⟩ := hs.typed k hk
    exact ⟨cs, t, fr, hc, by rcases ht with rfl | rfl | rfl | rfl | rfl <;> decide⟩) ho hb
end Go.Proofs.YtphaaagcdjpceaaDoor
namespace Go.Proofs.YtphaaagcdjpceaaDoor
open Go.RowKit Go.Proofs.YtphaaagcdjpceaaDoorW.PrintWords
set_option linter.unusedVariables false
structure RH (D : DataW Unit) (hs : List S40) (rs : List Int) : Prop where
  tidy : Go.Maps.Tidy D
  len : hs.length = rs.length
  nd : ∀ i j, i < hs.length → j < hs.length → (hat hs i).f0 = (hat hs j).f0 → i = j
  has : ∀ k, hasI D k ↔ ∃ j, j < hs.length ∧ (hat hs j).f0 = k
  at_ : ∀ j, j < hs.length → ∀ z, D.atKey (.int .i64 (hat hs j).f0) z = .lit (.int .i64 (rs.getD j 0))
  size : Go.Maps.size D = hs.length
theorem RH.nil : RH (.map []) [] [] := ⟨Go.Maps.tidy_empty, rfl, fun i j h => by simp at h, fun k => ⟨fun h => by simp [hasI, Go.Maps.has] at h, fun ⟨j, h, _⟩ => by simp at h⟩, fun j h => by simp at h, rfl⟩
theorem hat_old {hs : List S40} {x : S40} {j : Nat} (h : j < hs.length) : hat (hs ++ [x]) j = hat hs j := by
  simp [hat, List.getD_eq_getElem?_getD, List.getElem?_append_left h]
theorem hat_new {hs : List S40} {x : S40} : hat (hs ++ [x]) hs.length = x := by simp [hat]
theorem RH.snoc {D : DataW Unit} {hs : List S40} {rs : List Int} (h : RH D hs rs) (p t r : Int) (hp : ¬ hasI D p) : RH (D.put (.int .i64 p) (.lit (.int .i64 r))) (hs ++ [⟨p, t⟩]) (rs ++ [r]) := by
  have hold : ∀ j, j < hs.length → (hat hs j).f0 ≠ p := fun j hj e => hp ((h.has p).2 ⟨j, hj, e⟩)
  refine ⟨h.tidy.put (isKey_int _) _, by simp [h.len], fun i j hi hj e => ?_, fun k => ?_, fun j hj z => ?_, ?_⟩
  · simp only [List.length_append, List.length_cons, List.length_nil] at hi hj
    rcases Nat.lt_or_ge i hs.length with h1 | h1
    · rw [hat_old h1] at e
      rcases Nat.lt_or_ge j hs.length with h2 | h2
      · rw [hat_old h2] at e; exact h.nd i j h1 h2 e
      · obtain rfl : j = hs.length := by omega
        rw [hat_new] at e
        exact absurd e (hold i h1)
    · obtain rfl : i = hs.length := by omega
      rw [hat_new] at e
      rcases Nat.lt_or_ge j hs.length with h2 | h2
      · rw [hat_old h2] at e; exact absurd e.symm (hold j h2)
      · omega
  · rw [hasI_put h.tidy.isMap, h.has]
    constructor
    · rintro (rfl | ⟨j, hj, e⟩)
      · exact ⟨hs.length, by simp, by rw [hat_new]⟩
      · exact ⟨j, by simp; omega, by rw [hat_old hj]; exact e⟩
    · rintro ⟨j, hj, e⟩
      simp only [List.length_append, List.length_cons, List.length_nil] at hj
      rcases Nat.lt_or_ge j hs.length with h2 | h2
      · rw [hat_old h2] at e; exact .inr ⟨j, h2, e⟩
      · obtain rfl : j = hs.length := by omega
        rw [hat_new] at e; exact .inl e.symm
  · simp only [List.length_append, List.length_cons, List.length_nil] at hj
    rw [at_putI h.tidy.isMap]
    rcases Nat.lt_or_ge j hs.length with h2 | h2
    · rw [hat_old h2, if_neg (hold j h2), h.at_ j h2]
      rw [List.getD_eq_getElem?_getD, List.getD_eq_getElem?_getD, List.getElem?_append_left (by rw [← h.len]; exact h2)]
    · obtain rfl : j = hs.length := by omega
      rw [hat_new, if_pos rfl, h.len]; simp
  · rw [Go.Maps.size_put h.tidy]
    have hn : Go.Maps.has D (.int .i64 p) = false := by
      cases hh : Go.Maps.has D (.int .i64 p)
      · rfl
      · exact absurd hh hp
    rw [hn, h.size]; simp
theorem hat_erase {hs : List S40} {i j : Nat} : hat (hs.eraseIdx i) j = if j < i then hat hs j else hat hs (j + 1) := by
  simp only [hat, List.getD_eq_getElem?_getD, List.getElem?_eraseIdx]
  split <;> rfl
theorem RH.erase {D : DataW Unit} {hs : List S40} {rs : List Int} (h : RH D hs rs) {i : Nat} (hi : i < hs.length) : RH (D.del (.int .i64 (hat hs i).f0)) (hs.eraseIdx i) (rs.eraseIdx i) := by
  have hl : (hs.eraseIdx i).length = hs.length - 1 := List.length_eraseIdx_of_lt hi
  have hget : ∀ j, j < hs.length - 1 → ∃ j', j' < hs.length ∧ j' ≠ i ∧ hat (hs.eraseIdx i) j = hat hs j' ∧ (rs.eraseIdx i).getD j 0 = rs.getD j' 0 ∧ j' = if j < i then j else j + 1 := fun j hj => by
    refine ⟨if j < i then j else j + 1, by split <;> omega, by split <;> omega, ?_, ?_, rfl⟩
    · rw [hat_erase]; split <;> rfl
    · rw [List.getD_eq_getElem?_getD, List.getD_eq_getElem?_getD, List.getElem?_eraseIdx]; split <;> rfl
  refine ⟨h.tidy.del _, by rw [hl, List.length_eraseIdx_of_lt (by rw [← h.len]; exact hi), h.len], fun a b ha hb e => ?_, fun k => ?_, fun j hj z => ?_, ?_⟩
  · rw [hl] at ha hb
    obtain ⟨a', ha1, ha2, ha3, _, ha4⟩ := hget a ha
    obtain ⟨b', hb1, hb2, hb3, _, hb4⟩ := hget b hb
    rw [ha3, hb3] at e
    have := h.nd a' b' ha1 hb1 e
    rw [ha4, hb4] at this
    split at this <;> split at this <;> omega
  · rw [hasI_del, h.has]
    constructor
    · rintro ⟨hne, j, hj, e⟩
      have hji : j ≠ i := fun e2 => hne (by rw [← e, e2])
      rcases Nat.lt_or_gt_of_ne hji with h1 | h1
      · exact ⟨j, by omega, by rw [hat_erase, if_pos h1]; exact e⟩
      · exact ⟨j - 1, by omega, by rw [hat_erase, if_neg (by omega), show j - 1 + 1 = j by omega]; exact e⟩
    · rintro ⟨j, hj, e⟩
      rw [hl] at hj
      obtain ⟨j', h1, h2, h3, _, _⟩ := hget j hj
      rw [h3] at e
      exact ⟨fun e2 => h2 (h.nd j' i h1 hi (by rw [e, e2])), j', h1, e⟩
  · rw [hl] at hj
    obtain ⟨j', h1, h2, h3, h4, _⟩ := hget j hj
    rw [h3, h4, at_delI (fun e => h2 (h.nd j' i h1 hi e)), h.at_ j' h1]
  · have := Go.Maps.size_del (k := .int .i64 (hat hs i).f0) h.tidy
    have hh : Go.Maps.has D (.int .i64 (hat hs i).f0) = true := (h.has _).2 ⟨i, hi, rfl⟩
    rw [hh, h.size] at this
    simp at this
    rw [hl]; omega
def plsOf (D : DataW Unit) (m : Nat) : List Int := ((List.range m).filter (fun p : Nat => Go.Maps.has D (.int .i64 (p : Int)))).map (fun p : Nat => (p : Int))
theorem plsOf_succ (D : DataW Unit) (m : Nat) : plsOf D (m + 1) = plsOf D m ++ if Go.Maps.has D (.int .i64 (m : Int)) = true then [(m : Int)] else [] := by
  unfold plsOf
  rw [List.range_succ, List.filter_append, List.map_append]
  congr 1
  cases hh : Go.Maps.has D (.int .i64 (m : Int)) <;> simp [hh]
theorem RH.keys {W : World} {mb cap : Nat} {D : DataW Unit} {hs : List S40} {rs : List Int} (h : RH D hs rs) (hm : RM W mb cap D) {m : Nat} (hb : ∀ j, j < hs.length → 0 ≤ (hat hs j).f0 ∧ (hat hs j).f0 < (m : Int)) : (Go.intKeys D).mergeSort (fun x y => decide (x ≤ y)) = plsOf D m := by
  have hp : (plsOf D m).Perm (Go.intKeys D) := by
    refine Go.CollectedI.perm (left := fun _ => false) ⟨?_, fun x => ?_⟩ hm key3 Tryd.underlying3 (fun _ => rfl)
    · unfold plsOf
      rw [List.Nodup, List.pairwise_map]
      exact (List.nodup_range.filter _).imp (fun h e => h (by omega))
    · unfold plsOf
      rw [List.mem_map]
      constructor
      · rintro ⟨i, hi, rfl⟩
        exact ⟨(List.mem_filter.1 hi).2, rfl⟩
      · rintro ⟨hx, _⟩
        obtain ⟨j, hj, e⟩ := (h.has x).1 hx
        have := hb j hj
        refine ⟨x.toNat, List.mem_filter.2 ⟨List.mem_range.2 (by omega), ?_⟩, by omega⟩
        rw [show ((x.toNat : Nat) : Int) = x by omega]; exact hx
  rw [← Go.mergeSort_of_perm_i hp]
  refine List.mergeSort_of_pairwise ?_
  unfold plsOf
  rw [List.pairwise_map]
  exact (List.pairwise_lt_range.filter _).imp (fun h => by simp only [decide_eq_true_eq]; omega)
end Go.Proofs.YtphaaagcdjpceaaDoor
namespace Go.Proofs.YtphaaagcdjpceaaDoor
open Go.RowKit Go.Proofs.YtphaaagcdjpceaaDoorW.PrintWords
set_option linter.unusedVariables false
def wantL (xs : List Int) (m : Nat) : List Int := (List.range m).flatMap (fun v : Nat => xs.filter (fun x => decide (x = (v : Int))))
theorem wantL_zero (xs : List Int) : wantL xs 0 = [] := rfl
theorem wantL_succ (xs : List Int) (m : Nat) : wantL xs (m + 1) = wantL xs m ++ xs.filter (fun x => decide (x = (m : Int))) := by
  unfold wantL
  rw [List.range_succ, List.flatMap_append]; simp
theorem wantL_mem {xs : List Int} {m : Nat} {x : Int} (h : x ∈ wantL xs m) : 0 ≤ x ∧ x < (m : Int) := by
  unfold wantL at h
  obtain ⟨v, hv, hx⟩ := List.mem_flatMap.1 h
  have h1 := List.mem_range.1 hv
  have h2 := (List.mem_filter.1 hx).2
  simp only [decide_eq_true_eq] at h2
  omega
theorem wantL_perm (xs : List Int) (m : Nat) : (wantL xs m).Perm (xs.filter (fun x => decide (0 ≤ x ∧ x < (m : Int)))) := by
  induction m with
  | zero =>
    rw [wantL_zero, List.filter_eq_nil_iff.2 (fun x _ => by simp)]
  | succ m ih =>
    rw [wantL_succ]
    have h1 := List.filter_append_perm (fun x : Int => decide (0 ≤ x ∧ x < (m : Int))) (xs.filter (fun x => decide (0 ≤ x ∧ x < ((m + 1 : Nat) : Int))))
    rw [List.filter_filter, List.filter_filter] at h1
    refine List.Perm.trans ?_ h1
    refine List.Perm.append (ih.trans ?_) ?_
    · rw [List.filter_congr (fun x _ => ?_)]
      rw [← Bool.decide_and]; congr 1
      simp only [eq_iff_iff]; omega
    · rw [List.filter_congr (fun x _ => ?_)]
      simp only [← decide_not, ← Bool.decide_and]
      congr 1
      simp only [eq_iff_iff]; omega
theorem wantL_sorted (xs : List Int) (m : Nat) : (wantL xs m).Pairwise (fun a b => a ≤ b) := by
  induction m with
  | zero => exact List.Pairwise.nil
  | succ m ih =>
    rw [wantL_succ, List.pairwise_append]
    refine ⟨ih, ?_, fun a ha b hb => ?_⟩
    · rw [List.pairwise_filter]
      exact List.pairwise_of_forall (fun a b ha hb => by simp only [decide_eq_true_eq] at ha hb; omega)
    · have := wantL_mem ha
      have h2 := (List.mem_filter.1 hb).2
      simp only [decide_eq_true_eq] at h2
      omega
theorem want_eq {xs : List Int} {m : Nat} (h : ∀ x ∈ xs, 0 ≤ x ∧ x < (m : Int)) : xs.mergeSort (fun x y => decide (x ≤ y)) = wantL xs m := by
  have hp := wantL_perm xs m
  rw [List.filter_eq_self.2 (fun x hx => by have := h x hx; simp; omega)] at hp
  rw [← Go.mergeSort_of_perm_i hp]
  exact List.mergeSort_of_pairwise ((wantL_sorted xs m).imp (fun h => by simpa using h))
theorem RH.perm {W : World} {mb cap : Nat} {D : DataW Unit} {hs : List S40} {rs : List Int} (h : RH D hs rs) (hm : RM W mb cap D) (val : Int → Int) (hv : ∀ j, j < hs.length → val (hat hs j).f0 = rs.getD j 0) : ((Go.intKeys D).map val).Perm rs := by
  have hp : (hs.map (fun x => x.f0)).Perm (Go.intKeys D) := by
    refine Go.CollectedI.perm (left := fun _ => false) ⟨?_, fun x => ?_⟩ hm key3 Tryd.underlying3 (fun _ => rfl)
    · rw [List.Nodup, List.pairwise_iff_getElem]
      intro i j hi hj hij e
      simp only [List.length_map] at hi hj
      rw [List.getElem_map, List.getElem_map] at e
      have e2 : (hat hs i).f0 = (hat hs j).f0 := by simpa [hat, hi, hj] using e
      have := h.nd i j hi hj e2
      omega
    · rw [List.mem_map]
      constructor
      · rintro ⟨y, hy, rfl⟩
        obtain ⟨j, hj, rfl⟩ := List.mem_iff_getElem.1 hy
        exact ⟨(h.has _).2 ⟨j, hj, by simp [hat, hj]⟩, rfl⟩
      · rintro ⟨hx, _⟩
        obtain ⟨j, hj, e⟩ := (h.has x).1 hx
        exact ⟨hs[j], List.getElem_mem hj, by rw [← e]; simp [hat, hj]⟩
  have h2 := (hp.map val).symm
  refine h2.trans ?_
  have e : (hs.map (fun x => x.f0)).map val = rs := by
    apply List.ext_getElem
    · simp [h.len]
    · intro i h1 h2'
      simp only [List.length_map] at h1
      have := hv i h1
      simp only [List.getElem_map]
      rw [show hs[i].f0 = (hat hs i).f0 by simp [hat, h1], this]
      rw [List.getD_eq_getElem?_getD, List.getElem?_eq_getElem h2']; rfl
  rw [e]
end Go.Proofs.YtphaaagcdjpceaaDoor
namespace Go.Proofs.YtphaaagcdjpceaaDoor
open Go.RowKit Go.Proofs.YtphaaagcdjpceaaDoorW.PrintWords
set_option linter.unusedVariables false
theorem hasB_iff {ps : List S108} {p t : Int} : hasB ps p t = true ↔ ∃ i : Nat, p = (i : Int) ∧ i < ps.length ∧ (plc ps i).f1 = true ∧ (plc ps i).f0 = t := by
  constructor
  · intro h
    obtain ⟨i, rfl, hi, h1⟩ := hasB_lt h
    rw [hasB_at hi] at h
    simp only [Bool.and_eq_true, beq_iff_eq] at h
    exact ⟨i, rfl, hi, h1, h.2⟩
  · rintro ⟨i, rfl, hi, h1, h2⟩
    exact hasB_of hi h1 h2
theorem hasB_took {ps : List S108} {i : Nat} (hi : i ≤ ps.length) (hf : i < ps.length → (plc ps i).f1 = false) (p t : Int) : hasB (tookL ps i) p t = true ↔ (p = (i : Int) ∧ t = turnOf ps i) ∨ hasB ps p t = true := by
  rw [hasB_iff, hasB_iff]
  have hlen : (tookL ps i).length = if i < ps.length then ps.length else ps.length + 1 := took_len hi
  constructor
  · rintro ⟨k, rfl, hk, h1, h2⟩
    rcases Nat.decEq i k with hne | rfl
    · have hk2 : k < ps.length := by rw [hlen] at hk; split at hk <;> omega
      rw [plc_took_ne hne hk2] at h1 h2
      exact .inr ⟨k, rfl, hk2, h1, h2⟩
    · rw [plc_took hi] at h2
      exact .inl ⟨rfl, h2.symm⟩
  · rintro (⟨rfl, rfl⟩ | ⟨k, rfl, hk, h1, h2⟩)
    · exact ⟨i, rfl, by rw [hlen]; split <;> omega, by rw [plc_took hi], by rw [plc_took hi]⟩
    · have hne : i ≠ k := by
        rintro rfl
        rw [hf hk] at h1; cases h1
      exact ⟨k, rfl, by rw [hlen]; split <;> omega, by rw [plc_took_ne hne hk]; exact h1, by rw [plc_took_ne hne hk]; exact h2⟩
theorem hasB_freed {ps : List S108} {i : Nat} (hi : i < ps.length) (p t : Int) : hasB (freed ps i) p t = true ↔ p ≠ (i : Int) ∧ hasB ps p t = true := by
  rw [hasB_iff, hasB_iff, freed_len]
  constructor
  · rintro ⟨k, rfl, hk, h1, h2⟩
    rcases Nat.decEq i k with hne | rfl
    · rw [plc_freed_ne hne] at h1 h2
      exact ⟨by omega, k, rfl, hk, h1, h2⟩
    · rw [plc_freed hi] at h1; cases h1
  · rintro ⟨hne, k, rfl, hk, h1, h2⟩
    have : i ≠ k := by omega
    exact ⟨k, rfl, hk, by rw [plc_freed_ne this]; exact h1, by rw [plc_freed_ne this]; exact h2⟩
structure HB (ps : List S108) (hs : List S40) : Prop where
  i : ∀ j, j < hs.length → hasB ps (hat hs j).f0 (hat hs j).f1 = true
  e : ∀ p t, hasB ps p t = true → ∃ j, j < hs.length ∧ hat hs j = ⟨p, t⟩
theorem HB.nil : HB [] [] := ⟨fun j h => by simp at h, fun p t h => by
  obtain ⟨i, _, hi, _⟩ := hasB_iff.1 h
  simp at hi⟩
theorem HB.took {ps : List S108} {hs : List S40} (h : HB ps hs) {i : Nat} (hi : i ≤ ps.length) (hf : i < ps.length → (plc ps i).f1 = false) : HB (tookL ps i) (hs ++ [⟨(i : Int), turnOf ps i⟩]) := by
  refine ⟨fun j hj => ?_, fun p t hp => ?_⟩
  · simp only [List.length_append, List.length_cons, List.length_nil] at hj
    rw [hasB_took hi hf]
    rcases Nat.lt_or_ge j hs.length with h1 | h1
    · rw [hat_old h1]; exact .inr (h.i j h1)
    · obtain rfl : j = hs.length := by omega
      rw [hat_new]; exact .inl ⟨rfl, rfl⟩
  · rcases (hasB_took hi hf p t).1 hp with ⟨rfl, rfl⟩ | h1
    · exact ⟨hs.length, by simp, hat_new⟩
    · obtain ⟨j, hj, e⟩ := h.e p t h1
      exact ⟨j, by simp; omega, by rw [hat_old hj]; exact e⟩
theorem HB.fresh {ps : List S108} {hs : List S40} {D : DataW Unit} {rs : List Int} (h : HB ps hs) (hD : RH D hs rs) {i : Nat} (hf : i < ps.length → (plc ps i).f1 = false) : ¬ hasI D (i : Int) := fun hh => by
  obtain ⟨j, hj, e⟩ := (hD.has _).1 hh
  obtain ⟨k, e2, hk, h1, _⟩ := hasB_iff.1 (h.i j hj)
  obtain rfl : k = i := by omega
  rw [hf hk] at h1; cases h1
theorem HB.erase {ps : List S108} {hs : List S40} {D : DataW Unit} {rs : List Int} (h : HB ps hs) (hD : RH D hs rs) {j : Nat} (hj : j < hs.length) {i : Nat} (hi : (hat hs j).f0 = (i : Int)) (hil : i < ps.length) : HB (freed ps i) (hs.eraseIdx j) := by
  have hl : (hs.eraseIdx j).length = hs.length - 1 := List.length_eraseIdx_of_lt hj
  refine ⟨fun a ha => ?_, fun p t hp => ?_⟩
  · rw [hl] at ha
    rw [hat_erase, hasB_freed hil]
    split
    · rename_i h1
      exact ⟨fun e => by have := hD.nd a j (by omega) hj (by rw [e, hi]); omega, h.i a (by omega)⟩
    · rename_i h1
      exact ⟨fun e => by have := hD.nd (a + 1) j (by omega) hj (by rw [e, hi]); omega, h.i (a + 1) (by omega)⟩
  · obtain ⟨hne, h1⟩ := (hasB_freed hil p t).1 hp
    obtain ⟨k, hk, e⟩ := h.e p t h1
    have hkj : k ≠ j := by
      rintro rfl
      rw [e] at hi
      exact hne hi
    rcases Nat.lt_or_gt_of_ne hkj with h2 | h2
    · exact ⟨k, by omega, by rw [hat_erase, if_pos h2]; exact e⟩
    · exact ⟨k - 1, by omega, by rw [hat_erase, if_neg (by omega), show k - 1 + 1 = k by omega]; exact e⟩
structure MS (c : Nat) (s : Seat) (u : Sn) : Prop where
  wt : u.wt = s.wt
  bs : s.wt = true → s.b = strOfNums u.bs ∧ u.bs.length ≤ 2
  ps : u.ps = s.ps
  n : u.n = (cnt s.ps : Int)
  rh : RH u.D s.hs s.rs
  hb : HB s.ps s.hs
  cap : u.cap ≤ c
  hl : s.hs.length ≤ c
theorem MS.more {c c2 : Nat} {s : Seat} {u : Sn} (h : MS c s u) (hc : c ≤ c2) : MS c2 s u := ⟨h.wt, h.bs, h.ps, h.n, h.rh, h.hb, Nat.le_trans h.cap hc, Nat.le_trans h.hl hc⟩
theorem MS.new (bl : Nat) (x t : Int) (b : ByteArray) (rp : Nat) (hv rv : Value) (sg mb : Nat) : MS 0 ⟨bl, x, t, false, b, rp, [], hv, [], rv, []⟩ (newS sg mb) := ⟨rfl, fun h => (by cases h), rfl, rfl, RH.nil, HB.nil, Nat.le_refl _, Nat.le_refl _⟩
theorem MS.sent {c : Nat} {s : Seat} {u : Sn} (h : MS c s u) (bv : Value) (bs : List Int) (hl : bs.length ≤ 2) : MS c { s with wt := true, b := strOfNums bs } { u with wt := true, bv := bv, bs := bs } := ⟨rfl, fun _ => ⟨rfl, hl⟩, h.ps, h.n, h.rh, h.hb, h.cap, h.hl⟩
theorem MS.taken {c : Nat} {s : Seat} {u : Sn} (h : MS c s u) (bv : Value) : MS c { s with wt := false } { u with wt := false, bv := bv, bs := [] } := ⟨rfl, fun h => (by cases h), h.ps, h.n, h.rh, h.hb, h.cap, h.hl⟩
theorem MS.kept {c : Nat} {s : Seat} {u : Sn} (h : MS c s u) {i : Nat} (r : Int) (hv rv : Value) (hi : i ≤ s.ps.length) (hf : i < s.ps.length → (plc s.ps i).f1 = false) : MS (c + 1) { s with ps := tookL s.ps i, hv := hv, hs := s.hs ++ [⟨(i : Int), turnOf s.ps i⟩], rv := rv, rs := s.rs ++ [r] } (keptS u i r) :=
  ⟨h.wt, h.bs, by show tookL u.ps i = _; rw [h.ps], by show u.n + 1 = _; rw [h.n, cnt_took i hi hf]; omega, h.rh.snoc (i : Int) _ r (h.hb.fresh h.rh hf), h.hb.took hi hf, Nat.succ_le_succ h.cap, by simp; have := h.hl; omega⟩
theorem MS.let_ {c : Nat} {s : Seat} {u : Sn} (h : MS c s u) {j i : Nat} (hv rv : Value) (hj : j < s.hs.length) (hi : (hat s.hs j).f0 = (i : Int)) (hil : i < s.ps.length) (ht : (plc s.ps i).f1 = true) : MS c { s with ps := freed s.ps i, hv := hv, hs := s.hs.eraseIdx j, rv := rv, rs := s.rs.eraseIdx j } (letS u i) := by
  refine ⟨h.wt, h.bs, ?_, ?_, ?_, h.hb.erase h.rh hj hi hil, h.cap, by rw [List.length_eraseIdx_of_lt hj]; have := h.hl; omega⟩
  · show u.ps.set i ⟨(plc u.ps i).f0, false⟩ = _; rw [h.ps]; rfl
  · show u.n - 1 = _; rw [h.n, cnt_freed hil ht]; have := cnt_pos hil ht; omega
  · show RH (u.D.del (.int .i64 (i : Int))) _ _
    rw [← hi]; exact h.rh.erase hj
structure MT (c : Nat) (D : DataW Unit) (ps : List S108) (F : Int → Nat × Sn) (L : List Seat) : Prop where
  x : ∀ s ∈ L, hasB ps s.x s.t = true ∧ hasI D s.x ∧ MS c s (F s.x).2
  nd : L.Pairwise (fun s u => s.x ≠ u.x)
  e : ∀ p t, hasB ps p t = true → ∃ s ∈ L, s.x = p ∧ s.t = t
  d : ∀ p, hasI D p → ∃ s ∈ L, s.x = p
  len : L.length ≤ c
theorem MT.start (F : Int → Nat × Sn) : MT 0 (.map []) [] F [] := ⟨fun s h => by simp at h, List.Pairwise.nil, fun p t h => by
  obtain ⟨i, _, hi, _⟩ := hasB_iff.1 h
  simp at hi, fun p h => by simp [hasI, Go.Maps.has] at h, Nat.le_refl _⟩
theorem MT.more {c c2 : Nat} {D : DataW Unit} {ps : List S108} {F : Int → Nat × Sn} {L : List Seat} (h : MT c D ps F L) (hc : c ≤ c2) : MT c2 D ps F L := ⟨fun s hs => ⟨(h.x s hs).1, (h.x s hs).2.1, (h.x s hs).2.2.more hc⟩, h.nd, h.e, h.d, Nat.le_trans h.len hc⟩
theorem MT.none {c : Nat} {D : DataW Unit} {ps : List S108} {F : Int → Nat × Sn} {L : List Seat} (h : MT c D ps F L) {p t : Int} (hn : ∀ s ∈ L, ¬ (s.x = p ∧ s.t = t)) : hasB ps p t = false := by
  cases hh : hasB ps p t
  · rfl
  · obtain ⟨s, hs, e⟩ := h.e p t hh
    exact absurd e (hn s hs)
theorem MT.turn {c : Nat} {D : DataW Unit} {ps : List S108} {F : Int → Nat × Sn} {L : List Seat} (h : MT c D ps F L) {i : Nat} (hi : i < L.length) {s' : Seat} {u' : Sn} (hx : s'.x = L[i].x ∧ s'.t = L[i].t) (hm : MS (c + 1) s' u') : MT (c + 1) D ps (upF F L[i].x ((F L[i].x).1, u')) (L.set i s') := by
  have hne : ∀ j (hj : j < L.length), j ≠ i → L[j].x ≠ L[i].x := fun j hj hji => by
    rcases Nat.lt_or_gt_of_ne hji with h1 | h1
    · exact List.pairwise_iff_getElem.1 h.nd j i hj hi h1
    · exact fun e => List.pairwise_iff_getElem.1 h.nd i j hi hj h1 e.symm
  have hset : ∀ s ∈ L, ∃ v ∈ L.set i s', v.x = s.x ∧ v.t = s.t := fun s hs => by
    obtain ⟨j, hj, rfl⟩ := List.mem_iff_getElem.1 hs
    by_cases e : i = j
    · subst e; exact ⟨s', List.mem_iff_getElem.2 ⟨i, by rw [List.length_set]; exact hi, by simp⟩, hx⟩
    · exact ⟨L[j], List.mem_iff_getElem.2 ⟨j, by rw [List.length_set]; exact hj, by rw [List.getElem_set, if_neg e]⟩, rfl, rfl⟩
  refine ⟨fun v hv => ?_, ?_, fun p t hp => ?_, fun p hp => ?_, by rw [List.length_set]; have := h.len; omega⟩
  · obtain ⟨j, hj, rfl⟩ := List.mem_iff_getElem.1 hv
    rw [List.length_set] at hj
    rw [List.getElem_set]
    split
    · rw [hx.1, hx.2, upF_same]
      have := h.x _ (List.getElem_mem hi)
      exact ⟨this.1, this.2.1, hm⟩
    · rename_i e
      have := h.x _ (List.getElem_mem hj)
      rw [upF_other _ (hne j hj (fun e2 => e e2.symm))]
      exact ⟨this.1, this.2.1, this.2.2.more (by omega)⟩
  · rw [List.pairwise_iff_getElem]
    intro a b ha hb hab
    rw [List.length_set] at ha hb
    rw [List.getElem_set, List.getElem_set]
    split
    · rename_i e
      subst e
      rw [if_neg (by omega), hx.1]
      exact fun e => hne b hb (by omega) e.symm
    · split
      · rename_i e e2
        subst e2
        rw [hx.1]
        exact hne a ha (by omega)
      · exact List.pairwise_iff_getElem.1 h.nd a b ha hb hab
  · obtain ⟨s, hs, e1, e2⟩ := h.e p t hp
    obtain ⟨v, hv, e3, e4⟩ := hset s hs
    exact ⟨v, hv, by rw [e3, e1], by rw [e4, e2]⟩
  · obtain ⟨s, hs, e1⟩ := h.d p hp
    obtain ⟨v, hv, e3, _⟩ := hset s hs
    exact ⟨v, hv, by rw [e3, e1]⟩
theorem MT.free {c : Nat} {D : DataW Unit} {ps : List S108} {F : Int → Nat × Sn} {L : List Seat} (h : MT c D ps F L) {i : Nat} (hf : i < ps.length → (plc ps i).f1 = false) : ¬ hasI D (i : Int) := fun hh => by
  obtain ⟨s, hs, e⟩ := h.d _ hh
  obtain ⟨k, e2, hk, h1, _⟩ := hasB_iff.1 (h.x s hs).1
  obtain rfl : k = i := by omega
  rw [hf hk] at h1; cases h1
theorem MT.open_ {c : Nat} {D : DataW Unit} {ps : List S108} {F : Int → Nat × Sn} {L : List Seat} (h : MT c D ps F L) (hD : Go.Maps.IsMap D) {i : Nat} (hi : i ≤ ps.length) (hf : i < ps.length → (plc ps i).f1 = false) {s' : Seat} {b : Nat} {u' : Sn} (hx : s'.x = (i : Int) ∧ s'.t = turnOf ps i) (hm : MS (c + 1) s' u') : MT (c + 1) (D.put (.int .i64 (i : Int)) (.lit (.int .i64 (b : Int)))) (tookL ps i) (upF F (i : Int) (b, u')) (L ++ [s']) := by
  have hne : ∀ s ∈ L, s.x ≠ (i : Int) := fun s hs e => h.free hf (by have := (h.x s hs).2.1; rwa [e] at this)
  refine ⟨fun v hv => ?_, ?_, fun p t hp => ?_, fun p hp => ?_, by simp; have := h.len; omega⟩
  · rcases List.mem_append.1 hv with hv | hv
    · have h1 := h.x v hv
      rw [upF_other _ (hne v hv)]
      exact ⟨(hasB_took hi hf _ _).2 (.inr h1.1), (hasI_put hD _ _ _).2 (.inr h1.2.1), h1.2.2.more (by omega)⟩
    · simp at hv; subst hv
      rw [hx.1, hx.2, upF_same]
      exact ⟨(hasB_took hi hf _ _).2 (.inl ⟨rfl, rfl⟩), (hasI_put hD _ _ _).2 (.inl rfl), hm⟩
  · rw [List.pairwise_append]
    exact ⟨h.nd, List.pairwise_singleton _ _, fun s hs v hv => by simp at hv; subst hv; rw [hx.1]; exact hne s hs⟩
  · rcases (hasB_took hi hf p t).1 hp with ⟨rfl, rfl⟩ | h1
    · exact ⟨s', by simp, hx⟩
    · obtain ⟨s, hs, e⟩ := h.e p t h1
      exact ⟨s, by simp [hs], e⟩
  · rcases (hasI_put hD _ _ _).1 hp with rfl | h1
    · exact ⟨s', by simp, hx.1⟩
    · obtain ⟨s, hs, e⟩ := h.d p h1
      exact ⟨s, by simp [hs], e⟩
theorem MT.close {c : Nat} {D : DataW Unit} {ps : List S108} {F : Int → Nat × Sn} {L : List Seat} (h : MT c D ps F L) {j i : Nat} (hj : j < L.length) (hi : L[j].x = (i : Int)) (hil : i < ps.length) : MT c (D.del (.int .i64 (i : Int))) (freed ps i) F (L.eraseIdx j) := by
  have hl : (L.eraseIdx j).length = L.length - 1 := List.length_eraseIdx_of_lt hj
  have hmem : ∀ s ∈ L.eraseIdx j, s ∈ L ∧ s.x ≠ (i : Int) := fun s hs => by
    obtain ⟨k, hk, rfl⟩ := List.mem_iff_getElem.1 hs
    rw [hl] at hk
    rw [List.getElem_eraseIdx]
    split
    · rename_i h1
      refine ⟨List.getElem_mem _, ?_⟩
      rw [← hi]
      exact List.pairwise_iff_getElem.1 h.nd k j (by omega) hj h1
    · rename_i h1
      refine ⟨List.getElem_mem _, ?_⟩
      rw [← hi]
      exact fun e => List.pairwise_iff_getElem.1 h.nd j (k + 1) hj (by omega) (by omega) e.symm
  have hstay : ∀ s ∈ L, s.x ≠ (i : Int) → s ∈ L.eraseIdx j := fun s hs hne => by
    obtain ⟨k, hk, rfl⟩ := List.mem_iff_getElem.1 hs
    have hkj : k ≠ j := by rintro rfl; exact hne hi
    rcases Nat.lt_or_gt_of_ne hkj with h1 | h1
    · exact List.mem_iff_getElem.2 ⟨k, by omega, by rw [List.getElem_eraseIdx, dif_pos h1]⟩
    · exact List.mem_iff_getElem.2 ⟨k - 1, by omega, by rw [List.getElem_eraseIdx, dif_neg (by omega)]; congr 1; omega⟩
  refine ⟨fun s hs => ?_, h.nd.sublist (List.eraseIdx_sublist _ _), fun p t hp => ?_, fun p hp => ?_, by rw [hl]; have := h.len; omega⟩
  · obtain ⟨h1, h2⟩ := hmem s hs
    have h3 := h.x s h1
    exact ⟨(hasB_freed hil _ _).2 ⟨h2, h3.1⟩, (hasI_del _ _).2 ⟨h2, h3.2.1⟩, h3.2.2⟩
  · obtain ⟨h1, h2⟩ := (hasB_freed hil p t).1 hp
    obtain ⟨s, hs, e1, e2⟩ := h.e p t h2
    exact ⟨s, hstay s hs (by rw [e1]; exact h1), e1, e2⟩
  · obtain ⟨h1, h2⟩ := (hasI_del _ _).1 hp
    obtain ⟨s, hs, e1⟩ := h.d p h2
    exact ⟨s, hstay s hs (by rw [e1]; exact h1), e1⟩
end Go.Proofs.YtphaaagcdjpceaaDoor
namespace Go.Proofs.YtphaaagcdjpceaaDoor
open Go.RowKit Go.Proofs.YtphaaagcdjpceaaDoorW.PrintWords
set_option linter.unusedVariables false
theorem flat_perm {α : Type} {f g : α → List Int} : ∀ {L : List α}, (∀ s ∈ L, (f s).Perm (g s)) → (L.flatMap f).Perm (L.flatMap g)
  | [], _ => by simp
  | a :: r, h => by
    rw [List.flatMap_cons, List.flatMap_cons]
    exact (h a (by simp)).append (flat_perm (fun s hs => h s (by simp [hs])))
def numOf : DataW Unit → Int
  | .lit (.int _ r) => r
  | _ => 0
theorem MT.keys {w W : World} {d pg M : Nat} {most n : Int} {ps : List S108} {snaps : Int} {cap : Nat} {D : DataW Unit} {sm : Int} {F : Int → Nat × Sn} {c : Nat} {L : List Seat} (hm : MT c D ps F L) (h : DS w W d pg M most n ps snaps cap D sm F) : (L.map (fun s => s.x)).Perm (Go.intKeys D) := by
  refine Go.CollectedI.perm (left := fun _ => false) ⟨?_, fun x => ?_⟩ h.ds.dk.mp key3 Tryd.underlying3 (fun _ => rfl)
  · rw [List.Nodup, List.pairwise_map]; exact hm.nd
  · rw [List.mem_map]
    constructor
    · rintro ⟨s, hs, rfl⟩; exact ⟨(hm.x s hs).2.1, rfl⟩
    · rintro ⟨hx, _⟩
      obtain ⟨s, hs, e⟩ := hm.d x hx
      exact ⟨s, hs, e⟩
theorem dkept_all {w W : World} {d pg M : Nat} {most n : Int} {ps : List S108} {snaps : Int} {cap : Nat} {D : DataW Unit} {sm : Int} {F : Int → Nat × Sn} {c : Nat} {L : List Seat} (h : DS w W d pg M most n ps snaps cap D sm F) (hm : MT c D ps F L) (hc : c ≤ 1000) (hr : ∀ s ∈ L, ∀ r ∈ s.rs, 0 ≤ r ∧ r < 16) :
    Calls Tryd.prog 46 #[.pointer (some ⟨d, 0, none⟩)] W fun e w' => ∃ v, e = .returned v ∧ Kd.R (Kd.int .i64) 3 w' W.heap.size (fun _ => True) v (wantL (L.flatMap (fun s => s.rs)) 16) ∧ DS w w' d pg M most n ps snaps cap D sm F ∧ Below W.heap.size W w' := by
  have hk := hm.keys h
  have hsz : Go.Maps.size D ≤ 1000 := by
    have h1 := hk.length_eq
    have h2 := hm.len
    obtain ⟨es, rfl⟩ := h.ds.dk.mp.isMap
    simp [Go.intKeys, Go.Maps.size] at h1 ⊢
    omega
  have hval : ∀ s ∈ L, ∀ j, j < s.hs.length → numOf ((F s.x).2.D.atKey (.int .i64 (hat s.hs j).f0) .nil) = s.rs.getD j 0 := fun s hs j hj => by
    rw [(hm.x s hs).2.2.rh.at_ j hj]; rfl
  refine (dkept h (fun x k => numOf ((F x).2.D.atKey (.int .i64 k) .nil)) (fun x hx k hkk => ?_) hsz (fun x hx => ?_)).mono ?_
  · obtain ⟨s, hs, rfl⟩ := hm.d x hx
    obtain ⟨j, hj, rfl⟩ := ((hm.x s hs).2.2.rh.has k).1 hkk
    rw [(hm.x s hs).2.2.rh.at_ j hj]; rfl
  · obtain ⟨s, hs, rfl⟩ := hm.d x hx
    have := (hm.x s hs).2.2
    rw [this.rh.size]; have := this.hl; omega
  · rintro e w' ⟨v, V, rfl, hrow, hp, h1, h2⟩
    refine ⟨v, rfl, ?_, h1, h2⟩
    have hp2 : V.Perm (L.flatMap (fun s => s.rs)) := by
      refine hp.trans ((hk.symm.flatMap_right _).trans ?_)
      rw [List.flatMap_map]
      exact flat_perm (fun s hs => (hm.x s hs).2.2.rh.perm (h.ds.at_ s.x (hm.x s hs).2.1).2.mp _ (hval s hs))
    rw [Go.mergeSort_of_perm_i hp2, want_eq (fun x hx => by
      obtain ⟨s, hs, hxs⟩ := List.mem_flatMap.1 hx
      exact hr s hs x hxs)] at hrow
    exact hrow
end Go.Proofs.YtphaaagcdjpceaaDoor
namespace Go.Proofs.YtphaaagcdjpceaaDoor
open Go.RowKit Go.Proofs.YtphaaagcdjpceaaDoorW.PrintWords
set_option linter.unusedVariables false
def restOf (D : DataW Unit) (m : Nat) : List Int := (plsOf D m).map (fun k => numOf (D.atKey (.int .i64 k) .nil))
theorem restOf_zero (D : DataW Unit) : restOf D 0 = [] := rfl
theorem restOf_succ (D : DataW Unit) (m : Nat) : restOf D (m + 1) = restOf D m ++ if Go.Maps.has D (.int .i64 (m : Int)) = true then [numOf (D.atKey (.int .i64 (m : Int)) .nil)] else [] := by
  unfold restOf
  rw [plsOf_succ, List.map_append]
  congr 1
  split <;> rfl
theorem dclose_all {w W : World} {d pg M : Nat} {most n : Int} {ps : List S108} {snaps : Int} {cap : Nat} {D : DataW Unit} {sm : Int} {F : Int → Nat × Sn} {c : Nat} {L : List Seat} (h : DS w W d pg M most n ps snaps cap D sm F) (hm : MT c D ps F L) (hc : c ≤ 1000) {j : Nat} (hj : j < L.length) {i : Nat} (hi : L[j].x = (i : Int)) (hil : i < ps.length) (hl : ps.length ≤ 1000) (hn0 : -1000000 ≤ n) (hn1 : n ≤ 1000000) {m : Nat} (hpl : L[j].ps.length ≤ m) :
    Calls Tryd.prog 43 #[.pointer (some ⟨d, 0, none⟩), .agg #[.int .i64 (i : Int), .int .i64 L[j].t]] W fun e w' => ∃ v, e = .returned (.tuple #[v, .nilIface]) ∧ Kd.R (Kd.int .i64) 3 w' W.heap.size (fun _ => True) v (restOf (F (i : Int)).2.D m) ∧ DS w w' d pg M most (n - 1) (freed ps i) snaps cap (D.del (.int .i64 (i : Int))) sm F ∧ Keeps DT W w' := by
  obtain ⟨hb, hI, ms⟩ := hm.x _ (List.getElem_mem hj)
  rw [hi] at hb hI ms
  have hmp : RM W (F (i : Int)).2.mb (F (i : Int)).2.cap (F (i : Int)).2.D := (h.ds.at_ _ hI).2.mp
  have hkeys := ms.rh.keys hmp (m := m) (fun a ha => by
    obtain ⟨k, e, hk, _, _⟩ := hasB_iff.1 (ms.hb.i a ha)
    omega)
  refine (dclose h i hil hl hb hI hn0 hn1 (by rw [ms.rh.size]; have := ms.hl; omega) (fun k => numOf ((F (i : Int)).2.D.atKey (.int .i64 k) .nil)) (fun k hk => ?_)).mono ?_
  · refine ⟨Go.intKeys_wf hmp Tryd.underlying3 k hk, ?_⟩
    have h1 : k ∈ plsOf (F (i : Int)).2.D m := by rw [← hkeys]; exact (List.mergeSort_perm _ _).mem_iff.2 hk
    unfold plsOf at h1
    obtain ⟨p, hp, rfl⟩ := List.mem_map.1 h1
    obtain ⟨a, ha, e⟩ := (ms.rh.has _).1 (List.mem_filter.1 hp).2
    rw [← e, ms.rh.at_ a ha, ms.rh.at_ a ha]; rfl
  · rintro e w' ⟨v, rfl, hr, h1, h2⟩
    rw [hkeys] at hr
    exact ⟨v, rfl, hr, h1, h2⟩
end Go.Proofs.YtphaaagcdjpceaaDoor
namespace Go.Proofs.YtphaaagcdjpceaaDoor
open Go.RowKit Go.Proofs.YtphaaagcdjpceaaDoorW.PrintWords
set_option linter.unusedVariables false
def kP : Kd Nat := Kd.scalar (fun b : Nat => Value.pointer (some ⟨b, 0, none⟩)) (fun _ => rfl)
abbrev PR (W : World) (base : Nat) (v : Value) (bs : List Nat) : Prop := Kd.R kP 94 W base (fun _ => True) v bs
theorem at_ptr {W : World} {A : Option Addr} {n : Nat} {xs : List Nat} (h : Kd.C kP W A n xs) (i : Nat) (hi : i < n) : ∃ ad, A = some ad ∧ W.cell? (ad.add i) = some (.pointer (some ⟨xs.getD i 0, 0, none⟩)) := by
  obtain ⟨ad, c, e, hl, hK, hc⟩ := Kd.C_get h 0 (i : Int) (by omega) (by omega)
  refine ⟨ad, e, ?_⟩
  have hk : c = [Value.pointer (some ⟨xs.getD i 0, 0, none⟩)] := hK
  have h1 := hc 0 (Value.pointer (some ⟨xs.getD i 0, 0, none⟩)) (by rw [hk]; rfl)
  have e2 : (i : Int).toNat * kP.sz + 0 = i := by show (i : Int).toNat * 1 + 0 = i; omega
  rw [e2] at h1
  exact h1
theorem info94 : (Tryd.prog.info? 94).map (fun i => (i.zero, i.size, i.bytes)) = some (some (.pointer none), 1, 8) := by kernel_rfl
theorem PR.keeps {W W1 : World} {base : Nat} {v : Value} {bs : List Nat} (h : PR W base v bs) (hk : Keeps DT W W1) : PR W1 base v bs := R_keeps h hk (fun q hq => by
  have : q = 94 := by simpa [kP, Kd.scalar] using hq
  subst this; decide)
theorem PR.below {W W1 : World} {base : Nat} {v : Value} {bs : List Nat} (h : PR W base v bs) (hb : Below W.heap.size W W1) : PR W1 base v bs := Kd.R_below h hb
end Go.Proofs.YtphaaagcdjpceaaDoor
namespace Go.Proofs.YtphaaagcdjpceaaDoor
open Go.RowKit
set_option linter.unusedVariables false
def cpart : List Nat → Code → Code
  | [], c => c
  | 0 :: ps, .seq a _ => cpart ps a
  | _ :: ps, .seq _ b => cpart ps b
  | 0 :: ps, .cond _ a _ => cpart ps a
  | _ :: ps, .cond _ _ b => cpart ps b
  | _ :: ps, .block _ c => cpart ps c
  | _ :: ps, .loop c => cpart ps c
  | _ :: ps, .scope c => cpart ps c
  | _ :: _, c => c
def nthV : List Value → Nat → Value
  | [], _ => undef
  | v :: _, 0 => v
  | _ :: l, k + 1 => nthV l k
def sl (a : Act) (k : Nat) : Value := nthV a.tmps.toList k
theorem nthV_map (u : Nat → Value) : ∀ (l : List Nat) (k : Nat) (h : k < l.length), nthV (l.map u) k = u l[k]
  | [], k, h => absurd h (Nat.not_lt_zero _)
  | a :: l, 0, h => rfl
  | a :: l, k + 1, h => nthV_map u l k (Nat.lt_of_succ_lt_succ h)
theorem nthV_ext : ∀ (l m : List Value), l.length = m.length → (∀ k, k < l.length → nthV l k = nthV m k) → l = m
  | [], [], _, _ => rfl
  | [], b :: m, h, _ => by simp at h
  | a :: l, [], h, _ => by simp at h
  | a :: l, b :: m, h, e => by
    rw [show a = b from e 0 (by simp), nthV_ext l m (by simpa using h) (fun k hk => e (k + 1) (by simpa using hk))]
def Does (c : Code) (R : Act → World → Prop) (a : Act) (w : World) : Prop := ∀ (J : Act → World → Prop) (Q : Exit → Act → World → Prop), (∀ a' w', R a' w' → J a' w') → (∀ a' w', Met J a' w' → Q .normal a' w') → c.wp Tryd.prog Q a w
def Stops (id : Nat) (c : Code) (R : Act → World → Prop) (a : Act) (w : World) : Prop := ∀ (J : Act → World → Prop) (Q : Exit → Act → World → Prop), (∀ a' w', R a' w' → J a' w') → (∀ a' w', Met J a' w' → Q (.exit id) a' w') → c.wp Tryd.prog Q a w
theorem Does.mono {c : Code} {R S : Act → World → Prop} {a : Act} {w : World} (h : Does c R a w) (hm : ∀ a' w', R a' w' → S a' w') : Does c S a w := fun J Q hJ hQ => h J Q (fun a' w' h => hJ _ _ (hm _ _ h)) hQ
theorem Does.seq {x y : Code} {R S : Act → World → Prop} {a : Act} {w : World} (h1 : Does x R a w) (h2 : ∀ a' w', R a' w' → Does y S a' w') : Does (.seq x y) S a w := fun J Q hJ hQ => wp_seq (h1 R _ (fun _ _ h => h) (fun a' w' h => h2 a' w' h J Q hJ hQ))
theorem Does.block {id : Nat} {c : Code} {S : Act → World → Prop} {a : Act} {w : World} (h : Does c S a w) : Does (.block id c) S a w := fun J Q hJ hQ => wp_block (h J _ hJ (fun a' w' h => hQ a' w' h))
theorem Stops.seq {id : Nat} {x y : Code} {S : Act → World → Prop} {a : Act} {w : World} (h : Stops id x S a w) : Stops id (.seq x y) S a w := fun J Q hJ hQ => wp_seq (h J _ hJ (fun a' w' h => hQ a' w' h))
theorem Does.loop {id : Nat} {c : Code} {S : Act → World → Prop} {a : Act} {w : World} (I : Nat → Act → World → Prop) (n0 : Nat) (h0 : I n0 a w)
    (hr : ∀ n a w, I n a w → Does c (fun a' w' => ∃ n', n' < n ∧ I n' a' w') a w ∨ Stops id c S a w) : Does (.block id (.loop c)) S a w := fun J Q hJ hQ =>
  wp_block (wp_loop_ghost I n0 h0 (fun n a w h => by
    rcases hr n a w h with h1 | h1
    · exact h1 _ _ (fun _ _ h => h) (fun a' w' h => h)
    · refine h1 J _ hJ (fun a' w' h => ?_)
      show Exit.inBlock id Q (.exit id) a' w'
      simp only [Exit.inBlock, if_true]
      exact hQ _ _ h))
def fr (u : Nat → Value) : Act := ⟨#[u 0, u 1, u 2, u 3, u 4, u 5, u 6, u 7, u 8, u 9, u 10, u 11, u 12, u 13, u 14, u 15, u 16, u 17, u 18, u 19, u 20, u 21, u 22, u 23, u 24, u 25, u 26, u 27, u 28, u 29, u 30, u 31, u 32, u 33, u 34, u 35, u 36, u 37, u 38, u 39, u 40, u 41, u 42, u 43, u 44, u 45, u 46, u 47, u 48, u 49, u 50, u 51, u 52, u 53, u 54, u 55, u 56, u 57, u 58, u 59, u 60, u 61, u 62, u 63, u 64, u 65, u 66, u 67, u 68, u 69, u 70, u 71, u 72, u 73, u 74, u 75, u 76, u 77, u 78, u 79, u 80, u 81, u 82, u 83, u 84, u 85, u 86, u 87, u 88, u 89, u 90, u 91, u 92, u 93, u 94, u 95, u 96, u 97, u 98, u 99, u 100, u 101, u 102, u 103, u 104, u 105, u 106, u 107, u 108, u 109, u 110, u 111, u 112, u 113, u 114, u 115, u 116, u 117, u 118, u 119, u 120, u 121, u 122, u 123, u 124, u 125, u 126, u 127, u 128, u 129, u 130, u 131, u 132, u 133, u 134, u 135, u 136, u 137, u 138, u 139, u 140, u 141, u 142, u 143, u 144, u 145, u 146, u 147, u 148, u 149, u 150, u 151, u 152, u 153, u 154, u 155, u 156, u 157, u 158, u 159, u 160, u 161, u 162, u 163, u 164, u 165, u 166, u 167, u 168, u 169, u 170, u 171, u 172, u 173, u 174, u 175, u 176, u 177, u 178, u 179, u 180, u 181, u 182, u 183, u 184, u 185, u 186, u 187, u 188, u 189, u 190, u 191, u 192, u 193, u 194, u 195, u 196, u 197, u 198, u 199, u 200, u 201, u 202, u 203, u 204, u 205, u 206, u 207, u 208, u 209, u 210, u 211, u 212, u 213, u 214, u 215, u 216, u 217, u 218, u 219, u 220, u 221, u 222, u 223, u 224, u 225, u 226, u 227, u 228, u 229, u 230, u 231, u 232, u 233, u 234, u 235, u 236, u 237, u 238, u 239, u 240, u 241, u 242, u 243, u 244, u 245, u 246, u 247, u 248, u 249, u 250, u 251, u 252, u 253, u 254, u 255, u 256, u 257, u 258, u 259, u 260, u 261, u 262, u 263, u 264, u 265, u 266, u 267, u 268, u 269, u 270, u 271, u 272, u 273, u 274, u 275, u 276, u 277, u 278, u 279, u 280, u 281, u 282, u 283, u 284, u 285, u 286, u 287, u 288, u 289, u 290, u 291, u 292, u 293, u 294, u 295, u 296, u 297, u 298, u 299, u 300, u 301, u 302, u 303, u 304, u 305, u 306, u 307, u 308, u 309, u 310, u 311, u 312, u 313, u 314, u 315, u 316, u 317, u 318, u 319, u 320, u 321, u 322, u 323, u 324, u 325, u 326, u 327, u 328, u 329, u 330, u 331, u 332, u 333, u 334, u 335, u 336, u 337, u 338, u 339, u 340, u 341, u 342, u 343, u 344, u 345, u 346, u 347, u 348, u 349, u 350, u 351, u 352, u 353, u 354, u 355, u 356, u 357, u 358, u 359, u 360, u 361, u 362, u 363, u 364, u 365, u 366, u 367, u 368, u 369, u 370, u 371, u 372, u 373, u 374, u 375, u 376, u 377, u 378, u 379, u 380, u 381, u 382, u 383, u 384, u 385, u 386, u 387, u 388, u 389, u 390, u 391, u 392, u 393, u 394, u 395, u 396, u 397, u 398, u 399, u 400, u 401, u 402, u 403, u 404, u 405, u 406, u 407, u 408, u 409, u 410, u 411, u 412, u 413, u 414, u 415, u 416, u 417, u 418, u 419, u 420, u 421, u 422, u 423, u 424, u 425, u 426, u 427, u 428, u 429, u 430, u 431, u 432, u 433, u 434, u 435, u 436, u 437, u 438, u 439, u 440, u 441, u 442, u 443, u 444, u 445, u 446, u 447, u 448, u 449, u 450, u 451, u 452, u 453, u 454, u 455, u 456, u 457, u 458, u 459, u 460, u 461, u 462, u 463, u 464, u 465, u 466, u 467, u 468, u 469, u 470, u 471, u 472, u 473, u 474, u 475, u 476, u 477, u 478, u 479, u 480, u 481, u 482, u 483, u 484, u 485, u 486, u 487, u 488, u 489, u 490, u 491, u 492, u 493, u 494, u 495, u 496, u 497, u 498, u 499, u 500, u 501, u 502, u 503, u 504, u 505, u 506, u 507, u 508, u 509, u 510, u 511, u 512, u 513, u 514, u 515, u 516, u 517, u 518, u 519, u 520, u 521, u 522, u 523, u 524, u 525, u 526, u 527, u 528, u 529, u 530, u 531, u 532, u 533, u 534, u 535, u 536, u 537, u 538, u 539, u 540, u 541, u 542, u 543, u 544, u 545, u 546, u 547], []⟩
structure FrA (a : Act) : Prop where
  n : a.tmps.toList.length = 548
  d : a.defers = []
set_option maxRecDepth 100000 in
theorem fr_list (u : Nat → Value) : (fr u).tmps.toList = (List.range 548).map u := by kernel_rfl
theorem sl_fr (u : Nat → Value) (k : Nat) (h : k < 548) : sl (fr u) k = u k := by
  unfold sl
  rw [fr_list, nthV_map u _ k (by rw [List.length_range]; exact h), List.getElem_range]
theorem FrA.open {a : Act} (h : FrA a) : ∃ u, a = fr u := by
  obtain ⟨tmps, df⟩ := a
  obtain ⟨h1, h2⟩ := h
  cases tmps with | mk l =>
  refine ⟨fun k => nthV l k, ?_⟩
  have e : l = (fr (fun k => nthV l k)).tmps.toList := by
    rw [fr_list]
    have h1' : l.length = 548 := h1
    refine nthV_ext _ _ (by rw [List.length_map, List.length_range]; exact h1') (fun k hk => ?_)
    rw [nthV_map _ _ k (by rw [List.length_range]; omega), List.getElem_range]
  have h2' : df = [] := h2
  rw [h2']
  show Act.mk ⟨l⟩ [] = Act.mk (fr (fun k => nthV l k)).tmps []
  congr 1
  exact congrArg Array.mk e
end Go.Proofs.YtphaaagcdjpceaaDoor
namespace Go.Proofs.YtphaaagcdjpceaaDoor
open Go.RowKit Go.Extern.Stop Go.Stop Go.Extern Go.Proofs.YtphaaagcdjpceaaDoorW.PrintWords Go.Proofs.YtphaaagcdjpceaaDoorW.PrintLast Go.Proofs.YtphaaagcdjpceaaDoorW.PrintMore
set_option linter.unusedVariables false
structure WM (w W : World) (d pg M rp N Ns : Nat) (n : Int) (ps qs : List S108) (snaps : Int) (cap : Nat) (D : DataW Unit) (F : Int → Nat × Sn) (L : List Seat) (va vo : Value) (os : List S40) : Prop where
  ds : DS w W d pg M (N : Int) n ps snaps cap D (Ns : Int) F
  pool : RP W w.heap.size rp qs N
  sl : SL W w.heap.size Ns L
  all : PR W w.heap.size va (L.map (fun s => s.bl))
  old : HR W w.heap.size vo os
  ap1 : ∀ s ∈ L, ∀ k, sfoot W s k → k ≠ rp ∧ some k ≠ bk W rp 0 ∧ some k ≠ bk W rp 1
  ap2 : ∀ s ∈ L, ∀ k, sfoot W s k → some k ≠ vo.ownBlock
  ap3 : ∀ s ∈ L, ∀ k, some k = s.rv.ownBlock → some k ≠ bk W s.rp 0
theorem map_set_bl {L : List Seat} {i : Nat} (hi : i < L.length) {s' : Seat} (hb : s'.bl = L[i].bl) : (L.set i s').map (fun s => s.bl) = L.map (fun s => s.bl) := by
  apply List.ext_getElem
  · simp
  · intro j h1 h2
    rw [List.getElem_map, List.getElem_map, List.getElem_set]
    split
    · rename_i e; subst e; exact hb
    · rfl
section
variable {w W W1 : World} {d pg M rp N Ns : Nat} {n : Int} {ps qs : List S108} {snaps : Int} {cap : Nat} {D : DataW Unit} {F : Int → Nat × Sn} {L : List Seat} {va vo : Value} {os : List S40}
theorem WM.size (h : WM w W d pg M rp N Ns n ps qs snaps cap D F L va vo os) : w.heap.size ≤ W.heap.size := h.ds.bl.size
theorem WM.keeps (h : WM w W d pg M rp N Ns n ps qs snaps cap D F L va vo os) (hk : Keeps DT W W1) {n2 : Int} {ps2 : List S108} {cap2 : Nat} {D2 : DataW Unit} {F2 : Int → Nat × Sn} (hd : DS w W1 d pg M (N : Int) n2 ps2 snaps cap2 D2 (Ns : Int) F2) : WM w W1 d pg M rp N Ns n2 ps2 qs snaps cap2 D2 F2 L va vo os := by
  have hrp : W1.heap[rp]? = W.heap[rp]? := by
    obtain ⟨cs, t, fr, hc, ht, _⟩ := h.pool.typed rp (.inl rfl)
    exact hk.2 _ _ _ _ hc (by rcases ht with rfl | rfl | rfl <;> decide)
  have hsf : ∀ s ∈ L, ∀ k, sfoot W1 s k → sfoot W s k := fun s hs k hf => by
    obtain ⟨cs, t, fr, hc, ht, _⟩ := (h.sl.all s hs).typed _ (.inr (.inl (.inl rfl)))
    exact (sfoot_same (hk.2 _ _ _ _ hc (by rcases ht with rfl | rfl | rfl | rfl | rfl <;> decide)) k).1 hf
  refine ⟨hd, h.pool.keeps hk ⟨by decide, by decide, by decide⟩, h.sl.keeps hk, h.all.keeps hk, R_keeps h.old hk (fun q hq => by rw [E40 q hq]; decide), fun s hs k hf => ?_, fun s hs k hf => h.ap2 s hs k (hsf s hs k hf), fun s hs k hk2 => ?_⟩
  · rw [bk_same hrp, bk_same hrp]
    exact h.ap1 s hs k (hsf s hs k hf)
  · obtain ⟨cs, t, fr, hc, ht, _⟩ := (h.sl.all s hs).typed _ (.inr (.inl (.inl rfl)))
    rw [bk_same (hk.2 _ _ _ _ hc (by rcases ht with rfl | rfl | rfl | rfl | rfl <;> decide))]
    exact h.ap3 s hs k hk2
theorem WM.below (h : WM w W d pg M rp N Ns n ps qs snaps cap D F L va vo os) (hb : Below W.heap.size W W1) : WM w W1 d pg M rp N Ns n ps qs snaps cap D F L va vo os := h.keeps (Keeps.below hb) (h.ds.below hb)
theorem WM.seat (h : WM w W d pg M rp N Ns n ps qs snaps cap D F L va vo os) {i : Nat} (hi : i < L.length) {s' : Seat} (hs' : SE W1 w.heap.size Ns s') (hbl : s'.bl = L[i].bl) (hft : ∀ k, sfoot W1 s' k → sfoot W L[i] k ∨ W.heap.size ≤ k) (ho : ∀ k, k < W.heap.size → ¬ sfoot W L[i] k → W1.heap[k]? = W.heap[k]?) (hb : Below w.heap.size w W1) (h3 : ∀ k, some k = s'.rv.ownBlock → some k ≠ bk W1 s'.rp 0) :
    WM w W1 d pg M rp N Ns n ps qs snaps cap D F (L.set i s') va vo os := by
  have hSE := h.sl.all _ (List.getElem_mem hi)
  have hrp : ∀ k, (k = rp ∨ some k = bk W rp 0 ∨ some k = bk W rp 1) → W1.heap[k]? = W.heap[k]? := fun k hk => by
    obtain ⟨cs, t, fr, hc, _⟩ := h.pool.typed k hk
    refine ho k (blk_lt hc) (fun hf => ?_)
    have := h.ap1 _ (List.getElem_mem hi) k hf
    rcases hk with e | e | e
    · exact this.1 e
    · exact this.2.1 e
    · exact this.2.2 e
  have hsf : ∀ j (hj : j < L.length), j ≠ i → ∀ k, sfoot W1 L[j] k → sfoot W L[j] k := fun j hj hne k hf => by
    have hb := (h.sl.all _ (List.getElem_mem hj)).lt L[j].rp (.inr (.inl (.inl rfl)))
    refine (sfoot_same (ho _ hb (fun hf2 => ?_)) k).1 hf
    rcases Nat.lt_or_gt_of_ne hne with h' | h'
    · exact List.pairwise_iff_getElem.1 h.sl.ap j i hj hi h' _ (.inr (.inl (.inl rfl))) hf2
    · exact List.pairwise_iff_getElem.1 h.sl.ap i j hi hj h' _ hf2 (.inr (.inl (.inl rfl)))
  refine ⟨h.ds.seat hSE ho hb, h.pool.same hrp, h.sl.turn hi hs' hft ho, ?_, ?_, fun s hs k hk => ?_, fun s hs k hk => ?_, fun s hs k hk => ?_⟩
  · rw [map_set_bl hi hbl]
    refine R_same h.all rfl (fun k hk => ?_)
    obtain ⟨cells, hc⟩ := Kd.R_typed h.all k hk.symm
    refine ho k (blk_lt hc) (fun hf => ?_)
    obtain ⟨cs, t, fr, hc2, ht, _⟩ := hSE.typed k hf
    rw [hc] at hc2; injection hc2 with hc2; injection hc2 with _ hc2 _
    subst hc2
    rcases ht with e | e | e | e | e <;> exact absurd e (by decide)
  · refine R_same h.old rfl (fun k hk => ?_)
    exact ho k (Kd.R_lt h.old k hk.symm) (fun hf => h.ap2 _ (List.getElem_mem hi) k hf hk)
  · rw [bk_same (hrp rp (.inl rfl)), bk_same (hrp rp (.inl rfl))]
    obtain ⟨j, hj, rfl⟩ := List.mem_iff_getElem.1 hs
    rw [List.length_set] at hj
    rw [List.getElem_set] at hk
    split at hk
    · rename_i e
      subst e
      rcases hft k hk with h1 | h1
      · exact h.ap1 _ (List.getElem_mem hi) k h1
      · refine ⟨fun e => ?_, fun e => ?_, fun e => ?_⟩
        · subst e
          obtain ⟨cs, t, fr, hc, _⟩ := h.pool.typed k (.inl rfl)
          have := blk_lt hc; omega
        · obtain ⟨cs, t, fr, hc, _⟩ := h.pool.typed k (.inr (.inl e))
          have := blk_lt hc; omega
        · obtain ⟨cs, t, fr, hc, _⟩ := h.pool.typed k (.inr (.inr e))
          have := blk_lt hc; omega
    · rename_i e
      exact h.ap1 _ (List.getElem_mem hj) k (hsf j hj (fun e2 => e e2.symm) k hk)
  · obtain ⟨j, hj, rfl⟩ := List.mem_iff_getElem.1 hs
    rw [List.length_set] at hj
    rw [List.getElem_set] at hk
    split at hk
    · rename_i e
      subst e
      rcases hft k hk with h1 | h1
      · exact h.ap2 _ (List.getElem_mem hi) k h1
      · intro e; have := Kd.R_lt h.old k e.symm; omega
    · rename_i e
      exact h.ap2 _ (List.getElem_mem hj) k (hsf j hj (fun e2 => e e2.symm) k hk)
  · obtain ⟨j, hj, rfl⟩ := List.mem_iff_getElem.1 hs
    rw [List.length_set] at hj
    rw [List.getElem_set] at hk ⊢
    split at hk
    · rename_i e
      rw [if_pos e]
      exact h3 k hk
    · rename_i e
      rw [if_neg e]
      have hb := (h.sl.all _ (List.getElem_mem hj)).lt L[j].rp (.inr (.inl (.inl rfl)))
      rw [bk_same (ho _ hb (fun hf2 => by
        rcases Nat.lt_or_gt_of_ne e with h' | h'
        · exact List.pairwise_iff_getElem.1 h.sl.ap i j hi hj h' _ hf2 (.inr (.inl (.inl rfl)))
        · exact List.pairwise_iff_getElem.1 h.sl.ap j i hj hi h' _ (.inr (.inl (.inl rfl))) hf2))]
      exact h.ap3 _ (List.getElem_mem hj) k hk
theorem WM.rpool (h : WM w W d pg M rp N Ns n ps qs snaps cap D F L va vo os) {qs2 : List S108} (hr : RP W1 w.heap.size rp qs2 N) (hf : Fe w.heap.size rp W W1) : WM w W1 d pg M rp N Ns n ps qs2 snaps cap D F L va vo os := by
  have hst : ∀ s ∈ L, ∀ k, sfoot W s k → W1.heap[k]? = W.heap[k]? := fun s hs k hk => by
    have := h.ap1 s hs k hk
    exact hf.blk k ((h.sl.all s hs).lt k hk) this.2.1 this.2.2
  have hsf : ∀ s ∈ L, ∀ k, sfoot W1 s k → sfoot W s k := fun s hs k hk => (sfoot_same (hst s hs _ (.inr (.inl (.inl rfl)))) k).1 hk
  refine ⟨h.ds.fe h.pool hf, hr, h.sl.same hst, ?_, h.old.keepsT hf.fd.2 (by decide), fun s hs k hk => ?_, fun s hs k hk => h.ap2 s hs k (hsf s hs k hk), fun s hs k hk => ?_⟩
  · exact R_keeps h.all hf.fd.2 (fun q hq => by
      have : q = 94 := by simpa [kP, Kd.scalar] using hq
      subst this; decide)
  · rw [hf.b0, hf.b1]
    exact h.ap1 s hs k (hsf s hs k hk)
  · rw [bk_same (hst s hs _ (.inr (.inl (.inl rfl))))]
    exact h.ap3 s hs k hk
theorem WM.spool (h : WM w W d pg M rp N Ns n ps qs snaps cap D F L va vo os) {i : Nat} (hi : i < L.length) {qs2 : List S108} (hr : RP W1 w.heap.size L[i].rp qs2 Ns) (hf : Fe w.heap.size L[i].rp W W1) : WM w W1 d pg M rp N Ns n ps qs snaps cap D F (L.set i { L[i] with ps := qs2 }) va vo os := by
  have hSE := h.sl.all _ (List.getElem_mem hi)
  have hrows : W1.heap[L[i].rp]? = W.heap[L[i].rp]? := hf.blk _ hSE.rp.rlt hSE.rp.ne.1 hSE.rp.ne.2
  have e0 := hf.b0
  have e1 := hf.b1
  refine h.seat hi (s' := { L[i] with ps := qs2 }) ⟨(hf.fd.2.2 _ _ _ _ hSE.hd (by decide)).trans hSE.hd, hr, HR.keepsT hSE.hr hf.fd.2 (by decide), ?_, hSE.lo⟩ rfl (fun k hk => .inl ?_) (fun k hk hn => hf.blk k hk (fun e => hn (.inr (.inl (.inr (.inl e))))) (fun e => hn (.inr (.inl (.inr (.inr e)))))) (h.ds.bl.trans hf.fd.1) (fun k hk => by
    show some k ≠ bk W1 L[i].rp 0
    rw [e0]; exact h.ap3 _ (List.getElem_mem hi) k hk)
  · refine R_same hSE.rr rfl (fun k hk => ?_)
    refine hf.blk k (Kd.R_lt hSE.rr k hk.symm) (h.ap3 _ (List.getElem_mem hi) k hk) (fun e => ?_)
    obtain ⟨cells, hc⟩ := Kd.R_typed hSE.rr k hk.symm
    obtain ⟨h0, A1, c1, A2, c2, ts, bs, h1, h2, h3, _⟩ := hSE.rp
    have e1 : bk W L[i].rp 1 = (Value.slice A2 Ns c2).ownBlock := by unfold bk; rw [(blk_cell h1 1).trans (show _ = some (Value.slice A2 Ns c2) from rfl)]; rfl
    rw [e1] at e
    obtain ⟨cells2, hc2⟩ := Kd.R_typed h3 k e.symm
    rw [hc] at hc2; injection hc2 with hc2; injection hc2 with _ hc2 _
    exact absurd hc2 (by decide)
  · unfold sfoot at hk ⊢
    rw [e0, e1] at hk
    exact hk
end
end Go.Proofs.YtphaaagcdjpceaaDoor
namespace Go.Proofs.YtphaaagcdjpceaaDoor
open Go.RowKit Go.Extern.Stop Go.Stop Go.Extern Go.Proofs.YtphaaagcdjpceaaDoorW.PrintWords Go.Proofs.YtphaaagcdjpceaaDoorW.PrintLast Go.Proofs.YtphaaagcdjpceaaDoorW.PrintMore
set_option linter.unusedVariables false
def preR (R : List (List Int)) (i k : Nat) : List Int := (R.take i).flatten ++ (R.getD i []).take k
theorem preR_zero (R : List (List Int)) : preR R 0 0 = [] := by simp [preR]
theorem preR_k (R : List (List Int)) (i k : Nat) (h : k < (R.getD i []).length) : preR R i (k + 1) = preR R i k ++ [(R.getD i []).getD k 0] := by
  unfold preR
  rw [List.append_assoc, take_next h]
theorem preR_i (R : List (List Int)) (i : Nat) (h : i < R.length) : preR R i (R.getD i []).length = preR R (i + 1) 0 := by
  unfold preR
  rw [List.take_length, List.take_zero, List.append_nil, List.take_add_one, List.flatten_append, List.getD_eq_getElem?_getD, List.getElem?_eq_getElem h]
  simp
theorem preR_all (R : List (List Int)) : preR R R.length 0 = R.flatten := by simp [preR]
def cntR (R : List (List Int)) (v i k : Nat) : List Int := wantL R.flatten v ++ (preR R i k).filter (fun x => decide (x = (v : Int)))
theorem cntR_zero (R : List (List Int)) (v : Nat) : cntR R v 0 0 = wantL R.flatten v := by unfold cntR; rw [preR_zero]; simp
theorem cntR_v (R : List (List Int)) (v : Nat) : cntR R v R.length 0 = wantL R.flatten (v + 1) := by unfold cntR; rw [preR_all, wantL_succ]
theorem cntR_yes (R : List (List Int)) (v i k : Nat) (h : k < (R.getD i []).length) (he : (R.getD i []).getD k 0 = (v : Int)) : cntR R v i (k + 1) = cntR R v i k ++ [(v : Int)] := by
  unfold cntR; rw [preR_k R i k h, List.filter_append, he]; simp
theorem cntR_no (R : List (List Int)) (v i k : Nat) (h : k < (R.getD i []).length) (he : (R.getD i []).getD k 0 ≠ (v : Int)) : cntR R v i (k + 1) = cntR R v i k := by
  unfold cntR; rw [preR_k R i k h, List.filter_append, List.filter_cons, if_neg (by rw [decide_eq_true_eq]; exact he)]; simp
theorem cntR_i (R : List (List Int)) (v i : Nat) (h : i < R.length) : cntR R v i (R.getD i []).length = cntR R v (i + 1) 0 := by unfold cntR; rw [preR_i R i h]
theorem wantL_len (X : List Int) (m : Nat) : (wantL X m).length ≤ X.length := by
  rw [(wantL_perm X m).length_eq]; exact List.length_filter_le _ _
theorem flat_len {R : List (List Int)} {b : Nat} (h : ∀ r ∈ R, r.length ≤ b) : R.flatten.length ≤ R.length * b := by
  induction R with
  | nil => simp
  | cons a r ih =>
    have h1 := h a (by simp)
    have h2 := ih (fun r hr => h r (by simp [hr]))
    simp only [List.flatten_cons, List.length_append, List.length_cons, Nat.add_mul, Nat.one_mul]
    omega
theorem cntR_len (R : List (List Int)) (v i k : Nat) {b : Nat} (h : ∀ r ∈ R, r.length ≤ b) (hl : R.length ≤ b) : (cntR R v i k).length ≤ b * b + (b * b + b) := by
  unfold cntR
  rw [List.length_append]
  have h1 := wantL_len R.flatten v
  have h2 := flat_len h
  have h3 : R.length * b ≤ b * b := Nat.mul_le_mul_right b hl
  have h4 := List.length_filter_le (fun x => decide (x = (v : Int))) (preR R i k)
  have h5 : (preR R i k).length ≤ b * b + b := by
    unfold preR
    rw [List.length_append]
    have a1 : ((R.take i).flatten).length ≤ (R.take i).length * b := flat_len (fun r hr => h r (List.mem_of_mem_take hr))
    have a2 : (R.take i).length * b ≤ b * b := Nat.mul_le_mul_right b (Nat.le_trans (by rw [List.length_take]; exact Nat.min_le_right _ _) hl)
    have a3 : ((R.getD i []).take k).length ≤ b := by
      rw [List.getD_eq_getElem?_getD]
      cases hh : R[i]? with
      | none => simp
      | some r =>
        have := h r (List.mem_of_getElem? hh)
        simp only [Option.getD_some, List.length_take]
        omega
    omega
  omega
theorem rsAt {L : List Seat} {i : Nat} (hi : i < L.length) : (L.map (fun s => s.rs)).getD i [] = L[i].rs := by
  rw [List.getD_eq_getElem?_getD, List.getElem?_map, List.getElem?_eq_getElem hi]; rfl
theorem blAt {L : List Seat} {i : Nat} (hi : i < L.length) : (L.map (fun s => s.bl)).getD i 0 = L[i].bl := by
  rw [List.getD_eq_getElem?_getD, List.getElem?_map, List.getElem?_eq_getElem hi]; rfl
section
variable {w W W1 : World} {d pg M rp N Ns : Nat} {n : Int} {ps qs : List S108} {snaps : Int} {cap : Nat} {D : DataW Unit} {F : Int → Nat × Sn} {L : List Seat} {va vo : Value} {os : List S40}
set_option maxHeartbeats 4000000 in
set_option maxRecDepth 100000 in
theorem kept_true (h : WM w W d pg M rp N Ns n ps qs snaps cap D F L va vo os) {c : Nat} (hm : MT c D ps F L) (hc : c ≤ 1000) (hr : ∀ s ∈ L, ∀ r ∈ s.rs, 0 ≤ r ∧ r < 16) :
    Calls Tryd.prog 51 #[.pointer (some ⟨d, 0, none⟩), va] W fun e w' => e = .returned (.bool true) ∧ Below W.heap.size W w' := by
  have HM := Lib.hid h
  have HT := Lib.hid hm
  have HC := Lib.hid hc
  have HR := Lib.hid hr
  obtain ⟨A, ca, hva⟩ := Kd.R_slice h.all
  subst hva
  rw [List.length_map]
  have HRL := Lib.hid (show ∀ r ∈ L.map (fun s => s.rs), r.length ≤ 1000 from fun r hr => by
    obtain ⟨s, hs, rfl⟩ := List.mem_map.1 hr
    have := (hm.x s hs).2.2
    have h1 := this.hl
    have h2 := this.rh.len
    show s.rs.length ≤ 1000
    omega)
  have HLL := Lib.hid (show L.length ≤ 1000 by have := hm.len; omega)
  have HFL := Lib.hid (show (L.map (fun s => s.rs)).flatten = L.flatMap (fun s => s.rs) from (List.flatMap_def).symm)
  have HAL := Lib.hid h.all
  clear h hm hc hr
  obtain ⟨R, hR⟩ : ∃ R, L.map (fun s => s.rs) = R := ⟨_, rfl⟩
  have HRE := Lib.hid hR
  have HRN := Lib.hid (show R.length = L.length by rw [← hR, List.length_map])
  rw [hR] at HRL HFL
  clear hR
  obtain ⟨m, hm⟩ : ∃ m, L.length = m := ⟨_, rfl⟩
  have HMN := Lib.hid hm
  rw [hm] at HLL HRN ⊢
  have hAC : Kd.C kP W A m (L.map (fun s => s.bl)) := by
    have := (Kd.R_reads' HAL.out).2.2
    rwa [List.length_map, hm] at this
  have HAC := Lib.hid hAC
  clear hm hAC HAL
  go_enter Tryd.func51, Tryd.ntmps51
  go_wp2_with (fail)
  go_loopg [5, 6] 16 (fun gk v5 v6 wr => ∃ (v : Nat), v6 = .int .i64 (v : Int) ∧ v ≤ 16 ∧ 16 - v ≤ gk ∧ Hid (Kd.R (Kd.int .i64) 3 wr W.heap.size (fun _ => True) v5 (cntR R v 0 0)) ∧ Hid (Below W.heap.size W wr))
  case atStart => exact ⟨0, rfl, by omega, by omega, Lib.hid (by rw [cntR_zero]; exact Kd.R_nil _ _ _ _ _), Lib.hid (Below.refl _ _)⟩
  case round =>
    obtain ⟨v, rfl, hv, hvk, HO, HB⟩ := hrel
    by_cases hv16 : v < 16
    · have cv : (v : Int) < 16 := by omega
      have HV := Lib.hid (And.intro hv hvk)
      clear hv hvk
      obtain ⟨wo, hwo⟩ : ∃ wo : World, wo = wr := ⟨_, rfl⟩
      have HWO := Lib.hid hwo
      clear hwo
      go_wp2_with (fail)
      go_loopg [5, 7] m (fun gk v5 v7 wr => ∃ (i : Nat), v7 = .int .i64 (i : Int) ∧ i ≤ m ∧ m - i ≤ gk ∧ Hid (Kd.R (Kd.int .i64) 3 wr W.heap.size (fun _ => True) v5 (cntR R v i 0)) ∧ Hid (Below W.heap.size W wr))
      case atStart => exact ⟨0, rfl, by omega, by omega, HO, HB⟩
      case round =>
        clear HO HB
        obtain ⟨i, rfl, hi, hik, HO, HB⟩ := hrel
        by_cases him : i < m
        · have ci : (i : Int) < (m : Int) := by omega
          have ci0 : (0 : Int) ≤ (i : Int) := by omega
          have ci9 : (i : Int) ≤ 1000 := by have := HLL.out; omega
          have hiL : i < L.length := by rw [HMN.out]; exact him
          obtain ⟨ad, rfl, had⟩ := at_ptr HAC.out i him
          rw [blAt hiL] at had
          have hSE := HM.out.sl.all _ (List.getElem_mem hiL)
          have hrs : R.getD i [] = L[i].rs := by rw [← HRE.out]; exact rsAt hiL
          obtain ⟨bl, hbl⟩ : ∃ bl, L[i].bl = bl := ⟨_, rfl⟩
          obtain ⟨Ar, cr, hrv⟩ := Kd.R_slice hSE.rr
          obtain ⟨ln, hln⟩ : ∃ ln, L[i].rs.length = ln := ⟨_, rfl⟩
          have hrow := Kd.R_reads' (show Kd.R (Kd.int .i64) 3 W w.heap.size (fun _ => True) (.slice Ar L[i].rs.length cr) L[i].rs from by rw [← hrv]; exact hSE.rr)
          have HROW := Lib.hid (show Kd.C (Kd.int .i64) W Ar ln L[i].rs by rw [← hln]; exact hrow.2.2)
          have hcell := (blk_cell hSE.hd 6).trans (show _ = some L[i].rv from rfl)
          rw [hbl] at had hcell
          rw [hrv, hln] at hcell
          have HCELL := Lib.hid hcell
          have HAD := Lib.hid had
          have HRS := Lib.hid hrs
          have HLN := Lib.hid (show (R.getD i []).length = ln by rw [hrs]; exact hln)
          have HIM := Lib.hid (And.intro hi (And.intro hik hiL))
          have HL1 := Lib.hid (show ln ≤ 1000 by
            rw [← hln]
            have := (HT.out.x _ (List.getElem_mem hiL)).2.2
            have h1 := this.hl
            have h2 := this.rh.len
            have := HC.out
            omega)
          clear hi hik hSE hrs hbl hrv hln hrow hcell had
          go_wp2_with (fail)
          go_loopg [5, 8] ln (fun gk v5 v8 wr => ∃ (k : Nat), v8 = .int .i64 (k : Int) ∧ k ≤ ln ∧ ln - k ≤ gk ∧ Hid (Kd.R (Kd.int .i64) 3 wr W.heap.size (fun _ => True) v5 (cntR R v i k)) ∧ Hid (Below W.heap.size W wr))
          case atStart => exact ⟨0, rfl, by omega, by omega, HO, HB⟩
          case round =>
            clear HO HB
            obtain ⟨k, rfl, hk, hkk, HO, HB⟩ := hrel
            have had := (HB.out.cell (cell_lt HAD.out)).trans HAD.out
            have hcell := (HB.out.cell (cell_lt HCELL.out)).trans HCELL.out
            by_cases hkl : k < ln
            · have ck : (k : Int) < (ln : Int) := by omega
              have ck0 : (0 : Int) ≤ (k : Int) := by omega
              have ck9 : (k : Int) ≤ 1000 := by have := HL1.out; omega
              obtain ⟨ar, rfl, hx⟩ := Kd.at_int HROW.out (k : Int) (by omega) (by omega)
              rw [Int.toNat_natCast] at hx
              have hx2 := (HB.out.cell (cell_lt hx)).trans hx
              obtain ⟨r, hr⟩ : ∃ r, rd L[i].rs (k : Int) = r := ⟨_, rfl⟩
              have hr2 : (R.getD i []).getD k 0 = r := by rw [HRS.out, ← hr]; simp [rd]
              rw [hr] at hx2
              have HR2 := Lib.hid hr2
              have HKL := Lib.hid (And.intro hk (And.intro hkk hkl))
              clear hk hkk hx hr hr2
              obtain ⟨Aw, cw, hvw⟩ := Kd.R_slice HO.out
              have HCL := Lib.hid (cntR_len R v i k HRL.out (by have := HRN.out; have := HLL.out; omega))
              by_cases hrv : r = (v : Int)
              · have hN := cntR_yes R v i k (by rw [HLN.out]; exact hkl) (by rw [HR2.out]; exact hrv)
                have HN := Lib.hid hN
                clear hN
                subst hrv
                subst hvw
                generalize cntR R v i k = X at *
                go_wp2_with (((with_reducible refine gate_builtin (b := .append) (xs := #[.tmp 43, .tmp 45]) rfl ?_); at_builtin; refine Kd.R_append (Kd.int .i64) (w0 := W) W.heap.size rfl (.tmp 43) (.tmp 45) 35 3 (.int .i64 0) 8 rfl Tryd.underlying35 info3 rfl (by decide) (by decide) (.slice Aw X.length cw) X (v : Int) [.int .i64 (v : Int)] (fun _ => True) (fun _ => False) rfl ?aX ?aP (fun _ hk => hk.elim) ?aF ?aO ?aB ?aS ?aL ?_; (case aX => first | rfl | (go_simp; done) | (go_simp; rfl)); (case aP => exact rfl); (case aB => exact HB.out); (case aF => exact (fun _ _ => trivial)); (case aO => exact HO.out); (case aS => exact HB.out.size); (case aL => (have := HCL.out; omega)); intro v8 w8 ho hb hg hat; have HO9 := Lib.hid ho; have HB9 := Lib.hid hb; clear ho hb hg hat))
                go_roundg (ln - (k + 1))
                case measure => have := HKL.out.2.1; have := HKL.out.2.2; omega
                case rel => exact ⟨k + 1, by simp, by have := HKL.out.2.2; omega, by omega, Lib.hid (by rw [HN.out]; exact HO9.out), HB9⟩
              · have hN := cntR_no R v i k (by rw [HLN.out]; exact hkl) (by rw [HR2.out]; exact hrv)
                have HN := Lib.hid hN
                clear hN
                have hrv2 : (r == (v : Int)) = false := by simpa using hrv
                clear hrv hvw
                go_wp2_with (fail)
                go_roundg (ln - (k + 1))
                case measure => have := HKL.out.2.1; have := HKL.out.2.2; omega
                case rel => exact ⟨k + 1, by simp, by have := HKL.out.2.2; omega, by omega, Lib.hid (by rw [HN.out]; exact HO.out), HB⟩
            · obtain rfl : k = ln := by omega
              clear hkl hk hkk
              have HN := Lib.hid (cntR_i R v i (by rw [HRN.out]; exact him))
              go_wp2_with (fail)
              go_roundg (m - (i + 1))
              case measure => have := HIM.out.2.1; have := HIM.out.1; omega
              case rel => exact ⟨i + 1, by simp, by omega, by omega, Lib.hid (by rw [← HN.out, HLN.out]; exact HO.out), HB⟩
        · obtain rfl : i = m := by omega
          clear him hi hik
          have HN := Lib.hid (cntR_v R v)
          go_wp2_with (fail)
          go_roundg (16 - (v + 1))
          case measure => have := HV.out.2; omega
          case rel => exact ⟨v + 1, by simp, by omega, by omega, Lib.hid (by rw [cntR_zero, ← HN.out, HRN.out]; exact HO.out), HB⟩
    · obtain rfl : v = 16 := by omega
      clear hv16 hv hvk
      go_wp2_with (fail)
      go_at_call 46
      (with_reducible refine (dkept_all (HM.out.ds.below HB.out) HT.out HC.out HR.out).mono ?_)
      rintro e w2 ⟨v2, rfl, hr2, _, hb2⟩
      obtain ⟨A2, c2, rfl⟩ := Kd.R_slice hr2
      obtain ⟨Aw, cw, hvw⟩ := Kd.R_slice HO.out
      subst hvw
      have HO2 := Lib.hid (Kd.R_below HO.out hb2)
      have HR2 := Lib.hid hr2
      have HB2 := Lib.hid (below_step HB.out hb2)
      have HLX := Lib.hid (cntR_len R 16 0 0 HRL.out (by have := HRN.out; have := HLL.out; omega))
      clear hr2 hb2 HO HB
      rw [cntR_zero, HFL.out] at HO2 HLX ⊢
      generalize wantL (L.flatMap (fun s => s.rs)) 16 = X at *
      go_wp2_with (fail)
      go_at_call 44
      (with_reducible refine (same_yes A2 Aw c2 cw X _ (Kd.R_reads' HR2.out).2.2 (Kd.R_reads' HO2.out).2.2 (by have := HLX.out; omega)).mono ?_)
      rintro e w3 ⟨rfl, hb3⟩
      have HB3 := Lib.hid (below_step HB2.out hb3)
      clear hb3
      go_wp2
      go_ret
      exact ⟨rfl, HB3.out⟩
end
end Go.Proofs.YtphaaagcdjpceaaDoor
namespace Go.Proofs.YtphaaagcdjpceaaDoor
open Go.RowKit Go.Extern.Stop Go.Stop Go.Extern Go.Proofs.YtphaaagcdjpceaaDoorW.PrintWords Go.Proofs.YtphaaagcdjpceaaDoorW.PrintLast Go.Proofs.YtphaaagcdjpceaaDoorW.PrintMore
set_option linter.unusedVariables false
noncomputable def body11 : Code := (Tryd.f11.body).getD .skip
noncomputable def cD : Code := cpart [1, 0, 1, 0, 0, 1, 0, 0, 1, 1, 1, 1, 0, 1, 0, 0, 1, 0, 0] body11
structure FD (a : Act) (v0 v1 : Value) (A : Option Addr) (len cap : Nat) (B : Option Addr) (lenB capB : Nat) (v9 : Value) (d rp : Nat) : Prop where
  ok : FrA a
  s0 : sl a 0 = v0
  s1 : sl a 1 = v1
  s2 : sl a 2 = .slice A len cap
  s3 : sl a 3 = .slice B lenB capB
  s9 : sl a 9 = v9
  s10 : sl a 10 = .pointer (some ⟨d, 0, none⟩)
  s11 : sl a 11 = .pointer (some ⟨rp, 0, none⟩)
structure HS (W0 W : World) (hb sb : Nat) (p t p2 t2 : Int) : Prop where
  bl : Below W0.heap.size W0 W
  hh : Hn W hb p t
  ss : Hn W sb p2 t2
  l1 : W0.heap.size ≤ hb
  l2 : W0.heap.size ≤ sb
  ne : hb ≠ sb
  pr : -9223372036854775808 ≤ p ∧ p ≤ 9223372036854775807
theorem HS.below {W0 W W1 : World} {hb sb : Nat} {p t p2 t2 : Int} (h : HS W0 W hb sb p t p2 t2) (hw : Below W.heap.size W W1) : HS W0 W1 hb sb p t p2 t2 := ⟨below_step h.bl hw, blk_below h.hh hw, blk_below h.ss hw, h.l1, h.l2, h.ne, h.pr⟩
theorem HS.setH {W0 W : World} {hb sb : Nat} {p t p2 t2 : Int} (h : HS W0 W hb sb p t p2 t2) (p1 t1 : Int) (hp : -9223372036854775808 ≤ p1 ∧ p1 ≤ 9223372036854775807) : HS W0 ((W.setCell ⟨hb, 0, none⟩ (.int .i64 p1)).setCell ⟨hb, 1, none⟩ (.int .i64 t1)) hb sb p1 t1 p2 t2 :=
  ⟨(h.bl.setCell (p := ⟨hb, 0, none⟩) h.l1 _).setCell (p := ⟨hb, 1, none⟩) h.l1 _, hn_set2 h.hh, ((Below.heap_setCell _ ⟨hb, 1, none⟩ _ sb h.ne.symm).trans (Below.heap_setCell W ⟨hb, 0, none⟩ _ sb h.ne.symm)).trans h.ss, h.l1, h.l2, h.ne, hp⟩
theorem HS.setS {W0 W : World} {hb sb : Nat} {p t p2 t2 : Int} (h : HS W0 W hb sb p t p2 t2) (p1 t1 : Int) : HS W0 ((W.setCell ⟨sb, 0, none⟩ (.int .i64 p1)).setCell ⟨sb, 1, none⟩ (.int .i64 t1)) hb sb p t p1 t1 :=
  ⟨(h.bl.setCell (p := ⟨sb, 0, none⟩) h.l2 _).setCell (p := ⟨sb, 1, none⟩) h.l2 _, ((Below.heap_setCell _ ⟨sb, 1, none⟩ _ hb h.ne).trans (Below.heap_setCell W ⟨sb, 0, none⟩ _ hb h.ne)).trans h.hh, hn_set2 h.ss, h.l1, h.l2, h.ne, h.pr⟩
theorem eq40r (a b c d : Int) (W : World) : (Op.equalIn 10000 40 (.agg #[.int .i64 a, .int .i64 b]) (.agg #[.int .i64 c, .int .i64 d])).run Tryd.prog W = .ok (a == c && b == d) W := by
  have h : ∀ k : Nat, (Op.equalIn (k + 2) 40 (.agg #[.int .i64 a, .int .i64 b]) (.agg #[.int .i64 c, .int .i64 d])).run Tryd.prog W = .ok (a == c && b == d) W := fun k => by
    have p0 : (part 3 #[.int .i64 a, .int .i64 b] 0).run Tryd.prog W = .ok (.int .i64 a) W := by go_simp
    have p1 : (part 3 #[.int .i64 a, .int .i64 b] 1).run Tryd.prog W = .ok (.int .i64 b) W := by go_simp
    have q0 : (part 3 #[.int .i64 c, .int .i64 d] 0).run Tryd.prog W = .ok (.int .i64 c) W := by go_simp
    have q1 : (part 3 #[.int .i64 c, .int .i64 d] 1).run Tryd.prog W = .ok (.int .i64 d) W := by go_simp
    refine eqA_of Tryd.underlying40 (by kernel_rfl) ?_
    exact eqf_cons (s := b == d) (r := a == c) (by rfl) p0 q0 (by rw [run_equalIn_int W k 3 .i64 .i64 a c Tryd.underlying3]) (eqf_last (by rfl) p1 q1 (by rw [run_equalIn_int W k 3 .i64 .i64 b d Tryd.underlying3]))
  exact h 9998
theorem eq40 (a b c d : Int) (W : World) : (binOp .eql 40 (.agg #[.int .i64 a, .int .i64 b]) (.agg #[.int .i64 c, .int .i64 d])).run Tryd.prog W = .ok (.bool (a == c && b == d)) W := by
  rw [run_eql_struct, eq40r]; rfl
theorem ne40 (a b c d : Int) (W : World) : (binOp .neq 40 (.agg #[.int .i64 a, .int .i64 b]) (.agg #[.int .i64 c, .int .i64 d])).run Tryd.prog W = .ok (.bool (!(a == c && b == d))) W := by
  rw [run_neq_struct, eq40r]; rfl
section
variable {v0 v1 : Value} {A : Option Addr} {len cap : Nat} {B : Option Addr} {lenB capB : Nat} {v9 : Value} {d rp : Nat} {w W0 W : World} {va vo : Value} {i : Nat}
set_option maxHeartbeats 4000000 in
set_option maxRecDepth 100000 in
theorem p12 {a : Act} (hFD : FD a v0 v1 A len cap B lenB capB v9 d rp)
    {zs : List Int} (hi : InRow w A len cap zs) (hb : Below w.heap.size w W) (hl : i < len) (h12 : sl a 12 = va) (h13 : sl a 13 = vo) (h14 : sl a 14 = .int .i64 (i : Int)) :
    Does (cpart [0] cD) (fun a' w' => FD a' v0 v1 A len cap B lenB capB v9 d rp ∧ sl a' 12 = va ∧ sl a' 13 = vo ∧ sl a' 14 = .int .i64 (i : Int) ∧ (∃ n : Int, sl a' 15 = .int .i64 n) ∧ w' = W) a W := by
  obtain ⟨hf, g0, g1, g2, g3, g9, g10, g11⟩ := hFD
  obtain ⟨u, rfl⟩ := hf.open
  rw [sl_fr u 0 (by decide)] at g0
  rw [sl_fr u 1 (by decide)] at g1
  rw [sl_fr u 2 (by decide)] at g2
  rw [sl_fr u 3 (by decide)] at g3
  rw [sl_fr u 9 (by decide)] at g9
  rw [sl_fr u 10 (by decide)] at g10
  rw [sl_fr u 11 (by decide)] at g11
  rw [sl_fr u 12 (by decide)] at h12
  rw [sl_fr u 13 (by decide)] at h13
  rw [sl_fr u 14 (by decide)] at h14
  intro J Q hJ hQ
  unfold fr
  rw [g0, g1, g2, g3, g9, g10, g11, h12, h13, h14]
  clear hf g0 g1 g2 g3 g9 g10 g11 h12 h13 h14
  conv => arg 2; whnf
  obtain ⟨x, n, rfl, hx, _, _⟩ := (hi.below hb).at_ i hl
  have c0 : (i : Int) < (len : Int) := by omega
  have c00 : (0 : Int) ≤ (i : Int) := by omega
  clear hi hb hl
  go_wp2
  refine Met.intro (hJ _ _ ?_)
  exact ⟨⟨⟨rfl, rfl⟩, rfl, rfl, rfl, rfl, rfl, rfl, rfl⟩, rfl, rfl, rfl, ⟨n, rfl⟩, rfl⟩
set_option maxHeartbeats 4000000 in
set_option maxRecDepth 100000 in
theorem p13 {a : Act} (hFD : FD a v0 v1 A len cap B lenB capB v9 d rp)
    {n : Int} (h12 : sl a 12 = va) (h13 : sl a 13 = vo) (h14 : sl a 14 = .int .i64 (i : Int)) (h15 : sl a 15 = .int .i64 n) :
    Does (cpart [1, 0] cD) (fun a' w' => FD a' v0 v1 A len cap B lenB capB v9 d rp ∧ sl a' 12 = va ∧ sl a' 13 = vo ∧ sl a' 14 = .int .i64 (i : Int) ∧ sl a' 15 = .int .i64 n ∧ ∃ hb sb p t p2 t2, sl a' 16 = .pointer (some ⟨hb, 0, none⟩) ∧ sl a' 17 = .pointer (some ⟨sb, 0, none⟩) ∧ HS W w' hb sb p t p2 t2) a W := by
  obtain ⟨hf, g0, g1, g2, g3, g9, g10, g11⟩ := hFD
  obtain ⟨u, rfl⟩ := hf.open
  rw [sl_fr u 0 (by decide)] at g0
  rw [sl_fr u 1 (by decide)] at g1
  rw [sl_fr u 2 (by decide)] at g2
  rw [sl_fr u 3 (by decide)] at g3
  rw [sl_fr u 9 (by decide)] at g9
  rw [sl_fr u 10 (by decide)] at g10
  rw [sl_fr u 11 (by decide)] at g11
  rw [sl_fr u 12 (by decide)] at h12
  rw [sl_fr u 13 (by decide)] at h13
  rw [sl_fr u 14 (by decide)] at h14
  rw [sl_fr u 15 (by decide)] at h15
  intro J Q hJ hQ
  unfold fr
  rw [g0, g1, g2, g3, g9, g10, g11, h12, h13, h14, h15]
  clear hf g0 g1 g2 g3 g9 g10 g11 h12 h13 h14 h15
  conv => arg 2; whnf
  have qn : Go.bits .and .i64 (n / 1073741824) 3 = n / 1073741824 % 4 := and_mask (n / 1073741824) 2 (by decide)
  have qm : Go.bits .and .i64 (n / 4294967296) 3 = n / 4294967296 % 4 := and_mask (n / 4294967296) 2 (by decide)
  go_wp2
  refine Met.intro (hJ _ _ ?_)
  refine ⟨⟨⟨rfl, rfl⟩, rfl, rfl, rfl, rfl, rfl, rfl, rfl⟩, rfl, rfl, rfl, rfl, W.heap.size, W.heap.size + 1, 0, 0, n / 1073741824 % 4, n / 4294967296 % 4, rfl, rfl, ?_⟩
  have h2 := heap_alloc_new (W.alloc (.cells #[.int .i64 0, .int .i64 0] 40)) (.cells #[.int .i64 (n / 1073741824 % 4), .int .i64 (n / 4294967296 % 4)] 40)
  rw [World.size_alloc] at h2
  exact ⟨below_alloc (below_alloc (Below.refl _ _) _) _, (Below.heap_alloc (W.alloc (.cells #[.int .i64 0, .int .i64 0] 40)) _ W.heap.size (by rw [World.size_alloc]; omega)).trans (heap_alloc_new W _), h2, Nat.le_refl _, by omega, by omega, by omega⟩
set_option maxHeartbeats 4000000 in
set_option maxRecDepth 100000 in
theorem p14 {a : Act} (hFD : FD a v0 v1 A len cap B lenB capB v9 d rp)
    {n : Int} {hb sb : Nat} {p t p2 t2 : Int} {A6 : Option Addr} {c6 : Nat} {os : List S40} (hs : HS W0 W hb sb p t p2 t2) (ho : HR W0 w.heap.size (.slice A6 os.length c6) os) (hob : ∀ k, k < os.length → 0 ≤ (hat os k).f0 ∧ (hat os k).f0 ≤ 1000) (hol : os.length ≤ 1000) (h12 : sl a 12 = va) (h13 : sl a 13 = (.slice A6 os.length c6)) (h14 : sl a 14 = .int .i64 (i : Int)) (h15 : sl a 15 = .int .i64 n) (h16 : sl a 16 = .pointer (some ⟨hb, 0, none⟩)) (h17 : sl a 17 = .pointer (some ⟨sb, 0, none⟩)) :
    Does (cpart [1, 1, 0] cD) (fun a' w' => FD a' v0 v1 A len cap B lenB capB v9 d rp ∧ sl a' 12 = va ∧ sl a' 13 = (.slice A6 os.length c6) ∧ sl a' 14 = .int .i64 (i : Int) ∧ sl a' 15 = .int .i64 n ∧ sl a' 16 = .pointer (some ⟨hb, 0, none⟩) ∧ sl a' 17 = .pointer (some ⟨sb, 0, none⟩) ∧ ∃ p t, HS W0 w' hb sb p t p2 t2) a W := by
  obtain ⟨hf, g0, g1, g2, g3, g9, g10, g11⟩ := hFD
  obtain ⟨u, rfl⟩ := hf.open
  rw [sl_fr u 0 (by decide)] at g0
  rw [sl_fr u 1 (by decide)] at g1
  rw [sl_fr u 2 (by decide)] at g2
  rw [sl_fr u 3 (by decide)] at g3
  rw [sl_fr u 9 (by decide)] at g9
  rw [sl_fr u 10 (by decide)] at g10
  rw [sl_fr u 11 (by decide)] at g11
  rw [sl_fr u 12 (by decide)] at h12
  rw [sl_fr u 13 (by decide)] at h13
  rw [sl_fr u 14 (by decide)] at h14
  rw [sl_fr u 15 (by decide)] at h15
  rw [sl_fr u 16 (by decide)] at h16
  rw [sl_fr u 17 (by decide)] at h17
  intro J Q hJ hQ
  unfold fr
  rw [g0, g1, g2, g3, g9, g10, g11, h12, h13, h14, h15, h16, h17]
  clear hf g0 g1 g2 g3 g9 g10 g11 h12 h13 h14 h15 h16 h17
  conv => arg 2; whnf
  have HS0 := Lib.hid hs
  have HO := Lib.hid ho
  have HOB := Lib.hid hob
  have HOL := Lib.hid hol
  clear hs ho hob hol
  by_cases hc : 0 < os.length
  · have ch0 : (0 : Int) < (os.length : Int) := by omega
    have qk : Go.bits .and .i64 (n / 256) 65535 = n / 256 % 65536 := and_mask (n / 256) 16 (by decide)
    have qt : Int.tmod (n / 256 % 65536) (os.length : Int) = n / 256 % 65536 % (os.length : Int) := Int.tmod_eq_emod_of_nonneg (Int.emod_nonneg _ (by decide))
    have cm : (os.length : Int) ≠ 0 := by omega
    obtain ⟨k, hk1, hkl⟩ : ∃ k : Nat, n / 256 % 65536 % (os.length : Int) = (k : Int) ∧ k < os.length := ⟨(n / 256 % 65536 % (os.length : Int)).toNat, by have := Int.emod_nonneg (n / 256 % 65536) cm; omega, by have := Int.emod_lt_of_pos (n / 256 % 65536) (show (0 : Int) < (os.length : Int) by omega); have := Int.emod_nonneg (n / 256 % 65536) cm; omega⟩
    have hv := HO.out.below HS0.out.bl
    obtain ⟨ad6, c6', hv6⟩ := HR.form hv hc
    injection hv6 with e1 _ e2
    subst e1 e2
    have o6 := HR.op hv k hkl
    have r0 := o6.x0
    have r1 := o6.x1
    have HKB := Lib.hid (HOB.out k hkl)
    clear o6 hv
    have ck : (k : Int) < (os.length : Int) := by omega
    have ck0 : (0 : Int) ≤ (k : Int) := by omega
    have z0 := (blk_cell HS0.out.hh 0).trans (show _ = some (Value.int .i64 p) from rfl)
    have z1 := (blk_cell HS0.out.hh 1).trans (show _ = some (Value.int .i64 t) from rfl)
    have u0 : W.frozen? ⟨hb, 0, none⟩ = false := blk_frozen HS0.out.hh 0
    have u1 : W.frozen? ⟨hb, 1, none⟩ = false := blk_frozen HS0.out.hh 1
    go_wp2
    refine Met.intro (hJ _ _ ?_)
    exact ⟨⟨⟨rfl, rfl⟩, rfl, rfl, rfl, rfl, rfl, rfl, rfl⟩, rfl, rfl, rfl, rfl, rfl, rfl, _, _, HS0.out.setH _ _ (by have := HKB.out; omega)⟩
  · have ch0 : ¬ ((0 : Int) < (os.length : Int)) := by omega
    go_wp2
    refine Met.intro (hJ _ _ ?_)
    exact ⟨⟨⟨rfl, rfl⟩, rfl, rfl, rfl, rfl, rfl, rfl, rfl⟩, rfl, rfl, rfl, rfl, rfl, rfl, _, _, HS0.out⟩
set_option maxHeartbeats 4000000 in
set_option maxRecDepth 100000 in
theorem p16 {a : Act} (hFD : FD a v0 v1 A len cap B lenB capB v9 d rp)
    {n : Int} {hb sb : Nat} {p t p2 t2 : Int} {zs2 : List Int} (hs : HS W0 W hb sb p t p2 t2) (hh : InHands w B lenB capB zs2) (hb0 : Below w.heap.size w W0) (h12 : sl a 12 = va) (h13 : sl a 13 = vo) (h14 : sl a 14 = .int .i64 (i : Int)) (h15 : sl a 15 = .int .i64 n) (h16 : sl a 16 = .pointer (some ⟨hb, 0, none⟩)) (h17 : sl a 17 = .pointer (some ⟨sb, 0, none⟩)) :
    Does (cpart [1, 1, 1, 0] cD) (fun a' w' => FD a' v0 v1 A len cap B lenB capB v9 d rp ∧ sl a' 12 = va ∧ sl a' 13 = vo ∧ sl a' 14 = .int .i64 (i : Int) ∧ sl a' 15 = .int .i64 n ∧ sl a' 16 = .pointer (some ⟨hb, 0, none⟩) ∧ sl a' 17 = .pointer (some ⟨sb, 0, none⟩) ∧ ∃ p t p2 t2, HS W0 w' hb sb p t p2 t2) a W := by
  obtain ⟨hf, g0, g1, g2, g3, g9, g10, g11⟩ := hFD
  obtain ⟨u, rfl⟩ := hf.open
  rw [sl_fr u 0 (by decide)] at g0
  rw [sl_fr u 1 (by decide)] at g1
  rw [sl_fr u 2 (by decide)] at g2
  rw [sl_fr u 3 (by decide)] at g3
  rw [sl_fr u 9 (by decide)] at g9
  rw [sl_fr u 10 (by decide)] at g10
  rw [sl_fr u 11 (by decide)] at g11
  rw [sl_fr u 12 (by decide)] at h12
  rw [sl_fr u 13 (by decide)] at h13
  rw [sl_fr u 14 (by decide)] at h14
  rw [sl_fr u 15 (by decide)] at h15
  rw [sl_fr u 16 (by decide)] at h16
  rw [sl_fr u 17 (by decide)] at h17
  intro J Q hJ hQ
  unfold fr
  rw [g0, g1, g2, g3, g9, g10, g11, h12, h13, h14, h15, h16, h17]
  clear hf g0 g1 g2 g3 g9 g10 g11 h12 h13 h14 h15 h16 h17
  conv => arg 2; whnf
  have HS0 := Lib.hid hs
  have HH := Lib.hid hh
  have HB0 := Lib.hid hb0
  clear hs hh hb0
  have q60 : Go.bits .and .i64 (n / 1152921504606846976) 3 = n / 1152921504606846976 % 4 := and_mask (n / 1152921504606846976) 2 (by decide)
  by_cases hl2 : i < lenB
  · have cl2 : (i : Int) < (lenB : Int) := by omega
    by_cases h8 : n / 1152921504606846976 % 4 = 1
    · obtain ⟨y, p1, t1, rfl, y0, y1, hp1⟩ := HH.out i hl2
      have BW := below_step HB0.out HS0.out.bl
      have r0 := (BW.cell (cell_lt y0)).trans y0
      have r1 := (BW.cell (cell_lt y1)).trans y1
      have HP1 := Lib.hid hp1
      have HY := Lib.hid (show (y.add (i * 2)).block < w.heap.size from cell_lt y0)
      clear y0 y1 hp1
      have HNE := Lib.hid (show (y.add (i * 2)).block ≠ hb ∧ (y.add (i * 2)).block ≠ sb from ⟨by have := HS0.out.l1; have := HY.out; have := HB0.out.size; omega, by have := HS0.out.l2; have := HY.out; have := HB0.out.size; omega⟩)
      clear BW
      have z0 := (blk_cell HS0.out.hh 0).trans (show _ = some (Value.int .i64 p) from rfl)
      have z1 := (blk_cell HS0.out.hh 1).trans (show _ = some (Value.int .i64 t) from rfl)
      have u0 : W.frozen? ⟨hb, 0, none⟩ = false := blk_frozen HS0.out.hh 0
      have u1 : W.frozen? ⟨hb, 1, none⟩ = false := blk_frozen HS0.out.hh 1
      have s0 := (blk_cell HS0.out.ss 0).trans (show _ = some (Value.int .i64 p2) from rfl)
      have s1 := (blk_cell HS0.out.ss 1).trans (show _ = some (Value.int .i64 t2) from rfl)
      have x0 : W.frozen? ⟨sb, 0, none⟩ = false := blk_frozen HS0.out.ss 0
      have x1 : W.frozen? ⟨sb, 1, none⟩ = false := blk_frozen HS0.out.ss 1
      have hne : hb ≠ sb := HS0.out.ne
      have hne2 : sb ≠ hb := hne.symm
      have e0 := cells_set2 (u := .int .i64 p1) (v := .int .i64 t1) r0 HNE.out.1
      have e1 := cells_set2 (u := .int .i64 p1) (v := .int .i64 t1) r1 HNE.out.1
      go_upto_region 17 with (fail)
      go_region
      refine hQ _ _ (Met.intro (hJ _ _ ?_))
      exact ⟨⟨⟨rfl, rfl⟩, rfl, rfl, rfl, rfl, rfl, rfl, rfl⟩, rfl, rfl, rfl, rfl, rfl, rfl, _, _, _, _, ((HS0.out.setH p1 t1 HP1.out).setS p1 t1).below (below_drew1 (Below.refl _ _))⟩
    · have h8b : (n / 1152921504606846976 % 4 == 1) = false := by simpa using h8
      clear h8
      go_wp2
      refine Met.intro (hJ _ _ ?_)
      exact ⟨⟨⟨rfl, rfl⟩, rfl, rfl, rfl, rfl, rfl, rfl, rfl⟩, rfl, rfl, rfl, rfl, rfl, rfl, _, _, _, _, HS0.out⟩
  · have cl2 : ¬ ((i : Int) < (lenB : Int)) := by omega
    go_wp2
    refine Met.intro (hJ _ _ ?_)
    exact ⟨⟨⟨rfl, rfl⟩, rfl, rfl, rfl, rfl, rfl, rfl, rfl⟩, rfl, rfl, rfl, rfl, rfl, rfl, _, _, _, _, HS0.out⟩
end
end Go.Proofs.YtphaaagcdjpceaaDoor
namespace Go.Proofs.YtphaaagcdjpceaaDoor
open Go.RowKit Go.Extern.Stop Go.Stop Go.Extern Go.Proofs.YtphaaagcdjpceaaDoorW.PrintWords Go.Proofs.YtphaaagcdjpceaaDoorW.PrintLast Go.Proofs.YtphaaagcdjpceaaDoorW.PrintMore
set_option linter.unusedVariables false
theorem nthV_set (v : Value) (d k : Nat) (h : k ≠ d) : ∀ (l : List Value) , nthV (l.set d v) k = nthV l k := by
  intro l
  induction l generalizing d k with
  | nil => rfl
  | cons a l ih =>
    cases d with
    | zero => cases k with
      | zero => exact absurd rfl h
      | succ k => rfl
    | succ d => cases k with
      | zero => rfl
      | succ k => exact ih d k (fun e => h (by rw [e]))
theorem nthV_at (v : Value) (d : Nat) : ∀ (l : List Value), d < l.length → nthV (l.set d v) d = v := by
  intro l
  induction l generalizing d with
  | nil => intro h; simp at h
  | cons a l ih =>
    cases d with
    | zero => intro _; rfl
    | succ d => intro h; exact ih d (by simpa using h)
structure Put (a a' : Act) (d : Nat) (v : Value) : Prop where
  ok : FrA a'
  at_ : sl a' d = v
  ne : ∀ k, k ≠ d → sl a' k = sl a k
theorem Put.of {a : Act} (h : FrA a) {d : Nat} (hd : d < 548) (v : Value) : Put a (a.put (some d) v) d v := by
  obtain ⟨tmps, df⟩ := a
  cases tmps with | mk l =>
  have hl : l.length = 548 := h.n
  have e : ((Act.put ⟨⟨l⟩, df⟩ (some d) v).tmps.toList) = l.set d v := by
    show ((Array.mk l).setIfInBounds d v).toList = _
    rw [Array.toList_setIfInBounds]
  refine ⟨⟨by rw [e, List.length_set]; exact hl, h.d⟩, ?_, fun k hk => ?_⟩
  · unfold sl; rw [e]; exact nthV_at v d l (by omega)
  · unfold sl; rw [e]; exact nthV_set v d k hk l
theorem does_assign {id : Nat} {d : Nat} {v : Value} {ty : TypeId} {pos : String} {after : Array Edge} {a : Act} {w : World} (h : FrA a) (hd : d < 548) : Does (.region id #[{ dst := some d, op := .assign (.const v), type := ty, pos := pos, after := after, guard := none }] false) (fun a' w' => Put a a' d v ∧ w' = w) a w := by
  intro J Q hJ hQ
  refine wp_region_lit (wpList_plain rfl (fun K hK => ?_))
  refine BigFrame.wp_assign (.const v) rfl (hK _ _ (wpList_nil (hQ _ _ (Met.intro (hJ _ _ ⟨Put.of h hd v, rfl⟩)))))
theorem FD.put {a a' : Act} {v0 v1 : Value} {A : Option Addr} {len cap : Nat} {B : Option Addr} {lenB capB : Nat} {v9 : Value} {d rp : Nat} (h : FD a v0 v1 A len cap B lenB capB v9 d rp) {k : Nat} {v : Value} (hp : Put a a' k v) (hk : k ≠ 0 ∧ k ≠ 1 ∧ k ≠ 2 ∧ k ≠ 3 ∧ k ≠ 9 ∧ k ≠ 10 ∧ k ≠ 11) : FD a' v0 v1 A len cap B lenB capB v9 d rp :=
  ⟨hp.ok, (hp.ne 0 (Ne.symm hk.1)).trans h.s0, (hp.ne 1 (Ne.symm hk.2.1)).trans h.s1, (hp.ne 2 (Ne.symm hk.2.2.1)).trans h.s2, (hp.ne 3 (Ne.symm hk.2.2.2.1)).trans h.s3, (hp.ne 9 (Ne.symm hk.2.2.2.2.1)).trans h.s9, (hp.ne 10 (Ne.symm hk.2.2.2.2.2.1)).trans h.s10, (hp.ne 11 (Ne.symm hk.2.2.2.2.2.2)).trans h.s11⟩
def FndU (L : List Seat) (p t : Int) (j : Nat) (v18 v19 : Value) : Prop := (v18 = .pointer none ∧ v19 = .int .i64 (-1) ∧ ∀ i (h : i < L.length), i < j → ¬ (L[i].x = p ∧ L[i].t = t)) ∨ ∃ k, ∃ h : k < L.length, v18 = .pointer (some ⟨L[k].bl, 0, none⟩) ∧ v19 = .int .i64 (k : Int) ∧ L[k].x = p ∧ L[k].t = t
theorem FndU.no {L : List Seat} {p t : Int} {j : Nat} {v18 v19 : Value} (h : FndU L p t j v18 v19) (hj : j < L.length) (hn : ¬ (L[j].x = p ∧ L[j].t = t)) : FndU L p t (j + 1) v18 v19 := by
  rcases h with ⟨h1, h2, h3⟩ | h
  · refine .inl ⟨h1, h2, fun i hi hij => ?_⟩
    rcases Nat.lt_or_ge i j with h4 | h4
    · exact h3 i hi h4
    · obtain rfl : i = j := by omega
      exact hn
  · exact .inr h
def AtU (hs : List S40) (p t : Int) (j : Nat) (v : Value) : Prop := (v = .int .i64 (-1) ∧ ∀ i, i < j → hat hs i ≠ ⟨p, t⟩) ∨ ∃ k, k < hs.length ∧ v = .int .i64 (k : Int) ∧ hat hs k = ⟨p, t⟩
theorem AtU.no {hs : List S40} {p t : Int} {j : Nat} {v : Value} (h : AtU hs p t j v) (hn : hat hs j ≠ ⟨p, t⟩) : AtU hs p t (j + 1) v := by
  rcases h with ⟨h1, h2⟩ | h
  · refine .inl ⟨h1, fun i hi => ?_⟩
    rcases Nat.lt_or_ge i j with h4 | h4
    · exact h2 i h4
    · obtain rfl : i = j := by omega
      exact hn
  · exact .inr h
attribute [local go_sem high] eq40 ne40
section
variable {v0 v1 : Value} {A : Option Addr} {len cap : Nat} {B : Option Addr} {lenB capB : Nat} {v9 : Value} {d rp : Nat} {w W0 W : World} {va vo : Value} {i : Nat}
set_option maxHeartbeats 4000000 in
set_option maxRecDepth 100000 in
theorem p20 {a : Act} (hFD : FD a v0 v1 A len cap B lenB capB v9 d rp)
    {n : Int} {hb sb : Nat} {p t p2 t2 : Int} {A2 : Option Addr} {c2 m : Nat} {L : List Seat} {Ns : Nat} (hs : HS W0 W hb sb p t p2 t2) (hsl : SL W0 w.heap.size Ns L) (hall : Kd.C kP W0 A2 m (L.map (fun s => s.bl))) (hm : L.length = m) (hm9 : m ≤ 1000) (h12 : sl a 12 = (.slice A2 m c2)) (h13 : sl a 13 = vo) (h14 : sl a 14 = .int .i64 (i : Int)) (h15 : sl a 15 = .int .i64 n) (h16 : sl a 16 = .pointer (some ⟨hb, 0, none⟩)) (h17 : sl a 17 = .pointer (some ⟨sb, 0, none⟩)) (h18 : sl a 18 = .pointer none) (h19 : sl a 19 = .int .i64 (-1)) :
    Does (cpart [1, 1, 1, 1, 1, 1, 0] cD) (fun a' w' => FD a' v0 v1 A len cap B lenB capB v9 d rp ∧ sl a' 12 = (.slice A2 m c2) ∧ sl a' 13 = vo ∧ sl a' 14 = .int .i64 (i : Int) ∧ sl a' 15 = .int .i64 n ∧ sl a' 16 = .pointer (some ⟨hb, 0, none⟩) ∧ sl a' 17 = .pointer (some ⟨sb, 0, none⟩) ∧ (∃ v18 v19, sl a' 18 = v18 ∧ sl a' 19 = v19 ∧ FndU L p t m v18 v19) ∧ HS W0 w' hb sb p t p2 t2) a W := by
  obtain ⟨hf, g0, g1, g2, g3, g9, g10, g11⟩ := hFD
  obtain ⟨u, rfl⟩ := hf.open
  rw [sl_fr u 0 (by decide)] at g0
  rw [sl_fr u 1 (by decide)] at g1
  rw [sl_fr u 2 (by decide)] at g2
  rw [sl_fr u 3 (by decide)] at g3
  rw [sl_fr u 9 (by decide)] at g9
  rw [sl_fr u 10 (by decide)] at g10
  rw [sl_fr u 11 (by decide)] at g11
  rw [sl_fr u 12 (by decide)] at h12
  rw [sl_fr u 13 (by decide)] at h13
  rw [sl_fr u 14 (by decide)] at h14
  rw [sl_fr u 15 (by decide)] at h15
  rw [sl_fr u 16 (by decide)] at h16
  rw [sl_fr u 17 (by decide)] at h17
  rw [sl_fr u 18 (by decide)] at h18
  rw [sl_fr u 19 (by decide)] at h19
  intro J Q hJ hQ
  unfold fr
  rw [g0, g1, g2, g3, g9, g10, g11, h12, h13, h14, h15, h16, h17, h18, h19]
  clear hf g0 g1 g2 g3 g9 g10 g11 h12 h13 h14 h15 h16 h17 h18 h19
  conv => arg 2; whnf
  have HS0 := Lib.hid hs
  have HSL := Lib.hid hsl
  have HALL := Lib.hid hall
  have HM := Lib.hid (And.intro hm hm9)
  clear hs hsl hall hm hm9
  go_wp2_with (fail)
  go_loopg [18, 19, 20] m (fun gk v18 v19 v20 wq => ∃ j : Nat, v20 = .int .i64 (j : Int) ∧ j ≤ m ∧ m - j ≤ gk ∧ Hid (FndU L p t j v18 v19) ∧ Hid (HS W0 wq hb sb p t p2 t2))
  case atStart => exact ⟨0, rfl, by omega, by omega, Lib.hid (.inl ⟨rfl, rfl, fun i h hi => absurd hi (Nat.not_lt_zero _)⟩), HS0⟩
  case round =>
    obtain ⟨j, rfl, hj, hjk, HF, HS1⟩ := hrel
    clear HS0
    by_cases hjm : j < m
    · have cj : (j : Int) < (m : Int) := by omega
      have cj0 : (0 : Int) ≤ (j : Int) := by omega
      have cj9 : (j : Int) ≤ 1000 := by have := HM.out.2; omega
      have hjL : j < L.length := by rw [HM.out.1]; exact hjm
      obtain ⟨ad, rfl, had⟩ := at_ptr HALL.out j hjm
      rw [blAt hjL] at had
      have hSE := HSL.out.all _ (List.getElem_mem hjL)
      have k0 := (HS1.out.bl.cell (cell_lt had)).trans had
      have hbk := blk_below hSE.hd HS1.out.bl
      have k1 := (blk_cell hbk 0).trans (show _ = some (Value.int .i64 L[j].x) from rfl)
      have k2 := (blk_cell hbk 1).trans (show _ = some (Value.int .i64 L[j].t) from rfl)
      have z0 := (blk_cell HS1.out.hh 0).trans (show _ = some (Value.int .i64 p) from rfl)
      have z1 := (blk_cell HS1.out.hh 1).trans (show _ = some (Value.int .i64 t) from rfl)
      have HJ := Lib.hid (And.intro hjm (And.intro hjk hjL))
      obtain ⟨xx, hxx⟩ : ∃ xx, L[j].x = xx := ⟨_, rfl⟩
      obtain ⟨tt, htt⟩ : ∃ tt, L[j].t = tt := ⟨_, rfl⟩
      obtain ⟨bb, hbb⟩ : ∃ bb, L[j].bl = bb := ⟨_, rfl⟩
      rw [hxx] at k1
      rw [htt] at k2
      rw [hbb] at k0 k1 k2
      have HX := Lib.hid hxx
      have HT := Lib.hid htt
      have HBB := Lib.hid hbb
      clear hxx htt hbb hSE had hbk hj hjk
      go_upto_region 23 with (fail)
      go_quiet (fail)
      rename_i nq
      have HS2 := Lib.hid (HS1.out.below (pw_below_drewN (Below.refl wr.heap.size wr) nq))
      clear k1 k2 z0 z1
      have k3 : (wr.drewN nq).cell? (ad.add j) = some (.pointer (some ⟨bb, 0, none⟩)) := k0
      clear k0
      generalize hbq : (xx == p && tt == t) = bq
      have HBQ := Lib.hid hbq
      clear hbq
      cases bq
      · have HY := Lib.hid (HF.out.no HJ.out.2.2 (by rw [HX.out, HT.out]; have := HBQ.out; intro h; rw [h.1, h.2] at this; simp at this))
        go_wp2
        go_roundg (m - (j + 1))
        case measure => have := HJ.out.1; have := HJ.out.2.1; omega
        case rel => exact ⟨j + 1, by simp, by omega, by omega, HY, HS2⟩
      · have HY := Lib.hid (show FndU L p t (j + 1) (.pointer (some ⟨bb, 0, none⟩)) (.int .i64 (j : Int)) from .inr ⟨j, HJ.out.2.2, by rw [HBB.out], rfl, by have := HBQ.out; simp at this; rw [HX.out]; exact this.1, by have := HBQ.out; simp at this; rw [HT.out]; exact this.2⟩)
        go_wp2
        go_roundg (m - (j + 1))
        case measure => have := HJ.out.1; have := HJ.out.2.1; omega
        case rel => exact ⟨j + 1, by simp, by omega, by omega, HY, HS2⟩
    · obtain rfl : j = m := by omega
      clear hjm hj hjk
      go_wp2
      refine Met.intro (hJ _ _ ?_)
      exact ⟨⟨⟨rfl, rfl⟩, rfl, rfl, rfl, rfl, rfl, rfl, rfl⟩, rfl, rfl, rfl, rfl, rfl, rfl, ⟨_, _, rfl, rfl, HF.out⟩, HS1.out⟩
set_option maxHeartbeats 4000000 in
set_option maxRecDepth 100000 in
theorem p26n {a : Act} (hFD : FD a v0 v1 A len cap B lenB capB v9 d rp)
    {n : Int} {hb sb : Nat} {v19 : Value} (h12 : sl a 12 = va) (h13 : sl a 13 = vo) (h14 : sl a 14 = .int .i64 (i : Int)) (h15 : sl a 15 = .int .i64 n) (h16 : sl a 16 = .pointer (some ⟨hb, 0, none⟩)) (h17 : sl a 17 = .pointer (some ⟨sb, 0, none⟩)) (h18 : sl a 18 = .pointer none) (h19 : sl a 19 = v19) (h21 : sl a 21 = .int .i64 (-1)) :
    Does (cpart [1, 1, 1, 1, 1, 1, 1, 1, 0] cD) (fun a' w' => FD a' v0 v1 A len cap B lenB capB v9 d rp ∧ sl a' 12 = va ∧ sl a' 13 = vo ∧ sl a' 14 = .int .i64 (i : Int) ∧ sl a' 15 = .int .i64 n ∧ sl a' 16 = .pointer (some ⟨hb, 0, none⟩) ∧ sl a' 17 = .pointer (some ⟨sb, 0, none⟩) ∧ sl a' 18 = .pointer none ∧ sl a' 19 = v19 ∧ sl a' 21 = .int .i64 (-1) ∧ w' = W) a W := by
  obtain ⟨hf, g0, g1, g2, g3, g9, g10, g11⟩ := hFD
  obtain ⟨u, rfl⟩ := hf.open
  rw [sl_fr u 0 (by decide)] at g0
  rw [sl_fr u 1 (by decide)] at g1
  rw [sl_fr u 2 (by decide)] at g2
  rw [sl_fr u 3 (by decide)] at g3
  rw [sl_fr u 9 (by decide)] at g9
  rw [sl_fr u 10 (by decide)] at g10
  rw [sl_fr u 11 (by decide)] at g11
  rw [sl_fr u 12 (by decide)] at h12
  rw [sl_fr u 13 (by decide)] at h13
  rw [sl_fr u 14 (by decide)] at h14
  rw [sl_fr u 15 (by decide)] at h15
  rw [sl_fr u 16 (by decide)] at h16
  rw [sl_fr u 17 (by decide)] at h17
  rw [sl_fr u 18 (by decide)] at h18
  rw [sl_fr u 19 (by decide)] at h19
  rw [sl_fr u 21 (by decide)] at h21
  intro J Q hJ hQ
  unfold fr
  rw [g0, g1, g2, g3, g9, g10, g11, h12, h13, h14, h15, h16, h17, h18, h19, h21]
  clear hf g0 g1 g2 g3 g9 g10 g11 h12 h13 h14 h15 h16 h17 h18 h19 h21
  conv => arg 2; whnf
  go_wp2_with (fail)
  refine wp_loop_once ?_
  go_wp2
  refine Met.intro (hJ _ _ ?_)
  exact ⟨⟨⟨rfl, rfl⟩, rfl, rfl, rfl, rfl, rfl, rfl, rfl⟩, rfl, rfl, rfl, rfl, rfl, rfl, rfl, rfl, rfl, rfl⟩
set_option maxHeartbeats 4000000 in
set_option maxRecDepth 100000 in
theorem p26 {a : Act} (hFD : FD a v0 v1 A len cap B lenB capB v9 d rp)
    {n : Int} {hb sb bl : Nat} {p t p2 t2 : Int} {v19 : Value} {s : Seat} {Ns m : Nat} (hs : HS W0 W hb sb p t p2 t2) (hse : SE W0 w.heap.size Ns s) (hbl : s.bl = bl) (hm : s.hs.length = m) (hm9 : m ≤ 1000) (h12 : sl a 12 = va) (h13 : sl a 13 = vo) (h14 : sl a 14 = .int .i64 (i : Int)) (h15 : sl a 15 = .int .i64 n) (h16 : sl a 16 = .pointer (some ⟨hb, 0, none⟩)) (h17 : sl a 17 = .pointer (some ⟨sb, 0, none⟩)) (h18 : sl a 18 = .pointer (some ⟨bl, 0, none⟩)) (h19 : sl a 19 = v19) (h21 : sl a 21 = .int .i64 (-1)) :
    Does (cpart [1, 1, 1, 1, 1, 1, 1, 1, 0] cD) (fun a' w' => FD a' v0 v1 A len cap B lenB capB v9 d rp ∧ sl a' 12 = va ∧ sl a' 13 = vo ∧ sl a' 14 = .int .i64 (i : Int) ∧ sl a' 15 = .int .i64 n ∧ sl a' 16 = .pointer (some ⟨hb, 0, none⟩) ∧ sl a' 17 = .pointer (some ⟨sb, 0, none⟩) ∧ sl a' 18 = .pointer (some ⟨bl, 0, none⟩) ∧ sl a' 19 = v19 ∧ ∃ v21 p3 t3, sl a' 21 = v21 ∧ AtU s.hs p3 t3 m v21 ∧ HS W0 w' hb sb p t p3 t3) a W := by
  obtain ⟨hf, g0, g1, g2, g3, g9, g10, g11⟩ := hFD
  obtain ⟨u, rfl⟩ := hf.open
  rw [sl_fr u 0 (by decide)] at g0
  rw [sl_fr u 1 (by decide)] at g1
  rw [sl_fr u 2 (by decide)] at g2
  rw [sl_fr u 3 (by decide)] at g3
  rw [sl_fr u 9 (by decide)] at g9
  rw [sl_fr u 10 (by decide)] at g10
  rw [sl_fr u 11 (by decide)] at g11
  rw [sl_fr u 12 (by decide)] at h12
  rw [sl_fr u 13 (by decide)] at h13
  rw [sl_fr u 14 (by decide)] at h14
  rw [sl_fr u 15 (by decide)] at h15
  rw [sl_fr u 16 (by decide)] at h16
  rw [sl_fr u 17 (by decide)] at h17
  rw [sl_fr u 18 (by decide)] at h18
  rw [sl_fr u 19 (by decide)] at h19
  rw [sl_fr u 21 (by decide)] at h21
  intro J Q hJ hQ
  unfold fr
  rw [g0, g1, g2, g3, g9, g10, g11, h12, h13, h14, h15, h16, h17, h18, h19, h21]
  clear hf g0 g1 g2 g3 g9 g10 g11 h12 h13 h14 h15 h16 h17 h18 h19 h21
  conv => arg 2; whnf
  have HS0 := Lib.hid hs
  have HSE := Lib.hid hse
  have HL := Lib.hid (And.intro hm hm9)
  obtain ⟨A5, c5, hv5⟩ := Kd.R_slice hse.hr
  rw [hm] at hv5
  have hcell := (blk_cell hse.hd 5).trans (show _ = some s.hv from rfl)
  rw [hbl, hv5] at hcell
  have HC := Lib.hid hcell
  have hrow : HR W0 w.heap.size (.slice A5 m c5) s.hs := by rw [← hv5]; exact hse.hr
  have HROW := Lib.hid hrow
  clear hs hse hbl hm hm9 hcell hrow hv5
  obtain ⟨kk, hkk⟩ : ∃ kk : Nat, (n / 68719476736 % 256 % (m : Int)).toNat = kk := ⟨_, rfl⟩
  have HKK := Lib.hid hkk
  clear hkk
  have q34 : Go.bits .and .i64 (n / 17179869184) 1 = n / 17179869184 % 2 := and_mask (n / 17179869184) 1 (by decide)
  have q36 : Go.bits .and .i64 (n / 68719476736) 255 = n / 68719476736 % 256 := and_mask (n / 68719476736) 8 (by decide)
  obtain ⟨f, hf⟩ : ∃ f, (n / 17179869184 % 2 == 1) = f := ⟨_, rfl⟩
  have HF := Lib.hid hf
  clear hf
  go_wp2_with (fail)
  go_loopg [21, 22] m (fun gk v21 v22 wq => ∃ (j : Nat) (p3 t3 : Int), v22 = .int .i64 (j : Int) ∧ j ≤ m ∧ m - j ≤ gk ∧ Hid (AtU s.hs p3 t3 j v21) ∧ Hid (f = true → 0 < j → hat s.hs kk = ⟨p3, t3⟩) ∧ Hid (j = 0 → v21 = .int .i64 (-1)) ∧ Hid (HS W0 wq hb sb p t p3 t3))
  case atStart => exact ⟨0, p2, t2, rfl, by omega, by omega, Lib.hid (.inl ⟨rfl, fun i hi => absurd hi (Nat.not_lt_zero _)⟩), Lib.hid (fun _ h => absurd h (Nat.lt_irrefl _)), Lib.hid (fun _ => rfl), HS0⟩
  case round =>
    obtain ⟨j, p3, t3, rfl, hj, hjk, HA, HFL, HZ, HS1⟩ := hrel
    clear HS0
    have k5 := (HS1.out.bl.cell (cell_lt HC.out)).trans HC.out
    by_cases hjm : j < m
    · have cj : (j : Int) < (m : Int) := by omega
      have cj0 : (0 : Int) ≤ (j : Int) := by omega
      have cj9 : (j : Int) ≤ 1000 := by have := HL.out.2; omega
      have hm0 : (0 : Int) < (m : Int) := by omega
      have HJ := Lib.hid (And.intro hjm hjk)
      have hv := HROW.out
      obtain ⟨ad, c5', hv5⟩ := HR.form (by rw [← HL.out.1] at hv; exact hv) (by have := HL.out.1; omega)
      injection hv5 with e1 _ e2
      subst e1 e2
      have hop := fun k (hk : k < m) => HR.op (show HR W0 w.heap.size (.slice (some ad) s.hs.length c5) s.hs from by rw [HL.out.1]; exact hv) k (by rw [HL.out.1]; exact hk)
      have HOP := Lib.hid hop
      have oj := hop j hjm
      have HX0 := Lib.hid oj.x0
      have HX1 := Lib.hid oj.x1
      obtain ⟨xx, hxx⟩ : ∃ xx, (hat s.hs j).f0 = xx := ⟨_, rfl⟩
      obtain ⟨tt, htt⟩ : ∃ tt, (hat s.hs j).f1 = tt := ⟨_, rfl⟩
      rw [hxx] at HX0
      rw [htt] at HX1
      have HX := Lib.hid (And.intro hxx htt)
      clear hv hop oj hxx htt hj hjk
      have hff := HF.out
      cases f
      · 
        as_aux_lemma =>
          go_upto_region 31 with (fail)
          clear hff
          have r0 := (HS1.out.bl.cell (cell_lt HX0.out)).trans HX0.out
          have r1 := (HS1.out.bl.cell (cell_lt HX1.out)).trans HX1.out
          have z0 := (blk_cell HS1.out.ss 0).trans (show _ = some (Value.int .i64 p3) from rfl)
          have z1 := (blk_cell HS1.out.ss 1).trans (show _ = some (Value.int .i64 t3) from rfl)
          go_quiet (fail)
          rename_i nq
          have HS2 := Lib.hid (HS1.out.below (pw_below_drewN (Below.refl wr.heap.size wr) nq))
          clear r0 r1 z0 z1 k5 q34 q36
          generalize hbq : (xx == p3 && tt == t3) = bq
          have HBQ := Lib.hid hbq
          clear hbq
          cases bq
          · have HY := Lib.hid (AtU.no HA.out (fun e => by have h1 := HX.out; rw [e] at h1; have := HBQ.out; rw [← h1.1, ← h1.2] at this; simp at this))
            go_wp2
            go_roundg (m - (j + 1))
            case measure => have := HJ.out.1; have := HJ.out.2; omega
            case rel => exact ⟨j + 1, _, _, by simp, by omega, by omega, HY, Lib.hid (fun h => by cases h), Lib.hid (fun h => absurd h (by omega)), HS2⟩
          · have HY : Hid (AtU s.hs p3 t3 (j + 1) (.int .i64 (j : Int))) := Lib.hid (.inr ⟨j, by have := HL.out.1; omega, rfl, by have h1 := HX.out; have := HBQ.out; simp at this; rw [← this.1, ← this.2, ← h1.1, ← h1.2]⟩)
            go_wp2
            go_roundg (m - (j + 1))
            case measure => have := HJ.out.1; have := HJ.out.2; omega
            case rel => exact ⟨j + 1, _, _, by simp, by omega, by omega, HY, Lib.hid (fun h => by cases h), Lib.hid (fun h => absurd h (by omega)), HS2⟩
      · 
        as_aux_lemma =>
          have qt : Int.tmod (n / 68719476736 % 256) (m : Int) = n / 68719476736 % 256 % (m : Int) := Int.tmod_eq_emod_of_nonneg (Int.emod_nonneg _ (by decide))
          have cm : (m : Int) ≠ 0 := by omega
          have hkm : kk < m := by have h1 := HKK.out; have := Int.emod_lt_of_pos (n / 68719476736 % 256) hm0; have := Int.emod_nonneg (n / 68719476736 % 256) cm; omega
          have hk1 : n / 68719476736 % 256 % (m : Int) = (kk : Int) := by have h1 := HKK.out; have := Int.emod_nonneg (n / 68719476736 % 256) cm; omega
          have ck : (kk : Int) < (m : Int) := by omega
          have ck0 : (0 : Int) ≤ (kk : Int) := by omega
          have ok := HOP.out kk hkm
          obtain ⟨pk, hpk⟩ : ∃ pk, (hat s.hs kk).f0 = pk := ⟨_, rfl⟩
          obtain ⟨tk, htk⟩ : ∃ tk, (hat s.hs kk).f1 = tk := ⟨_, rfl⟩
          have hy0 := ok.x0
          have hy1 := ok.x1
          rw [hpk] at hy0
          rw [htk] at hy1
          have HPK := Lib.hid (show hat s.hs kk = ⟨pk, tk⟩ by rw [← hpk, ← htk])
          have r0 := (HS1.out.bl.cell (cell_lt hy0)).trans hy0
          have r1 := (HS1.out.bl.cell (cell_lt hy1)).trans hy1
          have z0 := (blk_cell HS1.out.ss 0).trans (show _ = some (Value.int .i64 p3) from rfl)
          have z1 := (blk_cell HS1.out.ss 1).trans (show _ = some (Value.int .i64 t3) from rfl)
          have x0 : wr.frozen? ⟨sb, 0, none⟩ = false := blk_frozen HS1.out.ss 0
          have x1 : wr.frozen? ⟨sb, 1, none⟩ = false := blk_frozen HS1.out.ss 1
          have HA2 : Hid (AtU s.hs pk tk j u21) := Lib.hid (by
            rcases Nat.eq_zero_or_pos j with e | e
            · exact .inl ⟨HZ.out e, fun i hi => by omega⟩
            · have h1 := HFL.out rfl e
              rw [HPK.out] at h1
              injection h1 with h1 h2
              rw [h1, h2]; exact HA.out)
          clear hpk htk hy0 hy1 ok hkm HA
          go_upto_region 30 with (fail)
          have hmz : ¬ m = 0 := by omega
          clear cm
          go_still_tail 15, (by kernel_rfl)
          clear hmz hff qt hk1 ck ck0 r0 r1 q34 q36
          go_upto_region 31 with (fail)
          clear z0 z1 x0 x1 k5
          have HS2 := Lib.hid ((HS1.out.setS pk tk).below (below_drew1 (Below.refl _ _)))
          generalize ((wr.setCell ⟨sb, 0, none⟩ (.int .i64 pk)).setCell ⟨sb, 1, none⟩ (.int .i64 tk)).drew = wd at *
          have k5 := (HS2.out.bl.cell (cell_lt HC.out)).trans HC.out
          have r0 := (HS2.out.bl.cell (cell_lt HX0.out)).trans HX0.out
          have r1 := (HS2.out.bl.cell (cell_lt HX1.out)).trans HX1.out
          have z0 := (blk_cell HS2.out.ss 0).trans (show _ = some (Value.int .i64 pk) from rfl)
          have z1 := (blk_cell HS2.out.ss 1).trans (show _ = some (Value.int .i64 tk) from rfl)
          go_quiet (fail)
          rename_i nq
          have HS3 := Lib.hid (HS2.out.below (pw_below_drewN (Below.refl wd.heap.size wd) nq))
          clear r0 r1 z0 z1 k5
          generalize hbq : (xx == pk && tt == tk) = bq
          have HBQ := Lib.hid hbq
          clear hbq
          cases bq
          · have HY := Lib.hid (AtU.no HA2.out (fun e => by have h1 := HX.out; rw [e] at h1; have := HBQ.out; rw [← h1.1, ← h1.2] at this; simp at this))
            go_wp2
            go_roundg (m - (j + 1))
            case measure => have := HJ.out.1; have := HJ.out.2; omega
            case rel => exact ⟨j + 1, _, _, by simp, by omega, by omega, HY, Lib.hid (fun _ _ => HPK.out), Lib.hid (fun h => absurd h (by omega)), HS3⟩
          · have HY : Hid (AtU s.hs pk tk (j + 1) (.int .i64 (j : Int))) := Lib.hid (.inr ⟨j, by have := HL.out.1; omega, rfl, by have h1 := HX.out; have := HBQ.out; simp at this; rw [← this.1, ← this.2, ← h1.1, ← h1.2]⟩)
            go_wp2
            go_roundg (m - (j + 1))
            case measure => have := HJ.out.1; have := HJ.out.2; omega
            case rel => exact ⟨j + 1, _, _, by simp, by omega, by omega, HY, Lib.hid (fun _ _ => HPK.out), Lib.hid (fun h => absurd h (by omega)), HS3⟩
    · obtain rfl : j = m := by omega
      clear hjm hj hjk
      go_wp2
      refine Met.intro (hJ _ _ ?_)
      exact ⟨⟨⟨rfl, rfl⟩, rfl, rfl, rfl, rfl, rfl, rfl, rfl⟩, rfl, rfl, rfl, rfl, rfl, rfl, rfl, rfl, _, _, _, rfl, HA.out, HS1.out⟩
end
end Go.Proofs.YtphaaagcdjpceaaDoor
namespace Go.Proofs.YtphaaagcdjpceaaDoor
open Go.RowKit Go.Proofs.YtphaaagcdjpceaaDoorW.PrintWords
set_option linter.unusedVariables false
structure WL (c N Ns : Nat) (ps : List S108) (os : List S40) (cap : Nat) (D : DataW Unit) (F : Int → Nat × Sn) (L : List Seat) : Prop where
  mt : MT c D ps F L
  ply : Ply ps os N c
  sps : ∀ s ∈ L, Ply s.ps s.hs Ns c
  refs : ∀ s ∈ L, ∀ r ∈ s.rs, 0 ≤ r ∧ r < 16
  cap : cap ≤ c
theorem Ply.nil (N c : Nat) : Ply [] [] N c := ⟨Nat.zero_le _, Nat.zero_le _, Nat.zero_le _, fun k h => absurd h (Nat.not_lt_zero _), fun k h => absurd h (Nat.not_lt_zero _)⟩
theorem Ply.erase {ps : List S108} {hs : List S40} {N c : Nat} (h : Ply ps hs N c) {j : Nat} (hj : j < hs.length) : Ply ps (hs.eraseIdx j) N c := by
  have hl : (hs.eraseIdx j).length = hs.length - 1 := List.length_eraseIdx_of_lt hj
  refine ⟨h.lp, h.lc, by have := h.lh; omega, h.tb, fun k hk => ?_⟩
  rw [hl] at hk
  rw [hat_erase]
  split
  · exact h.hb k (by omega)
  · exact h.hb (k + 1) (by omega)
section
variable {c N Ns : Nat} {ps : List S108} {os : List S40} {cap : Nat} {D : DataW Unit} {F : Int → Nat × Sn} {L : List Seat}
theorem WL.start (N Ns : Nat) (F : Int → Nat × Sn) : WL 0 N Ns [] [] 0 (.map []) F [] := ⟨MT.start F, Ply.nil N 0, fun s h => by simp at h, fun s h => by simp at h, Nat.le_refl _⟩
theorem WL.up (h : WL c N Ns ps os cap D F L) : WL (c + 1) N Ns ps os cap D F L := ⟨h.mt.more (Nat.le_succ _), h.ply.up, fun s hs => (h.sps s hs).up, h.refs, Nat.le_succ_of_le h.cap⟩
theorem WL.turn (h : WL c N Ns ps os cap D F L) {i : Nat} (hi : i < L.length) {p : Int} (hxp : L[i].x = p) {s' : Seat} {u' : Sn} (hx : s'.x = L[i].x ∧ s'.t = L[i].t) (hm : MS (c + 1) s' u') (hp : Ply s'.ps s'.hs Ns (c + 1)) (hr : ∀ r ∈ s'.rs, 0 ≤ r ∧ r < 16) : WL (c + 1) N Ns ps os cap D (upF F p ((F p).1, u')) (L.set i s') := by
  subst hxp
  refine ⟨h.mt.turn hi hx hm, h.ply.up, fun s hs => ?_, fun s hs => ?_, Nat.le_succ_of_le h.cap⟩
  · rcases List.mem_or_eq_of_mem_set hs with h1 | h1
    · exact (h.sps s h1).up
    · subst h1; exact hp
  · rcases List.mem_or_eq_of_mem_set hs with h1 | h1
    · exact h.refs s h1
    · subst h1; exact hr
theorem WL.open_ (h : WL c N Ns ps os cap D F L) (hc : c ≤ 100) (hD : Go.Maps.IsMap D) {i : Nat} (hi : i ≤ ps.length) (hN : i < N) (hf : i < ps.length → (plc ps i).f1 = false) {s' : Seat} {b : Nat} {u' : Sn} (hx : s'.x = (i : Int) ∧ s'.t = turnOf ps i) (hm : MS (c + 1) s' u') (hp : Ply s'.ps s'.hs Ns (c + 1)) (hr : ∀ r ∈ s'.rs, 0 ≤ r ∧ r < 16) :
    WL (c + 1) N Ns (tookL ps i) (os ++ [⟨(i : Int), turnOf ps i⟩]) (cap + 1) (D.put (.int .i64 (i : Int)) (.lit (.int .i64 (b : Int)))) (upF F (i : Int) (b, u')) (L ++ [s']) := by
  refine ⟨h.mt.open_ hD hi hf hx hm, h.ply.took2 hi hN hc, fun s hs => ?_, fun s hs => ?_, Nat.succ_le_succ h.cap⟩
  · rcases List.mem_append.1 hs with h1 | h1
    · exact (h.sps s h1).up
    · simp at h1; subst h1; exact hp
  · rcases List.mem_append.1 hs with h1 | h1
    · exact h.refs s h1
    · simp at h1; subst h1; exact hr
theorem WL.close (h : WL c N Ns ps os cap D F L) {j i : Nat} (hj : j < L.length) (hi : L[j].x = (i : Int)) (hil : i < ps.length) : WL (c + 1) N Ns (freed ps i) os cap (D.del (.int .i64 (i : Int))) F (L.eraseIdx j) :=
  ⟨(h.mt.close hj hi hil).more (Nat.le_succ _), h.ply.freed hil, fun s hs => (h.sps s (List.mem_of_mem_eraseIdx hs)).up, fun s hs => h.refs s (List.mem_of_mem_eraseIdx hs), Nat.le_succ_of_le h.cap⟩
theorem WL.at_ (h : WL c N Ns ps os cap D F L) (hc : c ≤ 100) {k : Nat} (hk : k < L.length) {p t : Int} (hx : L[k].x = p ∧ L[k].t = t) : ∃ i : Nat, p = (i : Int) ∧ i < ps.length ∧ hasB ps p t = true ∧ hasI D p ∧ MS c L[k] (F p).2 ∧ (Lit.int .i64 p).wf = true := by
  obtain ⟨rfl, rfl⟩ := hx
  obtain ⟨h1, h2, h3⟩ := h.mt.x _ (List.getElem_mem hk)
  obtain ⟨i, e, hi, _⟩ := hasB_lt h1
  have h5 := h.ply.lc
  have h6 := h.mt.len
  refine ⟨i, e, hi, h1, h2, h3, ?_⟩
  rw [e]
  exact wf_i64 (by omega) (by omega)
theorem WL.atS (h : WL c N Ns ps os cap D F L) (hc : c ≤ 100) {s : Seat} (hs : s ∈ L) {p t : Int} (hx : s.x = p ∧ s.t = t) : ∃ i : Nat, p = (i : Int) ∧ i < ps.length ∧ hasB ps p t = true ∧ hasI D p ∧ MS c s (F p).2 ∧ (Lit.int .i64 p).wf = true := by
  obtain ⟨k, hk, rfl⟩ := List.mem_iff_getElem.1 hs
  exact h.at_ hc hk hx
theorem WL.turnS (h : WL c N Ns ps os cap D F L) {i : Nat} {s : Seat} (hk : ∃ h : i < L.length, L[i] = s) {p : Int} (hxp : s.x = p) {s' : Seat} {u' : Sn} (hx : s'.x = s.x ∧ s'.t = s.t) (hm : MS (c + 1) s' u') (hp : Ply s'.ps s'.hs Ns (c + 1)) (hr : ∀ r ∈ s'.rs, 0 ≤ r ∧ r < 16) : WL (c + 1) N Ns ps os cap D (upF F p ((F p).1, u')) (L.set i s') := by
  obtain ⟨hi, rfl⟩ := hk
  exact h.turn hi hxp hx hm hp hr
end
def St11 (w W : World) (d pg M rp N Ns : Nat) (snaps : Int) (c : Nat) (va vo : Value) : Prop := ∃ ps cap D F L os, WM w W d pg M rp N Ns (cnt ps : Int) ps ps snaps cap D F L va vo os ∧ WL c N Ns ps os cap D F L
end Go.Proofs.YtphaaagcdjpceaaDoor
namespace Go.Proofs.YtphaaagcdjpceaaDoor
open Go.RowKit Go.Extern.Stop Go.Stop Go.Extern Go.Proofs.YtphaaagcdjpceaaDoorW.PrintWords Go.Proofs.YtphaaagcdjpceaaDoorW.PrintLast Go.Proofs.YtphaaagcdjpceaaDoorW.PrintMore
set_option linter.unusedVariables false
theorem bytesOf_str2 {a b : Int} (ha : 0 ≤ a ∧ a < 256) (hb : 0 ≤ b ∧ b < 256) : bytesOf (strOfNums [a, b]) = [a, b] := by
  have e : ∀ x : Int, 0 ≤ x ∧ x < 256 → ((UInt8.ofNat x.toNat).toNat : Int) = x := fun x hx => by
    rw [UInt8.toNat_ofNat', Nat.mod_eq_of_lt (by omega)]; omega
  show [((UInt8.ofNat a.toNat).toNat : Int), ((UInt8.ofNat b.toNat).toNat : Int)] = _
  rw [e a ha, e b hb]
theorem bytes2 (W : World) (a b : Int) : Kd.C (Kd.int .u8) (W.alloc (.cells #[.int .u8 a, .int .u8 b] 5)) (some ⟨W.heap.size, 0, none⟩) 2 [a, b] := by
  refine Kd.C_of_reads (d := (0 : Int)) ⟨rfl, by simp, fun _ => ⟨⟨W.heap.size, 0, none⟩, rfl, fun i hi => ?_⟩⟩
  have hb := heap_alloc_new W (.cells #[.int .u8 a, .int .u8 b] 5)
  rcases (show i = 0 ∨ i = 1 by omega) with rfl | rfl
  · exact (blk_cell hb 0).trans rfl
  · exact (blk_cell hb 1).trans rfl
theorem conv80 (W : World) (a b : Int) : (convert 80 9 (.slice (some ⟨W.heap.size, 0, none⟩) 2 2)).run Tryd.prog (W.alloc (.cells #[.int .u8 a, .int .u8 b] 5)) = .ok (.string (strOfNums [a, b])) (W.alloc (.cells #[.int .u8 a, .int .u8 b] 5)) := str80 (bytes2 W a b)
def bw2 (W : World) (a b : Int) : World := Lib.bytesWorld W 5 (strOfNums [a, b])
theorem conv9 (W : World) (a b : Int) : (convert 9 80 (.string (strOfNums [a, b]))).run Tryd.prog W = .ok (.slice (some ⟨W.heap.size, 0, none⟩) 2 (grownCap W 2 0 5)) (bw2 W a b) := Lib.run_convert_string_bytes W 9 80 5 (strOfNums [a, b]) Tryd.underlying9 Tryd.underlying80 Tryd.underlying5
theorem bw2_below (W : World) (a b : Int) : Below W.heap.size W (bw2 W a b) := bytes_below (Below.refl _ _) (Nat.le_refl _) 5 _
theorem bw2_C (W : World) {a b : Int} (ha : 0 ≤ a ∧ a < 256) (hb : 0 ≤ b ∧ b < 256) : Kd.C (Kd.int .u8) (bw2 W a b) (some ⟨W.heap.size, 0, none⟩) [a, b].length [a, b] := by
  refine Kd.C_of_reads (d := (0 : Int)) ?_
  have h := bytes_reads W 5 (strOfNums [a, b]) (by rw [strOfNums_size]; show 2 ≤ _; decide)
  rw [bytesOf_str2 ha hb] at h
  exact h
theorem dsend2 {w W : World} {d pg M : Nat} {most n : Int} {ps : List S108} {snaps : Int} {cap : Nat} {D : DataW Unit} {sm : Int} {F : Int → Nat × Sn} (h : DS w W d pg M most n ps snaps cap D sm F) {p t : Int} (hp : (Lit.int .i64 p).wf = true) (hh : hasB ps p t = true) (hx : hasI D p) (hw : (F p).2.wt = false) (A : Option Addr) (c : Nat) {b1 b2 : Int} (hb : Kd.C (Kd.int .u8) W A [b1, b2].length [b1, b2]) :
    Calls Tryd.prog 41 #[.pointer (some ⟨d, 0, none⟩), .agg #[.int .i64 p, .int .i64 t], .slice A 2 c] W fun e w' => ∃ v', e = .returned .nilIface ∧ DS w w' d pg M most n ps snaps cap D sm (upF F p ((F p).1, { (F p).2 with wt := true, bv := v', bs := [b1, b2] })) ∧ Keeps DT W w' :=
  dsend h hp hh hx hw A c [b1, b2] hb (show 2 ≤ 100000 by decide)
section
variable {w W W1 : World} {d pg M rp N Ns : Nat} {n : Int} {ps qs : List S108} {snaps : Int} {cap : Nat} {D : DataW Unit} {F : Int → Nat × Sn} {L : List Seat} {va vo : Value} {os : List S40}
theorem WM.head (h : WM w W d pg M rp N Ns n ps qs snaps cap D F L va vo os) {i : Nat} (hi : i < L.length) {s' : Seat} (e1 : s'.bl = L[i].bl) (e2 : s'.rp = L[i].rp) (e3 : s'.ps = L[i].ps) (e4 : s'.hv = L[i].hv) (e5 : s'.hs = L[i].hs) (e6 : s'.rv = L[i].rv) (e7 : s'.rs = L[i].rs)
    (hd : W1.heap[L[i].bl]? = some (.cells #[.int .i64 s'.x, .int .i64 s'.t, .bool s'.wt, .string s'.b, .pointer (some ⟨s'.rp, 0, none⟩), s'.hv, s'.rv] 96 (0, 0))) (hs : ∀ k, k ≠ L[i].bl → W1.heap[k]? = W.heap[k]?) (hb : Below w.heap.size w W1) : WM w W1 d pg M rp N Ns n ps qs snaps cap D F (L.set i s') va vo os := by
  have hSE := h.sl.all _ (List.getElem_mem hi)
  have hrp : ∀ k, (k = L[i].rp ∨ some k = bk W L[i].rp 0 ∨ some k = bk W L[i].rp 1) → W1.heap[k]? = W.heap[k]? := fun k hk => by
    obtain ⟨cs, t, fr, hc, ht, _⟩ := hSE.rp.typed k hk
    refine hs k (fun e => ?_)
    rw [e, hSE.hd] at hc; injection hc with hc; injection hc with _ hc _
    subst hc
    rcases ht with e | e | e <;> exact absurd e (by decide)
  have hf : ∀ k, sfoot W1 s' k → sfoot W L[i] k := fun k hk => by
    unfold sfoot at hk ⊢
    rw [e1, e2, e4, e6, bk_same (hrp _ (.inl rfl)), bk_same (hrp _ (.inl rfl))] at hk
    exact hk
  refine h.seat hi (s' := s') ⟨by rw [e1]; exact hd, ?_, ?_, ?_, by rw [e1]; exact hSE.lo⟩ e1 (fun k hk => .inl (hf k hk)) (fun k hk hn => hs k (fun e => hn (.inl e))) hb (fun k hk => ?_)
  · rw [e2, e3]; exact hSE.rp.same hrp
  · rw [e4, e5]
    refine R_same hSE.hr rfl (fun k hk => hs k (fun e => ?_))
    exact Kd.R_ne hSE.hr hSE.hd (by decide) (by rw [← e]; exact hk)
  · rw [e6, e7]
    refine R_same hSE.rr rfl (fun k hk => hs k (fun e => ?_))
    exact Kd.R_ne hSE.rr hSE.hd (by decide) (by rw [← e]; exact hk)
  · rw [e6] at hk
    rw [e2, bk_same (hrp _ (.inl rfl))]
    exact h.ap3 _ (List.getElem_mem hi) k hk
theorem WM.headS (h : WM w W d pg M rp N Ns n ps qs snaps cap D F L va vo os) {i : Nat} {s : Seat} (hk : ∃ h : i < L.length, L[i] = s) {bl : Nat} (hbl : s.bl = bl) {s' : Seat} (e1 : s'.bl = s.bl) (e2 : s'.rp = s.rp) (e3 : s'.ps = s.ps) (e4 : s'.hv = s.hv) (e5 : s'.hs = s.hs) (e6 : s'.rv = s.rv) (e7 : s'.rs = s.rs)
    (hd : W1.heap[bl]? = some (.cells #[.int .i64 s'.x, .int .i64 s'.t, .bool s'.wt, .string s'.b, .pointer (some ⟨s'.rp, 0, none⟩), s'.hv, s'.rv] 96 (0, 0))) (hs : ∀ k, k ≠ bl → W1.heap[k]? = W.heap[k]?) (hb : Below w.heap.size w W1) : WM w W1 d pg M rp N Ns n ps qs snaps cap D F (L.set i s') va vo os := by
  obtain ⟨hi, rfl⟩ := hk
  subst hbl
  exact h.head hi e1 e2 e3 e4 e5 e6 e7 hd hs hb
end
attribute [local go_sem high] eq40 ne40
section
variable {v0 v1 : Value} {A : Option Addr} {len cap : Nat} {B : Option Addr} {lenB capB : Nat} {v9 : Value} {d rp : Nat} {w W0 W : World} {va vo : Value} {i : Nat}
set_option maxHeartbeats 4000000 in
set_option maxRecDepth 100000 in
theorem p34s_n {a : Act} (hFD : FD a v0 v1 A len cap B lenB capB v9 d rp)
    {n : Int} {hb sb : Nat} {p t : Int} {M pg N Ns : Nat} {ps : List S108} {snaps : Int} {cp : Nat} {Dm : DataW Unit} {F : Int → Nat × Sn} {L : List Seat} {os : List S40} {v21 : Value} (hG : Good w) (h : WM w W d pg M rp N Ns (cnt ps : Int) ps ps snaps cp Dm F L va vo os) (hl : WL i N Ns ps os cp Dm F L) (hh : Hn W hb p t) (hpr : -9223372036854775808 ≤ p ∧ p ≤ 9223372036854775807) (hi : i < 50) (hf : ∀ s ∈ L, ¬ (s.x = p ∧ s.t = t)) (hn : n % 8 = 2 ∨ n % 8 = 3) (h12 : sl a 12 = va) (h13 : sl a 13 = vo) (h14 : sl a 14 = .int .i64 (i : Int)) (h15 : sl a 15 = .int .i64 n) (h16 : sl a 16 = .pointer (some ⟨hb, 0, none⟩)) (h17 : sl a 17 = .pointer (some ⟨sb, 0, none⟩)) (h18 : sl a 18 = .pointer none) (h19 : sl a 19 = .int .i64 (-1)) (h21 : sl a 21 = v21) (h23 : sl a 23 = .int .i64 0) (h24 : sl a 24 = .int .i64 3) :
    Does (cpart [1, 1, 1, 1, 1, 1, 1, 1, 1, 1, 0] cD) (fun a' w' => FD a' v0 v1 A len cap B lenB capB v9 d rp ∧ sl a' 14 = .int .i64 (i : Int) ∧ ∃ va vo ec, sl a' 12 = va ∧ sl a' 13 = vo ∧ sl a' 23 = .int .i64 ec ∧ sl a' 24 = .int .i64 ec ∧ St11 w w' d pg M rp N Ns snaps (i + 1) va vo) a W := by
  obtain ⟨hf, g0, g1, g2, g3, g9, g10, g11⟩ := hFD
  obtain ⟨u, rfl⟩ := hf.open
  rw [sl_fr u 0 (by decide)] at g0
  rw [sl_fr u 1 (by decide)] at g1
  rw [sl_fr u 2 (by decide)] at g2
  rw [sl_fr u 3 (by decide)] at g3
  rw [sl_fr u 9 (by decide)] at g9
  rw [sl_fr u 10 (by decide)] at g10
  rw [sl_fr u 11 (by decide)] at g11
  rw [sl_fr u 12 (by decide)] at h12
  rw [sl_fr u 13 (by decide)] at h13
  rw [sl_fr u 14 (by decide)] at h14
  rw [sl_fr u 15 (by decide)] at h15
  rw [sl_fr u 16 (by decide)] at h16
  rw [sl_fr u 17 (by decide)] at h17
  rw [sl_fr u 18 (by decide)] at h18
  rw [sl_fr u 19 (by decide)] at h19
  rw [sl_fr u 21 (by decide)] at h21
  rw [sl_fr u 23 (by decide)] at h23
  rw [sl_fr u 24 (by decide)] at h24
  intro J Q hJ hQ
  unfold fr
  rw [g0, g1, g2, g3, g9, g10, g11, h12, h13, h14, h15, h16, h17, h18, h19, h21, h23, h24]
  clear hf g0 g1 g2 g3 g9 g10 g11 h12 h13 h14 h15 h16 h17 h18 h19 h21 h23 h24
  conv => arg 2; whnf
  have HG := Lib.hid hG
  have HM := Lib.hid h
  have HL := Lib.hid hl
  have HH := Lib.hid hh
  have HPR := Lib.hid hpr
  have HI := Lib.hid hi
  clear hG h hl hh hpr hi
  have HF := Lib.hid hf
  clear hf
  rcases hn with hn | hn
  all_goals
    have q : Go.bits .and .i64 n 7 = n % 8 := and_mask n 3 (by decide)
    rw [hn] at q
    clear hn
    go_upto_region 79 with (fail)
    clear q
    have kc := conv80
    go_upto_region 80 with (fail)
    clear kc
    have hb1 : 0 ≤ n / 1099511627776 % 256 ∧ n / 1099511627776 % 256 < 256 := by omega
    have hb2 : 0 ≤ n / 281474976710656 % 256 ∧ n / 281474976710656 % 256 < 256 := by omega
    have HB1 := Lib.hid hb1
    have HB2 := Lib.hid hb2
    clear hb1 hb2
    have B1 := below_alloc (Below.refl W.heap.size W) (.cells #[.int .u8 (n / 1099511627776 % 256), .int .u8 (n / 281474976710656 % 256)] 5)
    have HM1 := Lib.hid (HM.out.below B1)
    have HH1 := Lib.hid (show Hn _ _ _ _ from blk_below HH.out B1)
    clear B1 HM HH
    generalize W.alloc (.cells #[.int .u8 (n / 1099511627776 % 256), .int .u8 (n / 281474976710656 % 256)] 5) = W1 at *
    generalize n / 1099511627776 % 256 = b1 at *
    generalize n / 281474976710656 % 256 = b2 at *
    have kd := conv9 W1 b1 b2
    have q0 := (blk_cell HH1.out 0).trans (show _ = some (Value.int .i64 p) from rfl)
    have q1 := (blk_cell HH1.out 1).trans (show _ = some (Value.int .i64 t) from rfl)
    go_wp2_with (fail)
    clear kd q0 q1
    have HM2 := Lib.hid (HM1.out.below (bw2_below W1 b1 b2))
    have HC2 := Lib.hid (bw2_C W1 HB1.out HB2.out)
    clear HM1 HH1 HB1 HB2
    generalize bw2 W1 b1 b2 = W2 at *
    go_at_call 41
    (with_reducible refine (dsend_no HM2.out.ds HG.out HPR.out (HL.out.mt.none HF.out) _ _ _).mono ?_)
    rintro e w3 ⟨k3, rfl, hj, _, hb3⟩
    have HM3 := Lib.hid (HM2.out.below hb3)
    have HJ3 := Lib.hid hj
    clear hj hb3 HM2 HC2
    go_wp2_with (fail)
    go_at_call 14
    (with_reducible refine (code_join k3 3 _ (good_et' (HM3.out.ds.good HG.out)) HJ3.out).mono ?_)
    rintro e w4 ⟨rfl, hb4⟩
    have HM4 := Lib.hid (HM3.out.below hb4)
    clear hb4 HM3 HJ3
    go_wp2
    refine Met.intro (hJ _ _ ?_)
    exact ⟨⟨⟨rfl, rfl⟩, rfl, rfl, rfl, rfl, rfl, rfl, rfl⟩, rfl, _, _, _, rfl, rfl, rfl, rfl, ps, cp, Dm, F, L, os, HM4.out, HL.out.up⟩
set_option maxHeartbeats 4000000 in
set_option maxRecDepth 100000 in
theorem p34s_s {a : Act} (hFD : FD a v0 v1 A len cap B lenB capB v9 d rp)
    {n : Int} {hb sb : Nat} {p t : Int} {M pg N Ns : Nat} {ps : List S108} {snaps : Int} {cp : Nat} {Dm : DataW Unit} {F : Int → Nat × Sn} {L : List Seat} {os : List S40} {v21 : Value} (hG : Good w) (h : WM w W d pg M rp N Ns (cnt ps : Int) ps ps snaps cp Dm F L va vo os) (hl : WL i N Ns ps os cp Dm F L) (hh : Hn W hb p t) (hpr : -9223372036854775808 ≤ p ∧ p ≤ 9223372036854775807) (hi : i < 50) {k : Nat} {s : Seat} {bl : Nat} (hk : k < L.length) (hs : L[k] = s) (hx : s.x = p ∧ s.t = t) (hbl : s.bl = bl) (hn : n % 8 = 2 ∨ n % 8 = 3) (h12 : sl a 12 = va) (h13 : sl a 13 = vo) (h14 : sl a 14 = .int .i64 (i : Int)) (h15 : sl a 15 = .int .i64 n) (h16 : sl a 16 = .pointer (some ⟨hb, 0, none⟩)) (h17 : sl a 17 = .pointer (some ⟨sb, 0, none⟩)) (h18 : sl a 18 = .pointer (some ⟨bl, 0, none⟩)) (h19 : sl a 19 = .int .i64 (k : Int)) (h21 : sl a 21 = v21) (h23 : sl a 23 = .int .i64 0) (h24 : sl a 24 = .int .i64 3) :
    Does (cpart [1, 1, 1, 1, 1, 1, 1, 1, 1, 1, 0] cD) (fun a' w' => FD a' v0 v1 A len cap B lenB capB v9 d rp ∧ sl a' 14 = .int .i64 (i : Int) ∧ ∃ va vo ec, sl a' 12 = va ∧ sl a' 13 = vo ∧ sl a' 23 = .int .i64 ec ∧ sl a' 24 = .int .i64 ec ∧ St11 w w' d pg M rp N Ns snaps (i + 1) va vo) a W := by
  obtain ⟨hf, g0, g1, g2, g3, g9, g10, g11⟩ := hFD
  obtain ⟨u, rfl⟩ := hf.open
  rw [sl_fr u 0 (by decide)] at g0
  rw [sl_fr u 1 (by decide)] at g1
  rw [sl_fr u 2 (by decide)] at g2
  rw [sl_fr u 3 (by decide)] at g3
  rw [sl_fr u 9 (by decide)] at g9
  rw [sl_fr u 10 (by decide)] at g10
  rw [sl_fr u 11 (by decide)] at g11
  rw [sl_fr u 12 (by decide)] at h12
  rw [sl_fr u 13 (by decide)] at h13
  rw [sl_fr u 14 (by decide)] at h14
  rw [sl_fr u 15 (by decide)] at h15
  rw [sl_fr u 16 (by decide)] at h16
  rw [sl_fr u 17 (by decide)] at h17
  rw [sl_fr u 18 (by decide)] at h18
  rw [sl_fr u 19 (by decide)] at h19
  rw [sl_fr u 21 (by decide)] at h21
  rw [sl_fr u 23 (by decide)] at h23
  rw [sl_fr u 24 (by decide)] at h24
  intro J Q hJ hQ
  unfold fr
  rw [g0, g1, g2, g3, g9, g10, g11, h12, h13, h14, h15, h16, h17, h18, h19, h21, h23, h24]
  clear hf g0 g1 g2 g3 g9 g10 g11 h12 h13 h14 h15 h16 h17 h18 h19 h21 h23 h24
  conv => arg 2; whnf
  have HG := Lib.hid hG
  have HM := Lib.hid h
  have HL := Lib.hid hl
  have HH := Lib.hid hh
  have HPR := Lib.hid hpr
  have HI := Lib.hid hi
  clear hG h hl hh hpr hi
  have HSM := Lib.hid (show s ∈ L from hs ▸ List.getElem_mem hk)
  have HK := Lib.hid (show ∃ h : k < L.length, L[k] = s from ⟨hk, hs⟩)
  have HBL := Lib.hid hbl
  have HX := Lib.hid hx
  have hat := HL.out.atS (by have := HI.out; omega) HSM.out hx
  obtain ⟨ix, hix, hil, hB, hD, hMS, hwf⟩ := hat
  have HAT := Lib.hid (And.intro hB (And.intro hD hwf))
  have HIX := Lib.hid (And.intro hix hil)
  have HMS := Lib.hid hMS
  clear hbl hx hs hk hix hil hB hD hMS hwf
  obtain ⟨wt, hwt⟩ : ∃ wt, s.wt = wt := ⟨_, rfl⟩
  have HWT := Lib.hid hwt
  clear hwt
  rcases hn with hn | hn
  all_goals
    have q : Go.bits .and .i64 n 7 = n % 8 := and_mask n 3 (by decide)
    rw [hn] at q
    clear hn
    go_upto_region 79 with (fail)
    clear q
    have kc := conv80
    go_upto_region 80 with (fail)
    clear kc
    have hb1 : 0 ≤ n / 1099511627776 % 256 ∧ n / 1099511627776 % 256 < 256 := by omega
    have hb2 : 0 ≤ n / 281474976710656 % 256 ∧ n / 281474976710656 % 256 < 256 := by omega
    have HB1 := Lib.hid hb1
    have HB2 := Lib.hid hb2
    clear hb1 hb2
    have B1 := below_alloc (Below.refl W.heap.size W) (.cells #[.int .u8 (n / 1099511627776 % 256), .int .u8 (n / 281474976710656 % 256)] 5)
    have HM1 := Lib.hid (HM.out.below B1)
    have HH1 := Lib.hid (show Hn _ _ _ _ from blk_below HH.out B1)
    clear B1 HM HH
    generalize W.alloc (.cells #[.int .u8 (n / 1099511627776 % 256), .int .u8 (n / 281474976710656 % 256)] 5) = W1 at *
    generalize n / 1099511627776 % 256 = b1 at *
    generalize n / 281474976710656 % 256 = b2 at *
    have kd := conv9 W1 b1 b2
    have q0 := (blk_cell HH1.out 0).trans (show _ = some (Value.int .i64 p) from rfl)
    have q1 := (blk_cell HH1.out 1).trans (show _ = some (Value.int .i64 t) from rfl)
    go_wp2_with (fail)
    clear kd q0 q1
    have HM2 := Lib.hid (HM1.out.below (bw2_below W1 b1 b2))
    have HC2 := Lib.hid (bw2_C W1 HB1.out HB2.out)
    clear HM1 HH1 HB1 HB2
    generalize bw2 W1 b1 b2 = W2 at *
    have hw0 := HMS.out.wt.trans HWT.out
    go_at_call 41
    cases wt
    · (with_reducible refine (dsend2 HM2.out.ds HAT.out.2.2 HAT.out.1 HAT.out.2.1 hw0 _ (grownCap W1 2 0 5) HC2.out).mono ?_)
      clear hw0
      rintro e w3 ⟨v3, rfl, hd3, hk3⟩
      have HM3 := Lib.hid (HM2.out.keeps hk3 hd3)
      clear hd3 hk3 HM2 HC2
      go_wp2_with (fail)
      go_at_call 14
      (with_reducible refine (code_nil _).mono ?_)
      rintro e w4 ⟨rfl, rfl⟩
      have hSE := HM3.out.sl.all _ HSM.out
      have hbk := hSE.hd
      rw [HBL.out] at hbk
      have HBK := Lib.hid hbk
      have k2 := (blk_cell hbk 2).trans (show _ = some (Value.bool s.wt) from rfl)
      rw [HWT.out] at k2
      have k3 := (blk_cell hbk 3).trans (show _ = some (Value.string s.b) from rfl)
      have f2 := blk_frozen hbk 2
      have f3 := blk_frozen hbk 3
      have HLO := Lib.hid (show w.heap.size ≤ bl by rw [← HBL.out]; exact hSE.lo)
      clear hSE hbk
      go_wp2
      have HMF := Lib.hid (HM3.out.headS HK.out HBL.out (s' := { s with wt := true, b := strOfNums [b1, b2] }) rfl rfl rfl rfl rfl rfl rfl (blk_set (blk_set HBK.out 2 (.bool true)) 3 (.string (strOfNums [b1, b2]))) (fun j hj => (Below.heap_setCell _ ⟨bl, 3, none⟩ _ j hj).trans (Below.heap_setCell _ ⟨bl, 2, none⟩ (.bool true) j hj)) ((HM3.out.ds.bl.setCell (p := ⟨bl, 2, none⟩) HLO.out _).setCell (p := ⟨bl, 3, none⟩) HLO.out _))
      have HLF := Lib.hid (HL.out.turnS HK.out HX.out.1 (s' := { s with wt := true, b := strOfNums [b1, b2] }) ⟨rfl, rfl⟩ ((HMS.out.sent v3 [b1, b2] (show 2 ≤ 2 by decide)).more (Nat.le_succ _)) ((HL.out.sps _ HSM.out).up) (HL.out.refs s HSM.out))
      refine Met.intro (hJ _ _ ?_)
      exact ⟨⟨⟨rfl, rfl⟩, rfl, rfl, rfl, rfl, rfl, rfl, rfl⟩, rfl, _, _, _, rfl, rfl, rfl, rfl, ps, cp, Dm, _, _, os, HMF.out, HLF.out⟩
    · (with_reducible refine (dsend_busy HM2.out.ds HG.out HAT.out.2.2 HAT.out.1 HAT.out.2.1 hw0 _ 2 _ (by decide)).mono ?_)
      clear hw0
      rintro e w3 ⟨k3, rfl, hj, _, hb3⟩
      have HM3 := Lib.hid (HM2.out.below hb3)
      have HJ3 := Lib.hid hj
      clear hj hb3 HM2 HC2
      go_wp2_with (fail)
      go_at_call 14
      (with_reducible refine (code_join k3 17 _ (good_et' (HM3.out.ds.good HG.out)) HJ3.out).mono ?_)
      rintro e w4 ⟨rfl, hb4⟩
      have HM4 := Lib.hid (HM3.out.below hb4)
      clear hb4 HM3 HJ3
      have hbk := (HM4.out.sl.all _ HSM.out).hd
      rw [HBL.out] at hbk
      have k2 := (blk_cell hbk 2).trans (show _ = some (Value.bool s.wt) from rfl)
      rw [HWT.out] at k2
      clear hbk
      go_wp2
      refine Met.intro (hJ _ _ ?_)
      exact ⟨⟨⟨rfl, rfl⟩, rfl, rfl, rfl, rfl, rfl, rfl, rfl⟩, rfl, _, _, _, rfl, rfl, rfl, rfl, ps, cp, Dm, F, L, os, HM4.out, HL.out.up⟩
end
end Go.Proofs.YtphaaagcdjpceaaDoor
namespace Go.Proofs.YtphaaagcdjpceaaDoor
open Go.RowKit Go.Extern.Stop Go.Stop Go.Extern Go.Proofs.YtphaaagcdjpceaaDoorW.PrintWords Go.Proofs.YtphaaagcdjpceaaDoorW.PrintLast Go.Proofs.YtphaaagcdjpceaaDoorW.PrintMore
set_option linter.unusedVariables false
attribute [local go_sem high] eq40 ne40
section
variable {v0 v1 : Value} {A : Option Addr} {len cap : Nat} {B : Option Addr} {lenB capB : Nat} {v9 : Value} {d rp : Nat} {w W0 W : World} {va vo : Value} {i : Nat}
set_option maxHeartbeats 4000000 in
set_option maxRecDepth 100000 in
theorem p34t_n {a : Act} (hFD : FD a v0 v1 A len cap B lenB capB v9 d rp)
    {n : Int} {hb sb : Nat} {p t : Int} {M pg N Ns : Nat} {ps : List S108} {snaps : Int} {cp : Nat} {Dm : DataW Unit} {F : Int → Nat × Sn} {L : List Seat} {os : List S40} {v21 : Value} (hG : Good w) (h : WM w W d pg M rp N Ns (cnt ps : Int) ps ps snaps cp Dm F L va vo os) (hl : WL i N Ns ps os cp Dm F L) (hh : Hn W hb p t) (hpr : -9223372036854775808 ≤ p ∧ p ≤ 9223372036854775807) (hi : i < 50) (hf : ∀ s ∈ L, ¬ (s.x = p ∧ s.t = t)) (hn : n % 8 = 4) (h12 : sl a 12 = va) (h13 : sl a 13 = vo) (h14 : sl a 14 = .int .i64 (i : Int)) (h15 : sl a 15 = .int .i64 n) (h16 : sl a 16 = .pointer (some ⟨hb, 0, none⟩)) (h17 : sl a 17 = .pointer (some ⟨sb, 0, none⟩)) (h18 : sl a 18 = .pointer none) (h19 : sl a 19 = .int .i64 (-1)) (h21 : sl a 21 = v21) (h23 : sl a 23 = .int .i64 0) (h24 : sl a 24 = .int .i64 3) :
    Does (cpart [1, 1, 1, 1, 1, 1, 1, 1, 1, 1, 0] cD) (fun a' w' => FD a' v0 v1 A len cap B lenB capB v9 d rp ∧ sl a' 14 = .int .i64 (i : Int) ∧ ∃ va vo ec, sl a' 12 = va ∧ sl a' 13 = vo ∧ sl a' 23 = .int .i64 ec ∧ sl a' 24 = .int .i64 ec ∧ St11 w w' d pg M rp N Ns snaps (i + 1) va vo) a W := by
  obtain ⟨hf, g0, g1, g2, g3, g9, g10, g11⟩ := hFD
  obtain ⟨u, rfl⟩ := hf.open
  rw [sl_fr u 0 (by decide)] at g0
  rw [sl_fr u 1 (by decide)] at g1
  rw [sl_fr u 2 (by decide)] at g2
  rw [sl_fr u 3 (by decide)] at g3
  rw [sl_fr u 9 (by decide)] at g9
  rw [sl_fr u 10 (by decide)] at g10
  rw [sl_fr u 11 (by decide)] at g11
  rw [sl_fr u 12 (by decide)] at h12
  rw [sl_fr u 13 (by decide)] at h13
  rw [sl_fr u 14 (by decide)] at h14
  rw [sl_fr u 15 (by decide)] at h15
  rw [sl_fr u 16 (by decide)] at h16
  rw [sl_fr u 17 (by decide)] at h17
  rw [sl_fr u 18 (by decide)] at h18
  rw [sl_fr u 19 (by decide)] at h19
  rw [sl_fr u 21 (by decide)] at h21
  rw [sl_fr u 23 (by decide)] at h23
  rw [sl_fr u 24 (by decide)] at h24
  intro J Q hJ hQ
  unfold fr
  rw [g0, g1, g2, g3, g9, g10, g11, h12, h13, h14, h15, h16, h17, h18, h19, h21, h23, h24]
  clear hf g0 g1 g2 g3 g9 g10 g11 h12 h13 h14 h15 h16 h17 h18 h19 h21 h23 h24
  conv => arg 2; whnf
  have HG := Lib.hid hG
  have HM := Lib.hid h
  have HL := Lib.hid hl
  have HH := Lib.hid hh
  have HPR := Lib.hid hpr
  have HI := Lib.hid hi
  clear hG h hl hh hpr hi
  have HF := Lib.hid hf
  clear hf
  have q : Go.bits .and .i64 n 7 = n % 8 := and_mask n 3 (by decide)
  rw [hn] at q
  clear hn
  have q0 := (blk_cell HH.out 0).trans (show _ = some (Value.int .i64 p) from rfl)
  have q1 := (blk_cell HH.out 1).trans (show _ = some (Value.int .i64 t) from rfl)
  go_wp2_with (fail)
  clear q q0 q1
  go_at_call 45
  (with_reducible refine (dwaits_no HM.out.ds HG.out HPR.out (HL.out.mt.none HF.out)).mono ?_)
  rintro e w2 ⟨rfl, _, hb2⟩
  have HM2 := Lib.hid (HM.out.below hb2)
  have HH2 := Lib.hid (show Hn _ _ _ _ from blk_below HH.out hb2)
  clear hb2 HM HH
  go_upto_region 88 with (fail)
  go_quiet (fail)
  rename_i nq
  have B3 := pw_below_drewN (Below.refl w2.heap.size w2) nq
  have HM3 := Lib.hid (HM2.out.below B3)
  have HH3 := Lib.hid (show Hn _ _ _ _ from blk_below HH2.out B3)
  clear B3 HM2 HH2
  generalize w2.drewN nq = w3 at *
  have q0 := (blk_cell HH3.out 0).trans (show _ = some (Value.int .i64 p) from rfl)
  have q1 := (blk_cell HH3.out 1).trans (show _ = some (Value.int .i64 t) from rfl)
  go_wp2_with (fail)
  clear q0 q1
  go_at_call 49
  (with_reducible refine (dtake_no HM3.out.ds HG.out HPR.out (HL.out.mt.none HF.out)).mono ?_)
  rintro e w4 ⟨k4, rfl, hj, _, hb4⟩
  have HM4 := Lib.hid (HM3.out.below hb4)
  have HJ4 := Lib.hid hj
  clear hj hb4 HM3 HH3
  go_wp2_with (fail)
  go_at_call 14
  (with_reducible refine (code_join k4 3 _ (good_et' (HM4.out.ds.good HG.out)) HJ4.out).mono ?_)
  rintro e w5 ⟨rfl, hb5⟩
  have HM5 := Lib.hid (HM4.out.below hb5)
  clear hb5 HM4 HJ4
  go_wp2
  refine Met.intro (hJ _ _ ?_)
  exact ⟨⟨⟨rfl, rfl⟩, rfl, rfl, rfl, rfl, rfl, rfl, rfl⟩, rfl, _, _, _, rfl, rfl, rfl, rfl, ps, cp, Dm, F, L, os, HM5.out, HL.out.up⟩
set_option maxHeartbeats 4000000 in
set_option maxRecDepth 100000 in
theorem p34t_i {a : Act} (hFD : FD a v0 v1 A len cap B lenB capB v9 d rp)
    {n : Int} {hb sb : Nat} {p t : Int} {M pg N Ns : Nat} {ps : List S108} {snaps : Int} {cp : Nat} {Dm : DataW Unit} {F : Int → Nat × Sn} {L : List Seat} {os : List S40} {v21 : Value} (hG : Good w) (h : WM w W d pg M rp N Ns (cnt ps : Int) ps ps snaps cp Dm F L va vo os) (hl : WL i N Ns ps os cp Dm F L) (hh : Hn W hb p t) (hpr : -9223372036854775808 ≤ p ∧ p ≤ 9223372036854775807) (hi : i < 50) {k : Nat} {s : Seat} {bl : Nat} (hk : k < L.length) (hs : L[k] = s) (hx : s.x = p ∧ s.t = t) (hbl : s.bl = bl) (hwt : s.wt = false) (hn : n % 8 = 4) (h12 : sl a 12 = va) (h13 : sl a 13 = vo) (h14 : sl a 14 = .int .i64 (i : Int)) (h15 : sl a 15 = .int .i64 n) (h16 : sl a 16 = .pointer (some ⟨hb, 0, none⟩)) (h17 : sl a 17 = .pointer (some ⟨sb, 0, none⟩)) (h18 : sl a 18 = .pointer (some ⟨bl, 0, none⟩)) (h19 : sl a 19 = .int .i64 (k : Int)) (h21 : sl a 21 = v21) (h23 : sl a 23 = .int .i64 0) (h24 : sl a 24 = .int .i64 3) :
    Does (cpart [1, 1, 1, 1, 1, 1, 1, 1, 1, 1, 0] cD) (fun a' w' => FD a' v0 v1 A len cap B lenB capB v9 d rp ∧ sl a' 14 = .int .i64 (i : Int) ∧ ∃ va vo ec, sl a' 12 = va ∧ sl a' 13 = vo ∧ sl a' 23 = .int .i64 ec ∧ sl a' 24 = .int .i64 ec ∧ St11 w w' d pg M rp N Ns snaps (i + 1) va vo) a W := by
  obtain ⟨hf, g0, g1, g2, g3, g9, g10, g11⟩ := hFD
  obtain ⟨u, rfl⟩ := hf.open
  rw [sl_fr u 0 (by decide)] at g0
  rw [sl_fr u 1 (by decide)] at g1
  rw [sl_fr u 2 (by decide)] at g2
  rw [sl_fr u 3 (by decide)] at g3
  rw [sl_fr u 9 (by decide)] at g9
  rw [sl_fr u 10 (by decide)] at g10
  rw [sl_fr u 11 (by decide)] at g11
  rw [sl_fr u 12 (by decide)] at h12
  rw [sl_fr u 13 (by decide)] at h13
  rw [sl_fr u 14 (by decide)] at h14
  rw [sl_fr u 15 (by decide)] at h15
  rw [sl_fr u 16 (by decide)] at h16
  rw [sl_fr u 17 (by decide)] at h17
  rw [sl_fr u 18 (by decide)] at h18
  rw [sl_fr u 19 (by decide)] at h19
  rw [sl_fr u 21 (by decide)] at h21
  rw [sl_fr u 23 (by decide)] at h23
  rw [sl_fr u 24 (by decide)] at h24
  intro J Q hJ hQ
  unfold fr
  rw [g0, g1, g2, g3, g9, g10, g11, h12, h13, h14, h15, h16, h17, h18, h19, h21, h23, h24]
  clear hf g0 g1 g2 g3 g9 g10 g11 h12 h13 h14 h15 h16 h17 h18 h19 h21 h23 h24
  conv => arg 2; whnf
  have HG := Lib.hid hG
  have HM := Lib.hid h
  have HL := Lib.hid hl
  have HH := Lib.hid hh
  have HPR := Lib.hid hpr
  have HI := Lib.hid hi
  clear hG h hl hh hpr hi
  have HSM := Lib.hid (show s ∈ L from hs ▸ List.getElem_mem hk)
  have HK := Lib.hid (show ∃ h : k < L.length, L[k] = s from ⟨hk, hs⟩)
  have HBL := Lib.hid hbl
  have HX := Lib.hid hx
  have hat := HL.out.atS (by have := HI.out; omega) HSM.out hx
  obtain ⟨ix, hix, hil, hB, hD, hMS, hwf⟩ := hat
  have HAT := Lib.hid (And.intro hB (And.intro hD hwf))
  have HIX := Lib.hid (And.intro hix hil)
  have HMS := Lib.hid hMS
  clear hbl hx hs hk hix hil hB hD hMS hwf
  have HWT := Lib.hid hwt
  clear hwt
  have q : Go.bits .and .i64 n 7 = n % 8 := and_mask n 3 (by decide)
  rw [hn] at q
  clear hn
  have q0 := (blk_cell HH.out 0).trans (show _ = some (Value.int .i64 p) from rfl)
  have q1 := (blk_cell HH.out 1).trans (show _ = some (Value.int .i64 t) from rfl)
  have hw0 := HMS.out.wt.trans HWT.out
  go_wp2_with (fail)
  clear q q0 q1
  go_at_call 45
  (with_reducible refine (dwaits_none HM.out.ds HAT.out.2.2 HAT.out.1 HAT.out.2.1 hw0).mono ?_)
  rintro e w2 ⟨rfl, _, hb2⟩
  have HM2 := Lib.hid (HM.out.below hb2)
  have HH2 := Lib.hid (show Hn _ _ _ _ from blk_below HH.out hb2)
  clear hb2 HM HH hw0
  have hbk := (HM2.out.sl.all _ HSM.out).hd
  rw [HBL.out] at hbk
  have k2 := (blk_cell hbk 2).trans (show _ = some (Value.bool s.wt) from rfl)
  rw [HWT.out] at k2
  clear hbk
  go_upto_region 88 with (fail)
  go_quiet (fail)
  rename_i nq
  clear k2
  have B3 := pw_below_drewN (Below.refl w2.heap.size w2) nq
  have HM3 := Lib.hid (HM2.out.below B3)
  have HH3 := Lib.hid (show Hn _ _ _ _ from blk_below HH2.out B3)
  clear B3 HM2 HH2
  generalize w2.drewN nq = w3 at *
  have q0 := (blk_cell HH3.out 0).trans (show _ = some (Value.int .i64 p) from rfl)
  have q1 := (blk_cell HH3.out 1).trans (show _ = some (Value.int .i64 t) from rfl)
  have hw0 := HMS.out.wt.trans HWT.out
  go_wp2_with (fail)
  clear q0 q1
  go_at_call 49
  (with_reducible refine (dtake_idle HM3.out.ds HG.out HAT.out.2.2 HAT.out.1 HAT.out.2.1 hw0).mono ?_)
  rintro e w4 ⟨k4, rfl, hj, _, hb4⟩
  have HM4 := Lib.hid (HM3.out.below hb4)
  have HJ4 := Lib.hid hj
  clear hj hb4 HM3 HH3 hw0
  go_wp2_with (fail)
  go_at_call 14
  (with_reducible refine (code_join k4 18 _ (good_et' (HM4.out.ds.good HG.out)) HJ4.out).mono ?_)
  rintro e w5 ⟨rfl, hb5⟩
  have HM5 := Lib.hid (HM4.out.below hb5)
  clear hb5 HM4 HJ4
  have hbk := (HM5.out.sl.all _ HSM.out).hd
  rw [HBL.out] at hbk
  have k2 := (blk_cell hbk 2).trans (show _ = some (Value.bool s.wt) from rfl)
  rw [HWT.out] at k2
  clear hbk
  go_wp2
  refine Met.intro (hJ _ _ ?_)
  exact ⟨⟨⟨rfl, rfl⟩, rfl, rfl, rfl, rfl, rfl, rfl, rfl⟩, rfl, _, _, _, rfl, rfl, rfl, rfl, ps, cp, Dm, F, L, os, HM5.out, HL.out.up⟩
set_option maxHeartbeats 4000000 in
set_option maxRecDepth 100000 in
theorem p34t_y {a : Act} (hFD : FD a v0 v1 A len cap B lenB capB v9 d rp)
    {n : Int} {hb sb : Nat} {p t : Int} {M pg N Ns : Nat} {ps : List S108} {snaps : Int} {cp : Nat} {Dm : DataW Unit} {F : Int → Nat × Sn} {L : List Seat} {os : List S40} {v21 : Value} (hG : Good w) (h : WM w W d pg M rp N Ns (cnt ps : Int) ps ps snaps cp Dm F L va vo os) (hl : WL i N Ns ps os cp Dm F L) (hh : Hn W hb p t) (hpr : -9223372036854775808 ≤ p ∧ p ≤ 9223372036854775807) (hi : i < 50) {k : Nat} {s : Seat} {bl : Nat} (hk : k < L.length) (hs : L[k] = s) (hx : s.x = p ∧ s.t = t) (hbl : s.bl = bl) (hwt : s.wt = true) (hn : n % 8 = 4) (h12 : sl a 12 = va) (h13 : sl a 13 = vo) (h14 : sl a 14 = .int .i64 (i : Int)) (h15 : sl a 15 = .int .i64 n) (h16 : sl a 16 = .pointer (some ⟨hb, 0, none⟩)) (h17 : sl a 17 = .pointer (some ⟨sb, 0, none⟩)) (h18 : sl a 18 = .pointer (some ⟨bl, 0, none⟩)) (h19 : sl a 19 = .int .i64 (k : Int)) (h21 : sl a 21 = v21) (h23 : sl a 23 = .int .i64 0) (h24 : sl a 24 = .int .i64 3) :
    Does (cpart [1, 1, 1, 1, 1, 1, 1, 1, 1, 1, 0] cD) (fun a' w' => FD a' v0 v1 A len cap B lenB capB v9 d rp ∧ sl a' 14 = .int .i64 (i : Int) ∧ ∃ va vo ec, sl a' 12 = va ∧ sl a' 13 = vo ∧ sl a' 23 = .int .i64 ec ∧ sl a' 24 = .int .i64 ec ∧ St11 w w' d pg M rp N Ns snaps (i + 1) va vo) a W := by
  obtain ⟨hf, g0, g1, g2, g3, g9, g10, g11⟩ := hFD
  obtain ⟨u, rfl⟩ := hf.open
  rw [sl_fr u 0 (by decide)] at g0
  rw [sl_fr u 1 (by decide)] at g1
  rw [sl_fr u 2 (by decide)] at g2
  rw [sl_fr u 3 (by decide)] at g3
  rw [sl_fr u 9 (by decide)] at g9
  rw [sl_fr u 10 (by decide)] at g10
  rw [sl_fr u 11 (by decide)] at g11
  rw [sl_fr u 12 (by decide)] at h12
  rw [sl_fr u 13 (by decide)] at h13
  rw [sl_fr u 14 (by decide)] at h14
  rw [sl_fr u 15 (by decide)] at h15
  rw [sl_fr u 16 (by decide)] at h16
  rw [sl_fr u 17 (by decide)] at h17
  rw [sl_fr u 18 (by decide)] at h18
  rw [sl_fr u 19 (by decide)] at h19
  rw [sl_fr u 21 (by decide)] at h21
  rw [sl_fr u 23 (by decide)] at h23
  rw [sl_fr u 24 (by decide)] at h24
  intro J Q hJ hQ
  unfold fr
  rw [g0, g1, g2, g3, g9, g10, g11, h12, h13, h14, h15, h16, h17, h18, h19, h21, h23, h24]
  clear hf g0 g1 g2 g3 g9 g10 g11 h12 h13 h14 h15 h16 h17 h18 h19 h21 h23 h24
  conv => arg 2; whnf
  have HG := Lib.hid hG
  have HM := Lib.hid h
  have HL := Lib.hid hl
  have HH := Lib.hid hh
  have HPR := Lib.hid hpr
  have HI := Lib.hid hi
  clear hG h hl hh hpr hi
  have HSM := Lib.hid (show s ∈ L from hs ▸ List.getElem_mem hk)
  have HK := Lib.hid (show ∃ h : k < L.length, L[k] = s from ⟨hk, hs⟩)
  have HBL := Lib.hid hbl
  have HX := Lib.hid hx
  have hat := HL.out.atS (by have := HI.out; omega) HSM.out hx
  obtain ⟨ix, hix, hil, hB, hD, hMS, hwf⟩ := hat
  have HAT := Lib.hid (And.intro hB (And.intro hD hwf))
  have HIX := Lib.hid (And.intro hix hil)
  have HMS := Lib.hid hMS
  clear hbl hx hs hk hix hil hB hD hMS hwf
  have HWT := Lib.hid hwt
  clear hwt
  have q : Go.bits .and .i64 n 7 = n % 8 := and_mask n 3 (by decide)
  rw [hn] at q
  clear hn
  have q0 := (blk_cell HH.out 0).trans (show _ = some (Value.int .i64 p) from rfl)
  have q1 := (blk_cell HH.out 1).trans (show _ = some (Value.int .i64 t) from rfl)
  have hw0 := HMS.out.wt.trans HWT.out
  have hbs := HMS.out.bs HWT.out
  have HBS := Lib.hid hbs
  have hl5 : (F p).2.bs.length ≤ 100000 := by have := hbs.2; omega
  clear hbs
  go_wp2_with (fail)
  clear q q0 q1
  go_at_call 45
  (with_reducible refine (dwaits HM.out.ds HAT.out.2.2 HAT.out.1 HAT.out.2.1 hw0 hl5).mono ?_)
  rintro e w2 ⟨vb, rfl, hr2, _, hb2⟩
  obtain ⟨Ab, cb, rfl⟩ := Kd.R_slice hr2
  have HM2 := Lib.hid (HM.out.below hb2)
  have HH2 := Lib.hid (show Hn _ _ _ _ from blk_below HH.out hb2)
  have hsr : ∀ m, (convert 80 9 (.slice Ab (F p).2.bs.length cb)).run Tryd.prog (w2.drewN m) = .ok (.string s.b) (w2.drewN m) := fun m => by rw [HBS.out.1]; exact str80 (Kd.R_reads' (Kd.R_below hr2 (pw_below_drewN (Below.refl w2.heap.size w2) m))).2.2
  clear hb2 HM HH hw0 hl5 hr2
  have hbk := (HM2.out.sl.all _ HSM.out).hd
  rw [HBL.out] at hbk
  have k2 := (blk_cell hbk 2).trans (show _ = some (Value.bool s.wt) from rfl)
  rw [HWT.out] at k2
  have k3 := (blk_cell hbk 3).trans (show _ = some (Value.string s.b) from rfl)
  clear hbk
  go_upto_region 88 with (fail)
  go_quiet (fail)
  rename_i nq
  clear k2 k3 hsr
  have B3 := pw_below_drewN (Below.refl w2.heap.size w2) nq
  have HM3 := Lib.hid (HM2.out.below B3)
  have HH3 := Lib.hid (show Hn _ _ _ _ from blk_below HH2.out B3)
  clear B3 HM2 HH2
  generalize w2.drewN nq = w3 at *
  have q0 := (blk_cell HH3.out 0).trans (show _ = some (Value.int .i64 p) from rfl)
  have q1 := (blk_cell HH3.out 1).trans (show _ = some (Value.int .i64 t) from rfl)
  have hw0 := HMS.out.wt.trans HWT.out
  go_wp2_with (fail)
  clear q0 q1
  go_at_call 49
  (with_reducible refine (dtake HM3.out.ds HAT.out.2.2 HAT.out.1 HAT.out.2.1 hw0).mono ?_)
  rintro e w4 ⟨rfl, hr4, hd4, hk4⟩
  obtain ⟨At, ct, hbv⟩ := Kd.R_slice hr4
  rw [hbv] at hr4 ⊢
  have HM4 := Lib.hid (HM3.out.keeps hk4 hd4)
  have hsr : ∀ m, (convert 80 9 (.slice At (F p).2.bs.length ct)).run Tryd.prog (w4.drewN m) = .ok (.string s.b) (w4.drewN m) := fun m => by rw [HBS.out.1]; exact str80 (Kd.R_reads' (Kd.R_below hr4 (pw_below_drewN (Below.refl w4.heap.size w4) m))).2.2
  clear hd4 hk4 hr4 hbv HM3 HH3 hw0
  go_wp2_with (fail)
  go_at_call 14
  (with_reducible refine (code_nil _).mono ?_)
  rintro e w5 ⟨rfl, rfl⟩
  have hSE := HM4.out.sl.all _ HSM.out
  have hbk := hSE.hd
  rw [HBL.out] at hbk
  have HBK := Lib.hid hbk
  have k2 := (blk_cell hbk 2).trans (show _ = some (Value.bool s.wt) from rfl)
  rw [HWT.out] at k2
  have k3 := (blk_cell hbk 3).trans (show _ = some (Value.string s.b) from rfl)
  have f2 := blk_frozen hbk 2
  have HLO := Lib.hid (show w.heap.size ≤ bl by rw [← HBL.out]; exact hSE.lo)
  clear hSE hbk
  go_upto_region 96 with (fail)
  go_quiet (fail)
  clear hsr k3
  have k2' : (w5.drewN nq).cell? ⟨bl, 2, none⟩ = some (.bool true) := k2
  have f2' : (w5.drewN nq).frozen? ⟨bl, 2, none⟩ = false := f2
  have HBK2 := Lib.hid (show (w5.drewN nq).heap[bl]? = some (.cells #[.int .i64 s.x, .int .i64 s.t, .bool s.wt, .string s.b, .pointer (some ⟨s.rp, 0, none⟩), s.hv, s.rv] 96 (0, 0)) from HBK.out)
  have HM5 := Lib.hid (HM4.out.below (pw_below_drewN (Below.refl w5.heap.size w5) nq))
  clear k2 f2 HBK HM4
  generalize w5.drewN nq = w6 at *
  go_wp2
  have HMF := Lib.hid (HM5.out.headS HK.out HBL.out (s' := { s with wt := false }) rfl rfl rfl rfl rfl rfl rfl (blk_set HBK2.out 2 (.bool false)) (fun j hj => Below.heap_setCell _ ⟨bl, 2, none⟩ (.bool false) j hj) (HM5.out.ds.bl.setCell (p := ⟨bl, 2, none⟩) HLO.out _))
  have HLF := Lib.hid (HL.out.turnS HK.out HX.out.1 (s' := { s with wt := false }) ⟨rfl, rfl⟩ ((HMS.out.taken (.slice none 0 0)).more (Nat.le_succ _)) ((HL.out.sps _ HSM.out).up) (HL.out.refs s HSM.out))
  refine Met.intro (hJ _ _ ?_)
  exact ⟨⟨⟨rfl, rfl⟩, rfl, rfl, rfl, rfl, rfl, rfl, rfl⟩, rfl, _, _, _, rfl, rfl, rfl, rfl, ps, cp, Dm, _, _, os, HMF.out, HLF.out⟩
end
end Go.Proofs.YtphaaagcdjpceaaDoor
namespace Go.Proofs.YtphaaagcdjpceaaDoor
open Go.RowKit Go.Proofs.YtphaaagcdjpceaaDoorW.PrintWords Go.Proofs.YtphaaagcdjpceaaDoorW.PrintLast Go.Proofs.YtphaaagcdjpceaaDoorW.PrintMore
set_option linter.unusedVariables false
section
variable {w W : World} {d pg M Ns : Nat} {most n : Int} {ps : List S108} {snaps : Int} {cap : Nat} {D : DataW Unit} {F : Int → Nat × Sn} {c : Nat} {s : Seat} {p t : Int}
theorem dkeepS (h : DS w W d pg M most n ps snaps cap D (Ns : Int) F) (hm : MS c s (F p).2) (hy : Ply s.ps s.hs Ns c) (hc : c ≤ 100) (hp : (Lit.int .i64 p).wf = true) (hh : hasB ps p t = true) (hx : hasI D p) (hN : ff s.ps < Ns) {r : Int} (hr : (Lit.int .i64 r).wf = true) :
    Calls Tryd.prog 42 #[.pointer (some ⟨d, 0, none⟩), .agg #[.int .i64 p, .int .i64 t], .int .i64 r] W fun e w' => e = .returned (.tuple #[.agg #[.int .i64 (ff s.ps : Int), .int .i64 (turnOf s.ps (ff s.ps))], .nilIface]) ∧ DS w w' d pg M most n ps snaps cap D (Ns : Int) (upF F p ((F p).1, keptS (F p).2 (ff s.ps) r)) ∧ Keeps DT W w' := by
  have e := hm.ps
  have hb := hy.bound (ff_le s.ps)
  have h1 := hy.lc
  have h2 := hm.cap
  have h3 := hm.n
  have h4 := cnt_le s.ps
  have hd := dkeep h hp hh hx (r := r) (i := ff s.ps) (by omega) hr (by rw [e]; exact ff_le _) (fun j hj => by rw [e]; exact ff_tk hj) (fun hj => by rw [e] at hj ⊢; exact ff_no hj) (by omega) (by rw [e]; omega) (by rw [e]; exact hb.1) (by rw [e]; omega) (by omega) (by omega)
  rw [e] at hd
  exact hd
theorem dkeepS_full (h : DS w W d pg M most n ps snaps cap D (Ns : Int) F) (hG : Good w) (hm : MS c s (F p).2) (hy : Ply s.ps s.hs Ns c) (hc : c ≤ 100) (hp : (Lit.int .i64 p).wf = true) (hh : hasB ps p t = true) (hx : hasI D p) (hN : ff s.ps = Ns) (r : Int) :
    Calls Tryd.prog 42 #[.pointer (some ⟨d, 0, none⟩), .agg #[.int .i64 p, .int .i64 t], .int .i64 r] W fun e w' => ∃ k, e = .returned (.tuple #[.agg #[.int .i64 0, .int .i64 0], .iface 179 (.pointer (some ⟨k, 0, none⟩))]) ∧ Joined w' k 2 ∧ DS w w' d pg M most n ps snaps cap D (Ns : Int) F ∧ Below W.heap.size W w' := by
  have e := hm.ps
  have h1 := hy.lc
  subst hN
  exact dkeep_full h hG hp hh hx r (by rw [e]; exact ff_le _) (fun j hj => by rw [e]; exact ff_tk hj) (fun hj => by rw [e] at hj ⊢; exact ff_no hj) (by rw [e]; omega)
end
structure Tch (W W1 : World) (T : Nat → Prop) : Prop where
  sz : W.heap.size ≤ W1.heap.size
  blk : ∀ k, k < W.heap.size → ¬ T k → W1.heap[k]? = W.heap[k]?
section
variable {W W1 W2 : World} {T : Nat → Prop}
theorem Tch.refl (W : World) (T : Nat → Prop) : Tch W W T := ⟨Nat.le_refl _, fun _ _ _ => rfl⟩
theorem Tch.alloc (h : Tch W W1 T) (o : Obj) : Tch W (W1.alloc o) T := ⟨by rw [World.size_alloc]; exact Nat.le_succ_of_le h.sz, fun k hk ht => (Below.heap_alloc W1 o k (Nat.lt_of_lt_of_le hk h.sz)).trans (h.blk k hk ht)⟩
theorem Tch.drew (h : Tch W W1 T) : Tch W W1.drew T := ⟨h.sz, h.blk⟩
theorem Tch.below (h : Tch W W1 T) (hb : Below W1.heap.size W1 W2) : Tch W W2 T := ⟨Nat.le_trans h.sz hb.size, fun k hk ht => (hb.block k (Nat.lt_of_lt_of_le hk h.sz)).trans (h.blk k hk ht)⟩
theorem Tch.drewN (h : Tch W W1 T) (n : Nat) : Tch W (W1.drewN n) T := h.below (pw_below_drewN (Below.refl W1.heap.size W1) n)
theorem Tch.grown (h : Tch W W1 T) {row : Option Nat} (hg : W1.grownBy W2 row) (hr : ∀ k, row = some k → T k ∨ W.heap.size ≤ k) : Tch W W2 T := ⟨Nat.le_trans h.sz hg.size, fun k hk ht => (hg.block k (Nat.lt_of_lt_of_le hk h.sz) (fun e => by
  rcases hr k e.symm with h1 | h1
  · exact ht h1
  · omega)).trans (h.blk k hk ht)⟩
theorem Tch.set (h : Tch W W1 T) {b j : Nat} {v : Value} (hb : T b ∨ W.heap.size ≤ b) : Tch W (W1.setCell ⟨b, j, none⟩ v) T := ⟨by rw [World.size_setCell]; exact h.sz, fun k hk ht => (Below.heap_setCell W1 ⟨b, j, none⟩ v k (fun e => by
  have e2 : k = b := e
  subst e2
  rcases hb with h1 | h1
  · exact ht h1
  · omega)).trans (h.blk k hk ht)⟩
end
theorem C_one40 {W : World} {H : Nat} {p t : Int} (h : W.heap[H]? = some (.cells #[.int .i64 p, .int .i64 t] 40 (0, 0))) : Kd.C k40 W (some ⟨H, 0, none⟩) 1 [⟨p, t⟩] := by
  refine ⟨rfl, by omega, fun _ => ⟨_, rfl, fun j q hj => ?_⟩⟩
  have hj0 : j = 0 := by
    rcases j with _ | j
    · rfl
    · simp at hj
  subst hj0
  obtain rfl : (⟨p, t⟩ : S40) = q := by simpa using hj
  refine ⟨[.int .i64 p, .int .i64 t], rfl, ⟨[.int .i64 p], [.int .i64 t], rfl, rfl, rfl⟩, fun i u hu => ?_⟩
  have e : (⟨H, 0, none⟩ : Addr).add (0 * k40.sz + i) = ⟨H, i, none⟩ := by simp [Addr.add]; omega
  rw [e, blk_cell h]
  simpa using hu
theorem C_one3 {W : World} {H : Nat} {r : Int} (h : W.heap[H]? = some (.cells #[.int .i64 r] 3 (0, 0))) : Kd.C (Kd.int .i64) W (some ⟨H, 0, none⟩) 1 [r] := by
  refine Kd.C_of_reads (d := (0 : Int)) ⟨rfl, by simp, fun _ => ⟨⟨H, 0, none⟩, rfl, fun i hi => ?_⟩⟩
  obtain rfl : i = 0 := by omega
  show W.cell? ⟨H, 0, none⟩ = some (.int .i64 r)
  exact (blk_cell h 0).trans rfl
section
variable {w W W1 : World} {d pg M rp N Ns : Nat} {n : Int} {ps qs : List S108} {snaps : Int} {cap : Nat} {D : DataW Unit} {F : Int → Nat × Sn} {L : List Seat} {va vo : Value} {os : List S40}
theorem WM.spoolS (h : WM w W d pg M rp N Ns n ps qs snaps cap D F L va vo os) {i : Nat} {s : Seat} (hk : ∃ h : i < L.length, L[i] = s) {qs2 : List S108} (hr : RP W1 w.heap.size s.rp qs2 Ns) (hf : Fe w.heap.size s.rp W W1) : WM w W1 d pg M rp N Ns n ps qs snaps cap D F (L.set i { s with ps := qs2 }) va vo os := by
  obtain ⟨hi, rfl⟩ := hk
  exact h.spool hi hr hf
theorem WM.rowsS (h : WM w W d pg M rp N Ns n ps qs snaps cap D F L va vo os) {i : Nat} {s : Seat} (hk : ∃ h : i < L.length, L[i] = s) {bl : Nat} (hbl : s.bl = bl) {hv rv : Value} {hs : List S40} {rs : List Int}
    (hd : W1.heap[bl]? = some (.cells #[.int .i64 s.x, .int .i64 s.t, .bool s.wt, .string s.b, .pointer (some ⟨s.rp, 0, none⟩), hv, rv] 96 (0, 0))) (hr1 : HR W1 w.heap.size hv hs) (hr2 : Kd.R (Kd.int .i64) 3 W1 w.heap.size (fun _ => True) rv rs)
    (ho1 : ∀ k, hv.ownBlock = some k → s.hv.ownBlock = some k ∨ W.heap.size ≤ k) (ho2 : ∀ k, rv.ownBlock = some k → s.rv.ownBlock = some k ∨ W.heap.size ≤ k)
    (ht : Tch W W1 (fun k => k = bl ∨ s.hv.ownBlock = some k ∨ s.rv.ownBlock = some k)) (hb : Below w.heap.size w W1) : WM w W1 d pg M rp N Ns n ps qs snaps cap D F (L.set i { s with hv := hv, hs := hs, rv := rv, rs := rs }) va vo os := by
  obtain ⟨hi, rfl⟩ := hk
  subst hbl
  have hSE := h.sl.all _ (List.getElem_mem hi)
  have hrp : ∀ k, (k = L[i].rp ∨ some k = bk W L[i].rp 0 ∨ some k = bk W L[i].rp 1) → W1.heap[k]? = W.heap[k]? := fun k hk => by
    obtain ⟨cs, t, fr, hc, htt, _⟩ := hSE.rp.typed k hk
    refine ht.blk k (blk_lt hc) (fun e => ?_)
    rcases e with e | e | e
    · rw [e, hSE.hd] at hc; injection hc with hc; injection hc with _ hc _
      subst hc
      rcases htt with e | e | e <;> exact absurd e (by decide)
    · obtain ⟨cells, hc2⟩ := Kd.R_typed hSE.hr k e
      rw [hc2] at hc; injection hc with hc; injection hc with _ hc _
      subst hc
      rcases htt with e | e | e <;> exact absurd e (by decide)
    · rcases hk with e2 | e2 | e2
      · obtain ⟨cells, hc2⟩ := Kd.R_typed hSE.rr k e
        obtain ⟨h0, A1, c1, A2, c2, ts, bs, h1, _⟩ := hSE.rp
        rw [← e2, hc2] at h1; injection h1 with h1; injection h1 with _ h1 _
        exact absurd h1 (by decide)
      · exact h.ap3 _ (List.getElem_mem hi) k e.symm e2
      · obtain ⟨cells, hc2⟩ := Kd.R_typed hSE.rr k e
        obtain ⟨h0, A1, c1, A2, c2, ts, bs, h1, h2, h3, _⟩ := hSE.rp
        have e1 : bk W L[i].rp 1 = (Value.slice A2 Ns c2).ownBlock := by unfold bk; rw [(blk_cell h1 1).trans (show _ = some (Value.slice A2 Ns c2) from rfl)]; rfl
        rw [e1] at e2
        obtain ⟨cells2, hc3⟩ := Kd.R_typed h3 k e2.symm
        rw [hc2] at hc3; injection hc3 with hc3; injection hc3 with _ hc3 _
        exact absurd hc3 (by decide)
  have eb : ∀ j, bk W1 L[i].rp j = bk W L[i].rp j := fun j => bk_same (hrp _ (.inl rfl)) j
  refine h.seat hi (s' := { L[i] with hv := hv, hs := hs, rv := rv, rs := rs }) ⟨hd, hSE.rp.same hrp, hr1, hr2, hSE.lo⟩ rfl (fun k hk => ?_) (fun k hk hn => ht.blk k hk (fun e => hn ?_)) hb (fun k hk => ?_)
  · unfold sfoot at hk ⊢
    rcases hk with hk | hk | hk | hk
    · exact .inl (.inl hk)
    · rw [eb, eb] at hk; exact .inl (.inr (.inl hk))
    · rcases ho1 k hk.symm with e | e
      · exact .inl (.inr (.inr (.inl e.symm)))
      · exact .inr e
    · rcases ho2 k hk.symm with e | e
      · exact .inl (.inr (.inr (.inr e.symm)))
      · exact .inr e
  · unfold sfoot
    rcases e with e | e | e
    · exact .inl e
    · exact .inr (.inr (.inl e.symm))
    · exact .inr (.inr (.inr e.symm))
  · show some k ≠ bk W1 L[i].rp 0
    rw [eb]
    rcases ho2 k hk.symm with e | e
    · exact h.ap3 _ (List.getElem_mem hi) k e.symm
    · intro e2
      obtain ⟨cs, t, fr, hc, _⟩ := hSE.rp.typed k (.inr (.inl e2))
      have := blk_lt hc
      omega
end
end Go.Proofs.YtphaaagcdjpceaaDoor
