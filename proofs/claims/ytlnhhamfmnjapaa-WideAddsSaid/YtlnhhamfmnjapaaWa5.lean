import Derived.Test.YtlnhhamfmnjapaaWa0
import Derived.Test.YtlnhhamfmnjapaaWd4
import Derived.Deep.MidRow
namespace Go.Proofs.Ytlnhhamfmnjapaa
open Go.RowKit Go.Proofs.YtlnhhamfmnjapaaW.PrintWords Go.Proofs.YtlnhhamfmnjapaaW.PrintLast Go.Proofs.YtlnhhamfmnjapaaW.PrintMore
set_option linter.unusedVariables false
set_option linter.unusedSimpArgs false
structure Only (g : Nat) (W W' : World) : Prop where
  os : W'.os = W.os
  tape : W'.tape = W.tape
  output : W'.output = W.output
  size : W'.heap.size = W.heap.size
  block : ∀ k, k ≠ g → W'.heap[k]? = W.heap[k]?
theorem Only.below {g : Nat} {W W' w0 : World} (h : Only g W W') (hb : Below w0.heap.size w0 W) (hg : w0.heap.size ≤ g) : Below w0.heap.size w0 W' :=
  ⟨h.os.trans hb.os, h.tape.trans hb.tape, h.output.trans hb.output, by have := hb.size; have := h.size; omega, fun k hk => (h.block k (by omega)).trans (hb.block k hk)⟩
theorem only_set (W : World) (g i : Nat) (v : Value) : Only g W (W.setCell ⟨g, i, none⟩ v) :=
  ⟨rfl, rfl, rfl, by simp [World.setCell], fun k hk => Below.heap_setCell W ⟨g, i, none⟩ v k hk⟩
theorem Only.trans {g : Nat} {a b c : World} (h : Only g a b) (k : Only g b c) : Only g a c :=
  ⟨k.os.trans h.os, k.tape.trans h.tape, k.output.trans h.output, k.size.trans h.size, fun i hi => (k.block i hi).trans (h.block i hi)⟩
theorem only_sets (g : Nat) : ∀ (vs : List Value) (o : Nat) (W : World), Only g W (W.setCells g o vs)
  | [], _, _ => ⟨rfl, rfl, rfl, rfl, fun _ _ => rfl⟩
  | v :: r, o, W => (only_set W g o v).trans (only_sets g r (o + 1) _)
theorem sets_blk (g t : Nat) : ∀ (vs : List Value) (o : Nat) (W : World) (cs : Array Value), W.heap[g]? = some (.cells cs t (0, 0)) →
    ∃ cs', (W.setCells g o vs).heap[g]? = some (.cells cs' t (0, 0)) ∧ cs'.size = cs.size ∧ (∀ j, j < o → cs'[j]? = cs[j]?) ∧ ∀ j, j < vs.length → o + j < cs.size → cs'[o + j]? = vs[j]?
  | [], o, W, cs, h => ⟨cs, h, rfl, fun _ _ => rfl, fun j hj => absurd hj (by simp)⟩
  | v :: r, o, W, cs, h => by
    obtain ⟨cs', h1, h2, h3, h4⟩ := sets_blk g t r (o + 1) _ _ (blk_set h o v)
    refine ⟨cs', h1, by simpa using h2, fun j hj => ?_, fun j hj hj2 => ?_⟩
    · rw [h3 j (by omega), Array.getElem?_setIfInBounds, if_neg (by omega)]
    · cases j with
      | zero => rw [Nat.add_zero, h3 o (by omega), Array.getElem?_setIfInBounds, if_pos rfl, if_pos (by omega)]; rfl
      | succ j =>
        have := h4 j (by simpa using hj) (by simp; omega)
        rw [show o + (j + 1) = o + 1 + j by omega, this]; rfl
theorem sets_sty {W : World} {g : Nat} {CS CS' : Array Value} (h : StyIn W g CS) (hs : CS.size = CS'.size) : StyIn (W.setCells g 0 CS'.toList) g CS' := by
  obtain ⟨cs', h1, h2, h3, h4⟩ := sets_blk g 27 CS'.toList 0 W CS h
  have e : cs' = CS' := by
    apply Array.ext_getElem?
    intro j
    by_cases hj : j < CS'.size
    · have := h4 j (by simpa using hj) (by omega)
      rw [Nat.zero_add] at this
      rw [this]; simp
    · rw [Array.getElem?_eq_none (by omega), Array.getElem?_eq_none (by omega)]
  rw [e] at h1
  exact h1
theorem IsSty.one {CS : Array Value} {f : Nat → Int} (h : IsSty CS f) : CS.all (·.oneCell') = true := by
  rw [Array.all_eq_true]
  intro i hi
  have h1 := h.2 i (by have := h.1; omega)
  rw [Array.getElem?_eq_getElem hi] at h1
  have h2 : CS[i] = .int .i64 (f i) := by simpa using h1
  rw [h2]; rfl
theorem store27_ev {ops : Array Oper} {rest : List Oper} {o : Oper} {a : Act} {Q : Exit → Act → World → Prop} {W : World} (hgd : o.guard = none) {x y : Operand} (ho : o.op = .store 27 x y) {g : Nat} (hx : a.eval x = .pointer (some ⟨g, 0, none⟩)) {CS0 CS : Array Value} (hy : a.eval y = .agg CS)
    (hS : StyIn W g CS0) (h0 : CS0.size = 43) {f : Nat → Int} (hf : IsSty CS f)
    (h : ∀ W', StyIn W' g CS → Only g W W' → wpList Try.prog ops Q rest (a.put o.dst undef) W') : wpList Try.prog ops Q (o :: rest) a W := by
  refine wpList_store_mid hgd 27 x y ho g 0 CS hx hy (fun j hj => ?_) (by rw [hf.1]; kernel_rfl) hf.one (h _ (sets_sty hS (by rw [h0, hf.1])) (only_sets g _ 0 W))
  have hj2 : j < CS0.size := by rw [h0]; have := hf.1; omega
  rw [Nat.zero_add]
  refine ⟨?_, blk_frozen hS j⟩
  rw [blk_cell hS j, Array.getElem?_eq_getElem hj2]; rfl
theorem load27_ev {ops : Array Oper} {rest : List Oper} {o : Oper} {a : Act} {Q : Exit → Act → World → Prop} {W : World} (hgd : o.guard = none) {x : Operand} (ho : o.op = .load 27 x) {g : Nat} (hx : a.eval x = .pointer (some ⟨g, 0, none⟩)) {CS : Array Value}
    (hS : StyIn W g CS) (h0 : CS.size = 43)
    (h : wpList Try.prog ops Q rest (a.put o.dst (.agg CS)) W) : wpList Try.prog ops Q (o :: rest) a W := by
  have e : CS = CS.toList.toArray := by simp
  rw [e] at h
  refine wpList_load_mid hgd 27 x ho g 0 hx CS.toList _ (fun j v hv => ?_) Try.underlying27 rfl (by rw [show CS.toList.length = 43 by simpa using h0]; kernel_rfl) h
  rw [Nat.zero_add, blk_cell hS j, ← hv]; simp
theorem results_sty {fn : Func} {p : Tmp} (h : fn.results = #[.cell p 27]) (tmps : Array Value) (w : World) (g : Nat) {CS : Array Value} (hp : tmps.getD p undef = .pointer (some ⟨g, 0, none⟩)) (hg : StyIn w g CS) (h0 : CS.size = 43) :
    (results fn tmps).run Try.prog w = .ok (.agg CS) w := by
  have hp' : tmps[p]?.getD undef = .pointer (some ⟨g, 0, none⟩) := by simpa using hp
  simp [results, h, hp', asAddr, run_loadVar_row (P := Try.prog) w g 27 27 CS (0, 0) _ hg Try.underlying27 rfl (by rw [h0]; kernel_rfl)]
theorem alloc_size (W : World) (o : Obj) : (W.alloc o).heap.size = W.heap.size + 1 := Array.size_push _
theorem laid_boxes (W : World) (CS D : Array Value) : StyIn (((W.alloc (.cells CS 27)).alloc (.cells D 78)).alloc (.cells z27 27)) W.heap.size CS ∧
    (((W.alloc (.cells CS 27)).alloc (.cells D 78)).alloc (.cells z27 27)).heap[W.heap.size + 1]? = some (.cells D 78 (0, 0)) ∧
    StyIn (((W.alloc (.cells CS 27)).alloc (.cells D 78)).alloc (.cells z27 27)) (W.heap.size + 1 + 1) z27 ∧
    Below W.heap.size W (((W.alloc (.cells CS 27)).alloc (.cells D 78)).alloc (.cells z27 27)) := by
  have s1 : (W.alloc (.cells CS 27)).heap.size = W.heap.size + 1 := alloc_size _ _
  have s2 : ((W.alloc (.cells CS 27)).alloc (.cells D 78)).heap.size = W.heap.size + 1 + 1 := (alloc_size _ _).trans (by rw [s1])
  have h1 : StyIn (W.alloc (.cells CS 27)) W.heap.size CS := heap_alloc_new W _
  have h2 := heap_alloc_new (W.alloc (.cells CS 27)) (.cells D 78)
  have h3 := heap_alloc_new ((W.alloc (.cells CS 27)).alloc (.cells D 78)) (.cells z27 27)
  rw [s1] at h2
  rw [s2] at h3
  exact ⟨(h1.alloc _).alloc _, (Below.heap_alloc _ _ _ (by rw [s2]; omega)).trans h2, h3, below_alloc (below_alloc (below_alloc (Below.refl _ _) _) _) _⟩
end Go.Proofs.Ytlnhhamfmnjapaa
