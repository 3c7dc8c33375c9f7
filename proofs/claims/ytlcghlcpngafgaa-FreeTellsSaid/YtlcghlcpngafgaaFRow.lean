/- An argument of type []api.Flexy, opened to the items that lie there (open_slice_fields is the block of extra-structs.md, section 1, as that paper says to paste it). -/
import Derived.Test.YtlcghlcpngafgaaFPl
import Derived.Deep.Slices
import Derived.Deep.Fields
import Derived.ChangeSame
namespace Go.Proofs.Ytlcghlcpngafgaa.PFree
open Go.RowKit Go.Proofs.YtlcghlcpngafgaaW.PrintWords Go.Proofs.YtlcghlcpngafgaaW.PrintLast Go.Proofs.YtlcghlcpngafgaaW.PrintMore
open Go.ChangeShapes Go.WideShapes Go.Deep
section
variable {H : Type} {enc : TypeId × Value → H} {P : Program} {w : World} {base : Nat} {spare : Nat → Bool} {held : Bool}
theorem open_slice_fields {t e : TypeId} {fs : Array Field} {fuel : Nat} {cs : List Value} {x : DataW H × List MemPlace} (ht : P.underlying t = some (.slice e)) (he : P.underlying e = some (.struct fs))
    (hone : oneCellFields P fs = true) (hC : P.cellsOf e = fs.size) (h : DataW.trod enc P w base spare held fuel t cs = some x) :
    (cs = [.slice none 0 0] ∧ x = (.nil, [])) ∨
    ∃ (a : Addr) (len cap m : Nat) (D : Nat → DataW H) (Pl : Nat → List MemPlace), cs = [.slice (some a) len cap] ∧ base ≤ a.block ∧ len ≤ cap ∧ cap ≤ maxLen ∧ m = (if spare a.block then cap else len) ∧
      x = (.slice ((List.range len).map D) ((List.range (m - len)).map fun j => D (len + j)), MemPlace.row a (m * fs.size) ++ (List.range m).flatMap Pl) ∧
      ∀ i, i < m → ∃ (ys : List (DataW H × List MemPlace)) (n : Nat), D i = .agg (ys.map (·.1)) ∧ Pl i = ys.flatMap (·.2) ∧ ys.length = fs.size ∧
        ∀ (j : Nat) (f : Field), fs[j]? = some f → ∃ (v : Value) (y : DataW H × List MemPlace), w.cell? (a.add (i * fs.size + j)) = some v ∧ ys[j]? = some y ∧ DataW.trod enc P w base spare held n f.type [v] = some y := by
  rcases open_slice ht h with h0 | ⟨a, len, cap, m, n, D, Pl, hcs, hb, hl, hm, hmm, hx, hi⟩
  · exact .inl h0
  · refine .inr ⟨a, len, cap, m, D, Pl, hcs, hb, hl, hm, hmm, by rw [hC] at hx; exact hx, fun i him => ?_⟩
    obtain ⟨cs', hc, ht'⟩ := hi i him
    rw [hC] at hc
    obtain ⟨ys, n', hn', hy, hlen, hyl, hf⟩ := DataW.trod_struct he ht'
    obtain ⟨_, hcl, hat⟩ := World.cells?_some hc
    simp only [Prod.mk.injEq] at hy
    refine ⟨ys, n', hy.1, hy.2, hyl, fun j f hj => ?_⟩
    obtain ⟨ho, hk⟩ := hone_of hone j f hj
    have hjl : j < fs.size := (Array.getElem?_eq_some_iff.1 hj).1
    have hcell := hat j hjl
    have hv : cs'[j]? = some (cs'[j]'(by omega)) := List.getElem?_eq_getElem (by omega)
    have h1 := hf j f hj
    rw [ho, hk] at h1
    have hone' : (cs'.drop j).take 1 = [cs'[j]'(by omega)] := by
      rw [List.drop_eq_getElem_cons (by omega)]
      rfl
    rw [hone'] at h1
    have hys : ys[j]? = some (ys[j]'(by omega)) := List.getElem?_eq_getElem (by omega)
    refine ⟨_, _, ?_, hys, h1.trans hys⟩
    rw [← Go.Deep.add_add, hcell, hv]
end

theorem open_flexy {H : Type} {enc : TypeId × Value → H} {w : World} {base : Nat} {spare : Nat → Bool} {held : Bool} {fuel : Nat} {A : Option Addr} {len cap : Nat} {x : DataW H × List MemPlace}
    (h : DataW.trod enc Try.prog w base spare held fuel 36 [.slice A len cap] = some x) : ∃ l : List S39, Kd.C k39 w A l.length l ∧ l.length ≤ cap ∧ l.length = len := by
  rcases open_slice_fields Try.underlying36 Try.underlying39 (by kernel_rfl) (by kernel_rfl) h with ⟨hc, _⟩ | ⟨a, l', c', m, D, Pl, hc, hb, hl, hm, hmm, hx, hf⟩
  · simp only [List.cons.injEq, Value.slice.injEq, and_true] at hc
    obtain ⟨rfl, rfl, rfl⟩ := hc
    exact ⟨[], ⟨rfl, by decide, fun h => absurd h (by decide)⟩, Nat.le_refl _, rfl⟩
  · simp only [List.cons.injEq, Value.slice.injEq, and_true] at hc
    obtain ⟨rfl, rfl, rfl⟩ := hc
    have hml : len ≤ m := by rw [hmm]; split <;> omega
    have key : ∀ i, ∃ y : S39, i < len → ∀ j u, [Value.int .i64 y.f0, .int .i64 y.f1, .int .i64 y.f2, .int .i64 y.f3, .int .i64 y.f4, .int .i64 y.f5][j]? = some u → w.cell? (a.add (i * 6 + j)) = some u := by
      intro i
      by_cases hi : i < len
      · obtain ⟨ys, n, _, _, _, hq⟩ := hf i (by omega)
        obtain ⟨v0, y0, e0, _, t0⟩ := hq 0 _ rfl
        obtain ⟨v1, y1, e1, _, t1⟩ := hq 1 _ rfl
        obtain ⟨v2, y2, e2, _, t2⟩ := hq 2 _ rfl
        obtain ⟨v3, y3, e3, _, t3⟩ := hq 3 _ rfl
        obtain ⟨v4, y4, e4, _, t4⟩ := hq 4 _ rfl
        obtain ⟨v5, y5, e5, _, t5⟩ := hq 5 _ rfl
        obtain ⟨n0, q0, _, _⟩ := DataW.trod_int Try.underlying2 t0
        obtain ⟨n1, q1, _, _⟩ := DataW.trod_int Try.underlying2 t1
        obtain ⟨n2, q2, _, _⟩ := DataW.trod_int Try.underlying2 t2
        obtain ⟨n3, q3, _, _⟩ := DataW.trod_int Try.underlying3 t3
        obtain ⟨n4, q4, _, _⟩ := DataW.trod_int Try.underlying3 t4
        obtain ⟨n5, q5, _, _⟩ := DataW.trod_int Try.underlying2 t5
        simp only [List.cons.injEq, and_true] at q0 q1 q2 q3 q4 q5
        subst q0 q1 q2 q3 q4 q5
        refine ⟨⟨n0, n1, n2, n3, n4, n5⟩, fun _ j u hu => ?_⟩
        match j with
        | 0 => obtain rfl : _ = u := Option.some.inj hu; exact e0
        | 1 => obtain rfl : _ = u := Option.some.inj hu; exact e1
        | 2 => obtain rfl : _ = u := Option.some.inj hu; exact e2
        | 3 => obtain rfl : _ = u := Option.some.inj hu; exact e3
        | 4 => obtain rfl : _ = u := Option.some.inj hu; exact e4
        | 5 => obtain rfl : _ = u := Option.some.inj hu; exact e5
        | j + 6 => simp at hu
      · exact ⟨z39, fun h => absurd h hi⟩
    obtain ⟨f, hf2⟩ := Classical.skolem.1 key
    refine ⟨lst len f, ?_, by rw [lst_length]; exact hl, lst_length _ _⟩
    rw [lst_length]
    refine ⟨lst_length _ _, by simp only [maxLen] at hm; omega, fun _ => ⟨a, rfl, fun j p hj => ?_⟩⟩
    simp only [lst, List.getElem?_map] at hj
    by_cases hjl : j < len
    · have : (List.range len)[j]? = some j := by simp [hjl]
      rw [this] at hj
      obtain rfl : f j = p := Option.some.inj hj
      exact ⟨_, rfl, k39_mk w (f j), fun i u hu => hf2 j hjl i u hu⟩
    · have : (List.range len)[j]? = none := by simp; omega
      rw [this] at hj
      cases hj
end Go.Proofs.Ytlcghlcpngafgaa.PFree
