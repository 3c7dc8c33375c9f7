import Derived.Test.YtlnhhamfmnjapaaWd2
import Derived.Deep.WholeRow
namespace Go.Proofs.Ytlnhhamfmnjapaa
open Go.RowKit Go.Proofs.YtlnhhamfmnjapaaW.PrintWords Go.Proofs.YtlnhhamfmnjapaaW.PrintLast Go.Proofs.YtlnhhamfmnjapaaW.PrintMore
open PUnitRounds PUnitRounds.U
set_option linter.unusedVariables false
attribute [local go_sem ↓] exec_load27
attribute [local go_sem] sty_drew row_drew
theorem and_mask (x : Int) (i : Nat) (hi : i ≤ 62) : Go.bits .and .i64 x (2 ^ i - 1) = x % 2 ^ i := by
  have hp : (0 : Int) < 2 ^ i := Int.pow_pos (by decide)
  have hpn : 0 < 2 ^ i := Nat.two_pow_pos i
  have hle : (2 : Int) ^ i ≤ 2 ^ 62 := by
    have : (2 : Nat) ^ i ≤ 2 ^ 62 := Nat.pow_le_pow_right (by decide) hi
    exact_mod_cast this
  have hle' : (2 : Nat) ^ i ≤ 2 ^ 62 := Nat.pow_le_pow_right (by decide) hi
  have hm : (BitVec.ofInt 64 ((2 : Int) ^ i - 1)).toNat = 2 ^ i - 1 := by
    rw [BitVec.toNat_ofInt]
    have e : ((2 : Int) ^ i - 1) = ((2 ^ i - 1 : Nat) : Int) := by rw [Int.natCast_sub hpn]; simp
    rw [e]; omega
  have hx : (BitVec.ofInt 64 x).toNat = (x % 18446744073709551616).toNat := by rw [BitVec.toNat_ofInt]; rfl
  have h1 : (BitVec.ofInt 64 x &&& BitVec.ofInt 64 ((2 : Int) ^ i - 1)).toNat = (x % 18446744073709551616).toNat % 2 ^ i := by
    rw [BitVec.toNat_and, hx, hm, Nat.and_two_pow_sub_one_eq_mod]
  have h2 : (((x % 18446744073709551616).toNat % 2 ^ i : Nat) : Int) = x % 2 ^ i := by
    rw [Int.natCast_emod, Int.toNat_of_nonneg (Int.emod_nonneg _ (by decide))]
    have : ((2 ^ i : Nat) : Int) = (2 : Int) ^ i := by simp
    rw [this]
    exact Int.emod_emod_of_dvd x (by
      have : (18446744073709551616 : Int) = 2 ^ i * 2 ^ (64 - i) := by rw [← Int.pow_add, show i + (64 - i) = 64 from by omega]; rfl
      rw [this]; exact Int.dvd_mul_right _ _)
  show IntKind.i64.wrap (((BitVec.ofInt 64 x &&& BitVec.ofInt 64 ((2 : Int) ^ i - 1)).toNat : Nat) : Int) = _
  rw [h1, h2, IntKind.wrap_i64]
  have a := Int.emod_nonneg x (b := 2 ^ i) (by omega)
  have b := Int.emod_lt_of_pos x hp
  generalize x % 2 ^ i = z at *
  omega
def lstF (l : List Int) (i : Nat) : Int := l.getD i 0
def styC (l : List Int) : Array Value := (l.map (Value.int .i64)).toArray
theorem isSty_list (l : List Int) (h : l.length = 43) : IsSty (styC l) (lstF l) := by
  refine ⟨by simp [styC, h], fun i hi => ?_⟩
  have : i < l.length := by omega
  simp [styC, lstF, List.getD, this]
theorem near_list (l : List Int) (h : ∀ x ∈ l, Near x) (i : Nat) : Near (lstF l i) := by
  unfold lstF
  rw [List.getD_eq_getElem?_getD]
  by_cases hi : i < l.length
  · rw [List.getElem?_eq_getElem hi]; exact h _ (List.getElem_mem hi)
  · rw [List.getElem?_eq_none (by omega)]; exact ⟨by decide, by decide⟩
theorem IsSty.set {CS : Array Value} {f : Nat → Int} (h : IsSty CS f) (i : Nat) (v : Int) : IsSty (CS.setIfInBounds i (.int .i64 v)) (fun j => if j = i then v else f j) := by
  refine ⟨by simp [h.1], fun j hj => ?_⟩
  have hs := h.1
  show _ = some (Value.int .i64 (if j = i then v else f j))
  rw [Array.getElem?_setIfInBounds]
  by_cases e : i = j
  · rw [if_pos e, if_pos (by omega), if_pos e.symm]
  · rw [if_neg e, h.2 j hj, if_neg (Ne.symm e)]
theorem StyIn.set {W : World} {g : Nat} {CS : Array Value} (h : StyIn W g CS) (i : Nat) (u : Value) : StyIn (W.setCell ⟨g, i, none⟩ u) g (CS.setIfInBounds i u) := blk_set h i u
def okSty (v : Value) : Bool := match v with
  | .agg c => c.size == 43 && c.all (·.oneCell')
  | _ => false
theorem okSty_agg (c : Array Value) : okSty (.agg c) = (c.size == 43 && c.all (·.oneCell')) := rfl
theorem cells_agg (c : Array Value) : (Value.agg c).cells = c := rfl
theorem exec_store27 (ρ : Operand → Value) (dst : Option Tmp) (x y : Operand) (ty : TypeId) (pos : String) (after : Array Edge) (guard : Option (Nat × Bool)) (W : World) (c : Array Value) (hx : ρ x = .pointer (some ⟨W.heap.size, 0, none⟩)) (hc : c.size = 43) (hy : okSty (ρ y) = true) :
    (execOp ρ { dst := dst, op := .store 27 x y, type := ty, pos := pos, after := after, guard := guard }).run Try.prog (W.alloc (.cells c 27)) = .ok .skip (W.alloc (.cells (ρ y).cells 27)) := by
  obtain ⟨c', hc'⟩ : ∃ c', ρ y = .agg c' := by
    cases hv : ρ y <;> rw [hv] at hy <;> simp [okSty] at hy
    exact ⟨_, rfl⟩
  rw [hc'] at hy ⊢
  rw [okSty_agg, Bool.and_eq_true] at hy
  have hs : c'.size = 43 := by simpa using hy.1
  have hl := run_storeAt_new (P := Try.prog) W 27 c c' (by rw [hs]; kernel_rfl) (by omega) hy.2
  unfold execOp
  simp only [hx, hc', Sem.run_bind, Sem.run_pure, Result.andThen_ok, hl, cells_agg]
theorem okSty_list (l : List Int) (h : l.length = 43) : okSty (.agg (styC l)) = true := by
  rw [okSty_agg, Bool.and_eq_true]
  refine ⟨by simp [styC, h], ?_⟩
  unfold styC
  rw [Array.all_eq_true]
  intro i hi
  simp [Value.oneCell']
def z27 : Array Value := Array.replicate 43 (.int .i64 0)
theorem z27_size : z27.size = 43 := by simp [z27]
theorem exec_alloc27 (ρ : Operand → Value) (dst : Option Tmp) (ty : TypeId) (pos : String) (after : Array Edge) (guard : Option (Nat × Bool)) (W : World) :
    (execOp ρ { dst := dst, op := .alloc 27, type := ty, pos := pos, after := after, guard := guard }).run Try.prog W = .ok (.value (.pointer (some ⟨W.heap.size, 0, none⟩))) (W.alloc (.cells z27 27)) := by kernel_rfl
attribute [local go_sem ↓] exec_store27 exec_alloc27
attribute [local go_sem] z27_size
attribute [local go_sem] cells_agg
theorem eq29_same (x0 x1 x2 : Int) (W : World) : (binOp .eql 29 (.agg #[.int .i64 x0, .int .i64 x1, .int .i64 x2]) (.agg #[.int .i64 x0, .int .i64 x1, .int .i64 x2])).run Try.prog W = .ok (.bool true) W := by
  have h : ∀ d : Nat, (Op.equalIn (d + 2) 29 (.agg #[.int .i64 x0, .int .i64 x1, .int .i64 x2]) (.agg #[.int .i64 x0, .int .i64 x1, .int .i64 x2])).run Try.prog W = .ok true W := fun d => by
    have p0 : (part 2 #[.int .i64 x0, .int .i64 x1, .int .i64 x2] 0).run Try.prog W = .ok (.int .i64 x0) W := by go_simp
    have p1 : (part 2 #[.int .i64 x0, .int .i64 x1, .int .i64 x2] 1).run Try.prog W = .ok (.int .i64 x1) W := by go_simp
    have p2 : (part 2 #[.int .i64 x0, .int .i64 x1, .int .i64 x2] 2).run Try.prog W = .ok (.int .i64 x2) W := by go_simp
    have e : ∀ a : Int, (Op.equalIn (d + 1) 2 (.int .i64 a) (.int .i64 a)).run Try.prog W = .ok true W := fun a => by rw [run_equalIn_int W d 2 .i64 .i64 a a Try.underlying2]; simp
    refine eqA_of Try.underlying29 (by kernel_rfl) ?_
    exact eqf_cons (s := true) (r := true) (by rfl) p0 p0 (e x0) (eqf_cons (s := true) (r := true) (by rfl) p1 p1 (e x1) (eqf_last (by rfl) p2 p2 (e x2)))
  simp only [binOp]
  simp [Op.equal, Op.maxDepth, h 9998]
attribute [local go_sem] eq29_same
def cenM (x pad lk rk : Int) : List Int := [0, 0, 0, 0, 0, 0, 0, 0, 0, 1, x, 0, 0, 1, 0, 0, 0, 0, 0, 0, 0, 0, 0, 1, 0, rk, 0, 1, 0, lk, 0, 0, pad, 0, pad, 0, 0, 0, 0, 0, 0, 0, 0]
def cenL (w pad : Int) : List Int := [0, 0, 0, 0, 0, 0, 0, 0, 0, 1, w, 0, 0, 1, 0, 0, 0, 0, 0, 0, 0, 0, 0, 1, 0, 1, 0, 1, 0, 1, 0, 0, pad, 0, pad, 0, 0, 0, 0, 0, 0, 0, 0]
theorem build_cen (x pad : Int) (w : World) : (Instr.build 27 #[(9, .agg #[.int .i64 1, .int .i64 x]), (17, .agg #[.int .i64 0, .int .i64 pad, .int .i64 0, .int .i64 pad]), (16, .agg #[.int .i64 1, .int .i64 0, .int .i64 1, .int .i64 0, .int .i64 1, .int .i64 0, .int .i64 1, .int .i64 0]), (11, .agg #[.int .i64 1, .int .i64 0])]).run Try.prog w = .ok (.agg (styC (cenL x pad))) w := run_build w 27 _ _ (by kernel_rfl)
theorem okSty_cen (x pad : Int) : okSty (.agg (styC (cenL x pad))) = true := okSty_list _ rfl
def vInt (v : Value) : Int := match v with
  | Value.int _ n => n
  | _ => 0
def n1 (v : Value) : Int := match v with
  | Value.agg cs => vInt (cs.getD 1 undef)
  | _ => 0
theorem n1_two (a : Value) (k : IntKind) (n : Int) : n1 (.agg #[a, .int k n]) = n := rfl
theorem n1_four (a b c : Value) (k : IntKind) (n : Int) : n1 (.agg #[a, .int k n, b, c]) = n := rfl
theorem exec_build_cen (ρ : Operand → Value) (dst : Option Tmp) (x1 x2 x3 x4 : Operand) (ty : TypeId) (pos : String) (after : Array Edge) (guard : Option (Nat × Bool)) (W : World)
    (h1 : ρ x1 = .agg #[.int .i64 1, .int .i64 (n1 (ρ x1))]) (h2 : ρ x2 = .agg #[.int .i64 0, .int .i64 (n1 (ρ x2)), .int .i64 0, .int .i64 (n1 (ρ x2))]) (h3 : ρ x3 = .agg #[.int .i64 1, .int .i64 0, .int .i64 1, .int .i64 0, .int .i64 1, .int .i64 0, .int .i64 1, .int .i64 0]) (h4 : ρ x4 = .agg #[.int .i64 1, .int .i64 0]) :
    (execOp ρ { dst := dst, op := .build 27 #[(9, x1), (17, x2), (16, x3), (11, x4)], type := ty, pos := pos, after := after, guard := guard }).run Try.prog W = .ok (.value (.agg (styC (cenL (n1 (ρ x1)) (n1 (ρ x2)))))) W := by
  have hb := build_cen (n1 (ρ x1)) (n1 (ρ x2)) W
  rw [← h1, ← h2, ← h3, ← h4] at hb
  unfold execOp
  have e : (#[((9 : Nat), x1), (17, x2), (16, x3), (11, x4)] : Array (Nat × Operand)).map (fun (i, x) => (i, ρ x)) = #[(9, ρ x1), (17, ρ x2), (16, ρ x3), (11, ρ x4)] := by simp
  simp only [e, Sem.run_bind, Sem.run_pure, Result.andThen_ok, hb]
attribute [local go_sem ↓] exec_build_cen
attribute [local go_sem] n1_two n1_four okSty_cen
end Go.Proofs.Ytlnhhamfmnjapaa
