/- The walk of WideCenters: whatever the width, the edges, the room and the automatic margins, it returns what awake does. -/
import Derived.Test.YtlnhhamfmnjapaaWd2
import Derived.Deep.WholeRow
namespace Go.Proofs.Ytlnhhamfmnjapaa
open Go.RowKit Go.Proofs.YtlnhhamfmnjapaaW.PrintWords Go.Proofs.YtlnhhamfmnjapaaW.PrintLast Go.Proofs.YtlnhhamfmnjapaaW.PrintMore
open PUnitRounds PUnitRounds.U
set_option linter.unusedVariables false
attribute [local go_sem ↓] exec_load27
attribute [local go_sem] sty_drew row_drew

/-- A mask of the low i bits of an int64. -/
theorem and_mask (x : Int) (i : Nat) (hi : i ≤ 62) : Go.bits .and .i64 x (2 ^ i - 1) = x % 2 ^ i := by
  have hp : (0 : Int) < 2 ^ i := Int.pow_pos (by decide)
  have hpn : 0 < 2 ^ i := Nat.two_pow_pos i
  have hle : (2 : Int) ^ i ≤ 2 ^ 62 := by
    have : (2 : Nat) ^ i ≤ 2 ^ 62 := Nat.pow_le_pow_right (by decide) hi
    exact_mod_cast this
  have hle' : (2 : Nat) ^ i ≤ 2 ^ 62 := Nat.pow_le_pow_right (by decide) hi
  have hm : (BitVec.ofInt 64 ((2 : Int) ^ i - 1)).toNat = 2 ^ i - 1 := by
    rw [BitVec.toNat_ofInt]
    have e : ((2 : Int) ^ i - 1) = ((2 ^ i - 1 : Nat) : Int) := by rw [Int.natCast_sub hpn]; simp
    rw [e]; omega
  have hx : (BitVec.ofInt 64 x).toNat = (x % 18446744073709551616).toNat := by rw [BitVec.toNat_ofInt]; rfl
  have h1 : (BitVec.ofInt 64 x &&& BitVec.ofInt 64 ((2 : Int) ^ i - 1)).toNat = (x % 18446744073709551616).toNat % 2 ^ i := by
    rw [BitVec.toNat_and, hx, hm, Nat.and_two_pow_sub_one_eq_mod]
  have h2 : (((x % 18446744073709551616).toNat % 2 ^ i : Nat) : Int) = x % 2 ^ i := by
    rw [Int.natCast_emod, Int.toNat_of_nonneg (Int.emod_nonneg _ (by decide))]
    have : ((2 ^ i : Nat) : Int) = (2 : Int) ^ i := by simp
    rw [this]
    exact Int.emod_emod_of_dvd x (by
      have : (18446744073709551616 : Int) = 2 ^ i * 2 ^ (64 - i) := by rw [← Int.pow_add, show i + (64 - i) = 64 from by omega]; rfl
      rw [this]; exact Int.dvd_mul_right _ _)
  show IntKind.i64.wrap (((BitVec.ofInt 64 x &&& BitVec.ofInt 64 ((2 : Int) ^ i - 1)).toNat : Nat) : Int) = _
  rw [h1, h2, IntKind.wrap_i64]
  have a := Int.emod_nonneg x (b := 2 ^ i) (by omega)
  have b := Int.emod_lt_of_pos x hp
  generalize x % 2 ^ i = z at *
  omega
/-- A style by the list of its numbers. -/
def lstF (l : List Int) (i : Nat) : Int := l.getD i 0
/-- The cells of a style of these numbers. -/
def styC (l : List Int) : Array Value := (l.map (Value.int .i64)).toArray
theorem isSty_list (l : List Int) (h : l.length = 43) : IsSty (styC l) (lstF l) := by
  refine ⟨by simp [styC, h], fun i hi => ?_⟩
  have : i < l.length := by omega
  simp [styC, lstF, List.getD, this]
theorem near_list (l : List Int) (h : ∀ x ∈ l, Near x) (i : Nat) : Near (lstF l i) := by
  unfold lstF
  rw [List.getD_eq_getElem?_getD]
  by_cases hi : i < l.length
  · rw [List.getElem?_eq_getElem hi]; exact h _ (List.getElem_mem hi)
  · rw [List.getElem?_eq_none (by omega)]; exact ⟨by decide, by decide⟩
theorem IsSty.set {CS : Array Value} {f : Nat → Int} (h : IsSty CS f) (i : Nat) (v : Int) : IsSty (CS.setIfInBounds i (.int .i64 v)) (fun j => if j = i then v else f j) := by
  refine ⟨by simp [h.1], fun j hj => ?_⟩
  have hs := h.1
  show _ = some (Value.int .i64 (if j = i then v else f j))
  rw [Array.getElem?_setIfInBounds]
  by_cases e : i = j
  · rw [if_pos e, if_pos (by omega), if_pos e.symm]
  · rw [if_neg e, h.2 j hj, if_neg (Ne.symm e)]
theorem StyIn.set {W : World} {g : Nat} {CS : Array Value} (h : StyIn W g CS) (i : Nat) (u : Value) : StyIn (W.setCell ⟨g, i, none⟩ u) g (CS.setIfInBounds i u) := blk_set h i u
/-- A style's cells may be stored. -/
def okSty (v : Value) : Bool := match v with
  | .agg c => c.size == 43 && c.all (·.oneCell')
  | _ => false
theorem okSty_agg (c : Array Value) : okSty (.agg c) = (c.size == 43 && c.all (·.oneCell')) := rfl
theorem cells_agg (c : Array Value) : (Value.agg c).cells = c := rfl
/-- A style stored whole into the block that was made last. -/
theorem exec_store27 (ρ : Operand → Value) (dst : Option Tmp) (x y : Operand) (ty : TypeId) (pos : String) (after : Array Edge) (guard : Option (Nat × Bool)) (W : World) (c : Array Value) (hx : ρ x = .pointer (some ⟨W.heap.size, 0, none⟩)) (hc : c.size = 43) (hy : okSty (ρ y) = true) :
    (execOp ρ { dst := dst, op := .store 27 x y, type := ty, pos := pos, after := after, guard := guard }).run Try.prog (W.alloc (.cells c 27)) = .ok .skip (W.alloc (.cells (ρ y).cells 27)) := by
  obtain ⟨c', hc'⟩ : ∃ c', ρ y = .agg c' := by
    cases hv : ρ y <;> rw [hv] at hy <;> simp [okSty] at hy
    exact ⟨_, rfl⟩
  rw [hc'] at hy ⊢
  rw [okSty_agg, Bool.and_eq_true] at hy
  have hs : c'.size = 43 := by simpa using hy.1
  have hl := run_storeAt_new (P := Try.prog) W 27 c c' (by rw [hs]; kernel_rfl) (by omega) hy.2
  unfold execOp
  simp only [hx, hc', Sem.run_bind, Sem.run_pure, Result.andThen_ok, hl, cells_agg]
theorem okSty_list (l : List Int) (h : l.length = 43) : okSty (.agg (styC l)) = true := by
  rw [okSty_agg, Bool.and_eq_true]
  refine ⟨by simp [styC, h], ?_⟩
  unfold styC
  rw [Array.all_eq_true]
  intro i hi
  simp [Value.oneCell']
/-- A style of nothing. -/
def z27 : Array Value := Array.replicate 43 (.int .i64 0)
theorem z27_size : z27.size = 43 := by simp [z27]
theorem exec_alloc27 (ρ : Operand → Value) (dst : Option Tmp) (ty : TypeId) (pos : String) (after : Array Edge) (guard : Option (Nat × Bool)) (W : World) :
    (execOp ρ { dst := dst, op := .alloc 27, type := ty, pos := pos, after := after, guard := guard }).run Try.prog W = .ok (.value (.pointer (some ⟨W.heap.size, 0, none⟩))) (W.alloc (.cells z27 27)) := by kernel_rfl
attribute [local go_sem ↓] exec_store27 exec_alloc27
attribute [local go_sem] z27_size
attribute [local go_sem] cells_agg
/-- Two widths alike. -/
theorem eq29_same (x0 x1 x2 : Int) (W : World) : (binOp .eql 29 (.agg #[.int .i64 x0, .int .i64 x1, .int .i64 x2]) (.agg #[.int .i64 x0, .int .i64 x1, .int .i64 x2])).run Try.prog W = .ok (.bool true) W := by
  have h : ∀ d : Nat, (Op.equalIn (d + 2) 29 (.agg #[.int .i64 x0, .int .i64 x1, .int .i64 x2]) (.agg #[.int .i64 x0, .int .i64 x1, .int .i64 x2])).run Try.prog W = .ok true W := fun d => by
    have p0 : (part 2 #[.int .i64 x0, .int .i64 x1, .int .i64 x2] 0).run Try.prog W = .ok (.int .i64 x0) W := by go_simp
    have p1 : (part 2 #[.int .i64 x0, .int .i64 x1, .int .i64 x2] 1).run Try.prog W = .ok (.int .i64 x1) W := by go_simp
    have p2 : (part 2 #[.int .i64 x0, .int .i64 x1, .int .i64 x2] 2).run Try.prog W = .ok (.int .i64 x2) W := by go_simp
    have e : ∀ a : Int, (Op.equalIn (d + 1) 2 (.int .i64 a) (.int .i64 a)).run Try.prog W = .ok true W := fun a => by rw [run_equalIn_int W d 2 .i64 .i64 a a Try.underlying2]; simp
    refine eqA_of Try.underlying29 (by kernel_rfl) ?_
    exact eqf_cons (s := true) (r := true) (by rfl) p0 p0 (e x0) (eqf_cons (s := true) (r := true) (by rfl) p1 p1 (e x1) (eqf_last (by rfl) p2 p2 (e x2)))
  simp only [binOp]
  simp [Op.equal, Op.maxDepth, h 9998]
theorem IsSty.setL {CS : Array Value} {l : List Int} (h : IsSty CS (lstF l)) (i : Nat) (hi : i < l.length) (v : Int) : IsSty (CS.setIfInBounds i (.int .i64 v)) (lstF (l.set i v)) := by
  have h2 := h.set i v
  refine ⟨h2.1, fun j hj => (h2.2 j hj).trans ?_⟩
  congr 2
  show (if j = i then v else lstF l j) = lstF (l.set i v) j
  unfold lstF
  rw [List.getD_eq_getElem?_getD, List.getD_eq_getElem?_getD, List.getElem?_set]
  by_cases e : j = i
  · rw [if_pos e, if_pos e.symm, if_pos (by omega)]; rfl
  · rw [if_neg e, if_neg (Ne.symm e)]
attribute [local go_sem] eq29_same
/-- The numbers of the style that WideCenters ends with: lk, rk: its left and right margins' kinds. -/
def cenM (x pad lk rk : Int) : List Int := [0, 0, 0, 0, 0, 0, 0, 0, 0, 1, x, 0, 0, 1, 0, 0, 0, 0, 0, 0, 0, 0, 0, 1, 0, rk, 0, 1, 0, lk, 0, 0, pad, 0, pad, 0, 0, 0, 0, 0, 0, 0, 0]
/-- The numbers of the style that WideCenters begins with. -/
def cenL (w pad : Int) : List Int := [0, 0, 0, 0, 0, 0, 0, 0, 0, 1, w, 0, 0, 1, 0, 0, 0, 0, 0, 0, 0, 0, 0, 1, 0, 1, 0, 1, 0, 1, 0, 0, pad, 0, pad, 0, 0, 0, 0, 0, 0, 0, 0]

theorem build_cen (x pad : Int) (w : World) : (Instr.build 27 #[(9, .agg #[.int .i64 1, .int .i64 x]), (17, .agg #[.int .i64 0, .int .i64 pad, .int .i64 0, .int .i64 pad]), (16, .agg #[.int .i64 1, .int .i64 0, .int .i64 1, .int .i64 0, .int .i64 1, .int .i64 0, .int .i64 1, .int .i64 0]), (11, .agg #[.int .i64 1, .int .i64 0])]).run Try.prog w = .ok (.agg (styC (cenL x pad))) w := run_build w 27 _ _ (by kernel_rfl)
theorem okSty_cen (x pad : Int) : okSty (.agg (styC (cenL x pad))) = true := okSty_list _ rfl
/-- The second number of some. -/
def vInt (v : Value) : Int := match v with
  | Value.int _ n => n
  | _ => 0
def n1 (v : Value) : Int := match v with
  | Value.agg cs => vInt (cs.getD 1 undef)
  | _ => 0
theorem n1_two (a : Value) (k : IntKind) (n : Int) : n1 (.agg #[a, .int k n]) = n := rfl
theorem n1_four (a b c : Value) (k : IntKind) (n : Int) : n1 (.agg #[a, .int k n, b, c]) = n := rfl
theorem exec_build_cen (ρ : Operand → Value) (dst : Option Tmp) (x1 x2 x3 x4 : Operand) (ty : TypeId) (pos : String) (after : Array Edge) (guard : Option (Nat × Bool)) (W : World)
    (h1 : ρ x1 = .agg #[.int .i64 1, .int .i64 (n1 (ρ x1))]) (h2 : ρ x2 = .agg #[.int .i64 0, .int .i64 (n1 (ρ x2)), .int .i64 0, .int .i64 (n1 (ρ x2))]) (h3 : ρ x3 = .agg #[.int .i64 1, .int .i64 0, .int .i64 1, .int .i64 0, .int .i64 1, .int .i64 0, .int .i64 1, .int .i64 0]) (h4 : ρ x4 = .agg #[.int .i64 1, .int .i64 0]) :
    (execOp ρ { dst := dst, op := .build 27 #[(9, x1), (17, x2), (16, x3), (11, x4)], type := ty, pos := pos, after := after, guard := guard }).run Try.prog W = .ok (.value (.agg (styC (cenL (n1 (ρ x1)) (n1 (ρ x2)))))) W := by
  have hb := build_cen (n1 (ρ x1)) (n1 (ρ x2)) W
  rw [← h1, ← h2, ← h3, ← h4] at hb
  unfold execOp
  have e : (#[((9 : Nat), x1), (17, x2), (16, x3), (11, x4)] : Array (Nat × Operand)).map (fun (i, x) => (i, ρ x)) = #[(9, ρ x1), (17, ρ x2), (16, ρ x3), (11, ρ x4)] := by simp
  simp only [e, Sem.run_bind, Sem.run_pure, Result.andThen_ok, hb]
attribute [local go_sem ↓] exec_build_cen
attribute [local go_sem] n1_two n1_four okSty_cen

theorem cen_width (x pad base lk rk : Int) (hx0 : 0 ≤ x) (hx1 : x ≤ 65535) (hp0 : 0 ≤ pad) (hp1 : pad ≤ 255) (hb0 : 0 ≤ base) (hb1 : base ≤ 65535) (hl : lk = 0 ∨ lk = 1) (hr : rk = 0 ∨ rk = 1) :
    ∃ want fr, widthV (lstF (cenM x pad lk rk)) base = .agg #[.int .i64 want, .int .i64 x, .int .i64 fr] ∧ base - x - 2 * pad - want = fr ∧ want = (if 0 < base - x - 2 * pad ∧ lk = 0 then (if rk = 0 then (base - x - 2 * pad) / 2 else base - x - 2 * pad) else 0) := by
  have e1 : mlN (lstF (cenM x pad lk rk)) base = 0 := by
    show sideN lk 0 base = 0
    unfold sideN
    rcases hl with rfl | rfl <;> rfl
  have e2 : mrN (lstF (cenM x pad lk rk)) base = 0 := by
    show sideN rk 0 base = 0
    unfold sideN
    rcases hr with rfl | rfl <;> rfl
  have e3 : w0N (lstF (cenM x pad lk rk)) base = x := rfl
  have e4 : lstN (lstF (cenM x pad lk rk)) base = 0 := rfl
  have e5 : mstN (lstF (cenM x pad lk rk)) base = -1 := rfl
  have e6 : wN (lstF (cenM x pad lk rk)) base = x := by
    unfold wN clampN
    rw [e3, e4, e5, if_neg (by decide)]
    omega
  have e7 : overN (lstF (cenM x pad lk rk)) base = base - x - 2 * pad := by
    unfold overN
    rw [e1, e2, e6]
    show base - x - (pad + 0) - (pad + 0) - 0 - 0 = _
    omega
  have e8 : sideB (lstF (cenM x pad lk rk) 9) = true := rfl
  have e9 : sideB (lstF (cenM x pad lk rk) 29) = decide (lk = 1) := by
    show sideB lk = _
    rcases hl with rfl | rfl <;> rfl
  have e10 : sideB (lstF (cenM x pad lk rk) 25) = decide (rk = 1) := by
    show sideB rk = _
    rcases hr with rfl | rfl <;> rfl
  unfold widthV
  rw [if_neg (by rw [e8]; rintro ⟨h, _⟩; cases h), e1, e2, e6, e7, e9, e10]
  generalize base - x - 2 * pad = fr at *
  unfold sharedN
  rcases hl with rfl | rfl
  · by_cases h : fr < 0
    · rw [if_pos (.inl h), if_neg (by omega)]
      exact ⟨_, _, rfl, by omega, rfl⟩
    · rw [if_neg (by rintro (h2 | h2); exact h h2; cases h2)]
      rcases hr with rfl | rfl
      · rw [if_pos rfl]
        refine ⟨_, _, rfl, rfl, ?_⟩
        by_cases h0 : 0 < fr
        · rw [if_pos ⟨h0, rfl⟩]
        · rw [if_neg (fun h => h0 h.1)]; omega
      · rw [if_neg (by decide)]
        refine ⟨_, _, rfl, by omega, ?_⟩
        by_cases h0 : 0 < fr
        · rw [if_pos ⟨h0, rfl⟩, if_neg (by decide)]; omega
        · rw [if_neg (fun h => h0 h.1)]; omega
  · rw [if_pos (.inr rfl), if_neg (by omega)]
    exact ⟨_, _, rfl, by omega, rfl⟩
theorem near_cenM (x pad lk rk : Int) (hx0 : 0 ≤ x) (hx1 : x ≤ 65535) (hp0 : 0 ≤ pad) (hp1 : pad ≤ 255) (hl : lk = 0 ∨ lk = 1) (hr : rk = 0 ∨ rk = 1) (i : Nat) : Near (lstF (cenM x pad lk rk) i) := by
  refine near_list _ (fun y hy => ?_) i
  have hy2 : y = 0 ∨ y = 1 ∨ y = x ∨ y = pad ∨ y = lk ∨ y = rk := by
    simp [cenM] at hy
    omega
  unfold Near
  omega
set_option maxHeartbeats 4000000 in
set_option maxRecDepth 100000 in
theorem centers_walk (a0 a1 a2 : Int) (a3 a4 : Bool) (w : World) (hA : ∀ W, Calls Try.prog 14 #[] W fun e w' => e = .returned (.bool true) ∧ Below W.heap.size W w') :
    Calls Try.prog 3 #[.int .i64 a0, .int .i64 a1, .int .i64 a2, .bool a3, .bool a4] w fun e w' => e = .returned (.bool true) ∧ Below w.heap.size w w' := by
  have HA := Lib.hid hA
  clear hA
  obtain ⟨x, hx⟩ : ∃ x, Go.bits .and .i64 a0 65535 = x := ⟨_, rfl⟩
  obtain ⟨pad, hpad⟩ : ∃ pad, Go.bits .and .i64 a1 255 = pad := ⟨_, rfl⟩
  obtain ⟨base, hbase⟩ : ∃ base, Go.bits .and .i64 a2 65535 = base := ⟨_, rfl⟩
  have qx := and_mask a0 16 (by decide)
  have qp := and_mask a1 8 (by decide)
  have qb := and_mask a2 16 (by decide)
  have HX : Hid (0 ≤ x ∧ x ≤ 65535) := by rw [← hx]; have e : Go.bits .and .i64 a0 65535 = a0 % 65536 := qx; rw [e]; exact ⟨by omega, by omega⟩
  have HP : Hid (0 ≤ pad ∧ pad ≤ 255) := by rw [← hpad]; have e : Go.bits .and .i64 a1 255 = a1 % 256 := qp; rw [e]; exact ⟨by omega, by omega⟩
  have HBS : Hid (0 ≤ base ∧ base ≤ 65535) := by rw [← hbase]; have e : Go.bits .and .i64 a2 65535 = a2 % 65536 := qb; rw [e]; exact ⟨by omega, by omega⟩
  clear qx qp qb
  go_enter Try.func3, Try.ntmps3
  go_upto_region 3 with (fail)
  go_cut [12] (fun v12 wc => ∃ g CS, v12 = .pointer (some ⟨g, 0, none⟩) ∧ Hid (StyIn wc g CS) ∧ Hid (IsSty CS (lstF (cenL x pad))) ∧ Hid (Below w.heap.size w wc) ∧ Hid (w.heap.size ≤ g))
  case first =>
    have HB0 := Lib.hid (below_alloc (below_alloc (Below.refl w.heap.size w) (.cells #[.int .i64 1, .int .i64 0] 23)) (.cells (styC (cenL x pad)) 27))
    have HS0 := Lib.hid (show StyIn ((w.alloc (.cells #[.int .i64 1, .int .i64 0] 23)).alloc (.cells (styC (cenL x pad)) 27)) (w.heap.size + 1) (styC (cenL x pad)) from by have := heap_alloc_new (w.alloc (.cells #[.int .i64 1, .int .i64 0] 23)) (.cells (styC (cenL x pad)) 27); rw [World.size_alloc] at this; exact this)
    go_wp2
    go_meet
    case rel => exact ⟨w.heap.size + 1, styC (cenL x pad), rfl, HS0.out, isSty_list _ rfl, HB0.out, Nat.le_succ _⟩
  case rest =>
    obtain ⟨g, CS, rfl, HST, HIS, HB, HG⟩ := hcut
    clear hx hpad hbase
    go_upto_if 35 with (fail)
    go_cut [] (fun wc => ∃ CS', Hid (StyIn wc g CS') ∧ Hid (IsSty CS' (lstF (cenM x pad (if a3 = true then 0 else 1) 1))) ∧ Hid (Below w.heap.size w wc))
    case first =>
      cases a3
      · go_wp2
        go_meet
        case rel => exact ⟨CS, HST.out, HIS.out, HB.out⟩
      · have c29 := HST.out.cell HIS.out 29 (by omega)
        have c30 := HST.out.cell HIS.out 30 (by omega)
        have fz29 : wc.frozen? ⟨g, 29, none⟩ = false := blk_frozen HST.out 29
        have fz30 : wc.frozen? ⟨g, 30, none⟩ = false := blk_frozen HST.out 30
        go_wp2
        go_meet
        case rel => exact ⟨_, (HST.out.set 29 (.int .i64 0)).set 30 (.int .i64 0), (HIS.out.setL 29 (show 29 < 43 by omega) 0).setL 30 (show 30 < 43 by omega) 0, (HB.out.setCell (p := ⟨g, 29, none⟩) HG.out _).setCell (p := ⟨g, 30, none⟩) HG.out _⟩
    case rest =>
      obtain ⟨CS1, HST1, HIS1, HB1⟩ := hcut
      clear HST HIS HB
      go_upto_if 39 with (fail)
      go_cut [] (fun wd => ∃ CS', Hid (StyIn wd g CS') ∧ Hid (IsSty CS' (lstF (cenM x pad (if a3 = true then 0 else 1) (if a4 = true then 0 else 1)))) ∧ Hid (Below w.heap.size w wd))
      case first =>
        cases a4
        · go_wp2
          go_meet
          case rel => exact ⟨CS1, HST1.out, HIS1.out, HB1.out⟩
        · have c25 := HST1.out.cell HIS1.out 25 (by omega)
          have c26 := HST1.out.cell HIS1.out 26 (by omega)
          have fz25 : wc.frozen? ⟨g, 25, none⟩ = false := blk_frozen HST1.out 25
          have fz26 : wc.frozen? ⟨g, 26, none⟩ = false := blk_frozen HST1.out 26
          go_wp2
          go_meet
          case rel => exact ⟨_, (HST1.out.set 25 (.int .i64 0)).set 26 (.int .i64 0), (HIS1.out.setL 25 (show 25 < 43 by omega) 0).setL 26 (show 26 < 43 by omega) 0, (HB1.out.setCell (p := ⟨g, 25, none⟩) HG.out _).setCell (p := ⟨g, 26, none⟩) HG.out _⟩
      case rest =>
        obtain ⟨CS2, HST2, HIS2, HB2⟩ := hcut
        clear HST1 HIS1 HB1
        obtain ⟨want, fr, hw1, hw2, hw3⟩ := cen_width x pad base (if a3 = true then 0 else 1) (if a4 = true then 0 else 1) HX.out.1 HX.out.2 HP.out.1 HP.out.2 HBS.out.1 HBS.out.2 (by cases a3 <;> simp) (by cases a4 <;> simp)
        have HWD : Hid (∀ W, Calls Try.prog 13 #[.agg CS2, .int .i64 base] W fun e w' => e = .returned (.agg #[.int .i64 want, .int .i64 x, .int .i64 fr]) ∧ Below W.heap.size W w') := fun W => by
          have := width_cs CS2 _ HIS2.out (fun i _ => near_cenM x pad _ _ HX.out.1 HX.out.2 HP.out.1 HP.out.2 (by cases a3 <;> simp) (by cases a4 <;> simp) i) base (by have := HBS.out; unfold Near; omega) W
          rw [hw1] at this
          exact this
        have HW3 := Lib.hid hw3
        obtain ⟨free, hfree⟩ : ∃ free, base - x - 2 * pad = free := ⟨_, rfl⟩
        have hf2 : base - x - 2 * pad = free := hfree
        rw [hfree] at hw2 HW3
        have bx := HX.out; have bp := HP.out; have bb := HBS.out
        obtain ⟨bx0, bx1⟩ := bx
        obtain ⟨bp0, bp1⟩ := bp
        obtain ⟨bb0, bb1⟩ := bb
        have bf0 : -70000 ≤ free := by omega
        have bf1 : free ≤ 70000 := by omega
        clear hw1 hw3 hfree
        obtain ⟨hst, hrow⟩ := sty_of HST2.out HIS2.out.1
        go_upto_region 9 with (go_at_call 13; (with_reducible refine (HWD.out _).mono ?_); rintro e W3 ⟨rfl, hb⟩; have HB3 := Lib.hid (below_step HB2.out hb); clear hb)
        clear hst hrow HST2 HB2 HWD
        clear HIS2 HX HP HBS
        by_cases h0 : 0 < free
        · have d0 : decide (0 < free) = true := decide_eq_true h0
          cases a3
          · obtain rfl : want = 0 := by have := HW3.out; rw [if_neg (fun h => absurd h.2 (by decide))] at this; exact this
            clear HW3
            go_wp2_with (go_at_call 14; (with_reducible refine (HA.out _).mono ?_); rintro e W5 ⟨rfl, hb⟩; have HB5 := Lib.hid (below_step (below_alloc HB3.out _) hb); clear hb)
            go_ret
            exact ⟨rfl, HB5.out⟩
          · cases a4
            · obtain rfl : want = free := by have := HW3.out; rw [if_pos ⟨h0, rfl⟩, if_neg (by decide)] at this; exact this
              clear HW3
              go_wp2_with (go_at_call 14; (with_reducible refine (HA.out _).mono ?_); rintro e W5 ⟨rfl, hb⟩; have HB5 := Lib.hid (below_step (below_alloc HB3.out _) hb); clear hb)
              go_ret
              exact ⟨rfl, HB5.out⟩
            · obtain rfl : want = free / 2 := by have := HW3.out; rw [if_pos ⟨h0, rfl⟩, if_pos (by decide)] at this; exact this
              clear HW3
              go_wp2_with (go_at_call 14; (with_reducible refine (HA.out _).mono ?_); rintro e W5 ⟨rfl, hb⟩; have HB5 := Lib.hid (below_step (below_alloc HB3.out _) hb); clear hb)
              go_ret
              exact ⟨rfl, HB5.out⟩
        · have d0 : decide (0 < free) = false := decide_eq_false h0
          obtain rfl : want = 0 := by have := HW3.out; rw [if_neg (fun h => h0 h.1)] at this; exact this
          clear HW3 h0
          go_wp2_with (go_at_call 14; (with_reducible refine (HA.out _).mono ?_); rintro e W5 ⟨rfl, hb⟩; have HB5 := Lib.hid (below_step (below_alloc HB3.out _) hb); clear hb)
          go_ret
          exact ⟨rfl, HB5.out⟩
end Go.Proofs.Ytlnhhamfmnjapaa
