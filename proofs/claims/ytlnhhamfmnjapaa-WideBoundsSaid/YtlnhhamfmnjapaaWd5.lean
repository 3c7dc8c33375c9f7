/- The walk of WideParts. -/
import Derived.Test.YtlnhhamfmnjapaaWd4
namespace Go.Proofs.Ytlnhhamfmnjapaa
open Go.RowKit Go.Proofs.YtlnhhamfmnjapaaW.PrintWords Go.Proofs.YtlnhhamfmnjapaaW.PrintLast Go.Proofs.YtlnhhamfmnjapaaW.PrintMore
open PUnitRounds PUnitRounds.U
set_option linter.unusedVariables false
/-- A style with a width in hundredths and automatic margins not. -/
def partL (h : Int) : List Int := [0, 0, 0, 0, 0, 0, 0, 0, 0, 2, h, 0, 0, 0, 0, 0, 0, 0, 0, 0, 0, 0, 0, 0, 0, 1, 0, 0, 0, 1, 0, 0, 0, 0, 0, 0, 0, 0, 0, 0, 0, 0, 0]
theorem build_part (n : Int) (W : World) : (Instr.build 27 #[(9, .agg #[.int .i64 2, .int .i64 n]), (16, .agg #[.int .i64 0, .int .i64 0, .int .i64 1, .int .i64 0, .int .i64 0, .int .i64 0, .int .i64 1, .int .i64 0])]).run Try.prog W = .ok (.agg (styC (partL n))) W := run_build W 27 _ _ (by kernel_rfl)
theorem exec_build_part (ρ : Operand → Value) (dst : Option Tmp) (x1 x2 : Operand) (ty : TypeId) (pos : String) (after : Array Edge) (guard : Option (Nat × Bool)) (W : World)
    (h1 : ρ x1 = .agg #[.int .i64 2, .int .i64 (n1 (ρ x1))]) (h2 : ρ x2 = .agg #[.int .i64 0, .int .i64 0, .int .i64 1, .int .i64 0, .int .i64 0, .int .i64 0, .int .i64 1, .int .i64 0]) :
    (execOp ρ { dst := dst, op := .build 27 #[(9, x1), (16, x2)], type := ty, pos := pos, after := after, guard := guard }).run Try.prog W = .ok (.value (.agg (styC (partL (n1 (ρ x1)))))) W :=
  exec_build_of ρ dst _ #[(9, ρ x1), (16, ρ x2)] ty pos after guard W _ (by simp) (by have := build_part (n1 (ρ x1)) W; rw [← h1, ← h2] at this; exact this)
attribute [local go_sem ↓] exec_load27 exec_store27 exec_alloc27 exec_build_part exec_build_hgt
attribute [local go_sem] sty_drew row_drew z27_size cells_agg n1_two n1_four

theorem near_part (h : Int) (hh : 0 ≤ h ∧ h ≤ 20001) (i : Nat) : Near (lstF (partL h) i) := by
  refine near_list _ (fun y hy => ?_) i
  have hy2 : y = 0 ∨ y = 1 ∨ y = 2 ∨ y = h := by
    simp [partL] at hy
    omega
  unfold Near
  omega
/-- A part of a length, in hundredths: within reach of it. -/
theorem pct_close (b h : Int) (hb : 0 ≤ b ∧ b ≤ 1000000) (hh : 0 ≤ h ∧ h ≤ 20001) : 0 ≤ pct b h ∧ pct b h ≤ 2100000 ∧ nearB (pct b h) b h = true := by
  have hm0 : 0 ≤ 2 * b * h := Int.mul_nonneg (by omega) hh.1
  have hm1 : 2 * b * h ≤ 2000000 * 20001 := Int.mul_le_mul (by omega) hh.2 hh.1 (by omega)
  have e : pct b h = (2 * b * h + 10000) / 20000 := by
    unfold pct
    rw [held_id (n := b) (by omega) (by omega), held_id (n := h) (by omega) (by omega), ← Int.mul_assoc]
    generalize 2 * b * h = m at *
    exact held_id (by omega) (by omega)
  unfold nearB
  rw [e]
  generalize 2 * b * h = m at *
  refine ⟨by omega, by omega, ?_⟩
  rw [Bool.and_eq_true]
  exact ⟨decide_eq_true (by omega), decide_eq_true (by omega)⟩
theorem part_width (b h : Int) (hb : 0 ≤ b ∧ b ≤ 1000000) (hh : 0 ≤ h ∧ h ≤ 20001) (W : World) : Calls Try.prog 13 #[.agg (styC (partL h)), .int .i64 b] W fun e w' => e = .returned (.agg #[.int .i64 0, .int .i64 (pct b h), .int .i64 (b - pct b h)]) ∧ Below W.heap.size W w' := by
  have hw := width_cs (styC (partL h)) (lstF (partL h)) (isSty_list _ rfl) (fun i _ => near_part h hh i) b (by unfold Near; omega) W
  have e1 : mlN (lstF (partL h)) b = 0 := rfl
  have e2 : mrN (lstF (partL h)) b = 0 := rfl
  have e3 : w0N (lstF (partL h)) b = pct b h := rfl
  have e4 : lstN (lstF (partL h)) b = 0 := rfl
  have e5 : mstN (lstF (partL h)) b = -1 := rfl
  have p0 := (pct_close b h hb hh).1
  have e6 : wN (lstF (partL h)) b = pct b h := by
    unfold wN clampN
    rw [e3, e4, e5, if_neg (by decide)]
    omega
  have e7 : overN (lstF (partL h)) b = b - pct b h := by
    unfold overN
    rw [e1, e2, e6]
    show b - pct b h - (0 + 0) - (0 + 0) - 0 - 0 = _
    omega
  have e8 : sideB (lstF (partL h) 9) = true := rfl
  have e9 : sideB (lstF (partL h) 29) = true := rfl
  have e : widthV (lstF (partL h)) b = .agg #[.int .i64 0, .int .i64 (pct b h), .int .i64 (b - pct b h)] := by
    unfold widthV
    rw [if_neg (by rw [e8]; rintro ⟨h, _⟩; cases h), e1, e2, e6, e7, e9]
    unfold sharedN
    rw [if_pos (.inr rfl), Int.zero_add]
  rw [e] at hw
  exact hw
theorem part_height (b h : Int) (hb : 0 ≤ b ∧ b ≤ 1000000) (hh : 0 ≤ h ∧ h ≤ 20001) (W : World) : Calls Try.prog 15 #[.agg (styC (hgtL h)), .int .i64 b] W fun e w' => e = .returned (.tuple #[.int .i64 (pct b h), .bool true]) ∧ Below W.heap.size W w' := by
  have hw := height_pct (styC (hgtL h)) (lstF (hgtL h)) (isSty_list _ rfl) rfl b hb.1 W
  have p0 := (pct_close b h hb hh).1
  have e : heightN (lstF (hgtL h)) b = pct b h := by
    show clampN (pct b h) 0 (-1) = _
    unfold clampN
    rw [if_neg (by decide)]
    omega
  rw [e] at hw
  exact hw
/-- A pair of numbers in a block of its own. -/
def LenIn (W : World) (g : Nat) (a b : Int) : Prop := W.heap[g]? = some (.cells #[.int .i64 a, .int .i64 b] 23 (0, 0))
theorem LenIn.cells {W : World} {g : Nat} {a b : Int} (h : LenIn W g a b) : W.cell? ⟨g, 0, none⟩ = some (.int .i64 a) ∧ W.cell? ⟨g, 1, none⟩ = some (.int .i64 b) := ⟨(blk_cell h 0).trans rfl, (blk_cell h 1).trans rfl⟩
theorem LenIn.below {W W1 : World} {g : Nat} {a b : Int} (h : LenIn W g a b) (hb : Below W.heap.size W W1) : LenIn W1 g a b := blk_below h hb
theorem LenIn.alloc {W : World} {g : Nat} {a b : Int} (h : LenIn W g a b) (o : Obj) : LenIn (W.alloc o) g a b := (Below.heap_alloc W o g (blk_lt h)).trans h
def BoxIn (W : World) (g : Nat) (a : Int) : Prop := W.heap[g]? = some (.cells #[.int .i64 a] 2 (0, 0))
theorem BoxIn.cell {W : World} {g : Nat} {a : Int} (h : BoxIn W g a) : W.cell? ⟨g, 0, none⟩ = some (.int .i64 a) := (blk_cell h 0).trans rfl
theorem BoxIn.below {W W1 : World} {g : Nat} {a : Int} (h : BoxIn W g a) (hb : Below W.heap.size W W1) : BoxIn W1 g a := blk_below h hb
theorem BoxIn.alloc {W : World} {g : Nat} {a : Int} (h : BoxIn W g a) (o : Obj) : BoxIn (W.alloc o) g a := (Below.heap_alloc W o g (blk_lt h)).trans h

theorem u_mod (a m : Int) (h0 : 0 < m) (h1 : m ≤ 4611686018427387904) : 0 ≤ wrap64 ((IntKind.u64.wrap a).tmod m) ∧ wrap64 ((IntKind.u64.wrap a).tmod m) < m := by
  have e : IntKind.u64.wrap a = a % 18446744073709551616 := rfl
  rw [e]
  have hp : 0 ≤ a % 18446744073709551616 := Int.emod_nonneg _ (by decide)
  generalize a % 18446744073709551616 = z at *
  rw [Int.tmod_eq_emod_of_nonneg hp]
  have b0 := Int.emod_nonneg z (b := m) (by omega)
  have b1 := Int.emod_lt_of_pos z h0
  generalize z % m = y at *
  rw [w64 (by omega) (by omega)]
  exact ⟨b0, b1⟩
set_option maxHeartbeats 4000000 in
set_option maxRecDepth 100000 in
theorem parts_walk (a0 a1 a2 : Int) (w : World) :
    Calls Try.prog 4 #[.int .i64 a0, .int .i64 a1, .int .i64 a2] w fun e w' => e = .returned (.bool true) ∧ Below w.heap.size w w' := by
  go_enter Try.func4, Try.ntmps4
  go_upto_region 2 with (fail)
  have qh := u_mod a0 20001 (by decide) (by decide)
  have qb := u_mod a1 1000000 (by decide) (by decide)
  have qc := u_mod a2 1000000 (by decide) (by decide)
  generalize wrap64 ((IntKind.u64.wrap a0).tmod 20001) = h at *
  generalize wrap64 ((IntKind.u64.wrap a1).tmod 1000000) = b at *
  generalize wrap64 ((IntKind.u64.wrap a2).tmod 1000000) = c at *
  have HH : Hid (0 ≤ h ∧ h ≤ 20001) := ⟨qh.1, by omega⟩
  have HB' : Hid (0 ≤ b ∧ b ≤ 1000000) := ⟨qb.1, by omega⟩
  have HC' : Hid (0 ≤ c ∧ c ≤ 1000000) := ⟨qc.1, by omega⟩
  clear qh qb qc
  go_cut [1, 2, 3, 7] (fun v1 v2 v3 v7 wc => ∃ g g7, v1 = .int .i64 b ∧ v2 = .int .i64 c ∧ v3 = .pointer (some ⟨g, 0, none⟩) ∧ v7 = .pointer (some ⟨g7, 0, none⟩) ∧ Hid (BoxIn wc g h) ∧ Hid (LenIn wc g7 2 h) ∧ Hid (Below w.heap.size w wc))
  case first =>
    go_wp2
    go_meet
    case rel => exact ⟨_, _, rfl, rfl, rfl, rfl, BoxIn.alloc (heap_alloc_new _ _) _, heap_at _ _ _ (by simp), below_alloc (below_alloc (Below.refl _ _) _) _⟩
  case rest =>
    obtain ⟨g, g7, rfl, rfl, rfl, rfl, HBX, HLN, HBL⟩ := hcut
    obtain ⟨l0, l1⟩ := HLN.out.cells
    go_upto_region 4 with (go_at_call 13; (with_reducible refine (part_width b h HB'.out HH.out _).mono ?_); rintro e W3 ⟨rfl, hb⟩; have HBX3 := Lib.hid (HBX.out.below hb); have HLN3 := Lib.hid (HLN.out.below hb); have HBL3 := Lib.hid (below_step HBL.out hb); clear hb)
    clear l0 l1 HBX HLN HBL
    obtain ⟨n, hn⟩ : ∃ n, pct b h = n := ⟨_, rfl⟩
    rw [hn]
    have HN := Lib.hid hn
    clear hn
    have HBX4 := Lib.hid (HBX3.out.alloc (.cells #[.int .i64 0, .int .i64 n, .int .i64 (b - n)] 29))
    have HLN4 := Lib.hid (HLN3.out.alloc (.cells #[.int .i64 0, .int .i64 n, .int .i64 (b - n)] 29))
    have HBL4 := Lib.hid (below_alloc HBL3.out (.cells #[.int .i64 0, .int .i64 n, .int .i64 (b - n)] 29))
    have HOT4 := Lib.hid (show OutIn (W3.alloc (.cells #[.int .i64 0, .int .i64 n, .int .i64 (b - n)] 29)) W3.heap.size 0 n (b - n) from heap_alloc_new W3 _)
    clear HBX3 HLN3 HBL3
    generalize W3.alloc (.cells #[.int .i64 0, .int .i64 n, .int .i64 (b - n)] 29) = W4 at *
    generalize W3.heap.size = g8 at *
    obtain ⟨l0, l1⟩ := HLN4.out.cells
    go_upto_region 5 with (go_at_call 15; (with_reducible refine (part_height c h HC'.out HH.out _).mono ?_); rintro e W5 ⟨rfl, hb⟩; have HBX5 := Lib.hid (HBX4.out.below hb); have HLN5 := Lib.hid (HLN4.out.below hb); have HOT5 := Lib.hid (HOT4.out.below hb); have HBL5 := Lib.hid (below_step HBL4.out hb); clear hb)
    clear l0 l1 HBX4 HLN4 HBL4 HOT4
    obtain ⟨l0, l1⟩ := HLN5.out.cells
    go_upto_region 6 with (go_at_call 15; (with_reducible refine (no_height h _).mono ?_); rintro e W6 ⟨rfl, hb⟩; have HBX6 := Lib.hid (HBX5.out.below hb); have HOT6 := Lib.hid (HOT5.out.below hb); have HBL6 := Lib.hid (below_step HBL5.out hb); clear hb)
    clear l0 l1 HBX5 HLN5 HBL5 HOT5
    obtain ⟨m, hm⟩ : ∃ m, pct c h = m := ⟨_, rfl⟩
    rw [hm]
    have HM := Lib.hid hm
    clear hm
    go_upto_region 7 with (fail)
    obtain ⟨o0, o1, o2, of⟩ := HOT6.out.cells
    clear of
    have kn := pct_close b h HB'.out HH.out
    have km := pct_close c h HC'.out HH.out
    rw [HN.out] at kn
    rw [HM.out] at km
    have KN := Lib.hid kn; have KM := Lib.hid km
    clear kn km
    have bn0 := KN.out.1; have bn1 := KN.out.2.1
    have bb0 := HB'.out.1; have bb1 := HB'.out.2
    have NW : Hid (∀ W g, W.cell? g = some (.int .i64 h) → Calls Try.prog 16 #[.int .i64 n, .int .i64 b, .pointer (some g)] W fun e w' => e = .returned (.bool true) ∧ W = w') := fun W g hc => by
      have := near_calls n b h ⟨KN.out.1, by have := KN.out.2.1; omega⟩ HB'.out HH.out g W hc
      rw [KN.out.2.2] at this
      exact this
    have NC : Hid (∀ W g, W.cell? g = some (.int .i64 h) → Calls Try.prog 16 #[.int .i64 m, .int .i64 c, .pointer (some g)] W fun e w' => e = .returned (.bool true) ∧ W = w') := fun W g hc => by
      have := near_calls m c h ⟨KM.out.1, by have := KM.out.2.1; omega⟩ HC'.out HH.out g W hc
      rw [KM.out.2.2] at this
      exact this
    go_wp2_with (fail)
    go_at_call 16
    (with_reducible refine (NW.out _ _ HBX6.out.cell).mono ?_)
    rintro e W7 ⟨rfl, rfl⟩
    go_wp2_with (fail)
    go_at_call 16
    (with_reducible refine (NC.out _ _ HBX6.out.cell).mono ?_)
    rintro e W7 ⟨rfl, rfl⟩
    go_wp2_with (go_at_call 14; (with_reducible refine (awake_calls _).mono ?_); rintro e W8 ⟨rfl, hb⟩; have HBL8 := Lib.hid (below_step HBL6.out hb); clear hb)
    go_ret
    exact ⟨rfl, HBL8.out⟩
end Go.Proofs.Ytlnhhamfmnjapaa
