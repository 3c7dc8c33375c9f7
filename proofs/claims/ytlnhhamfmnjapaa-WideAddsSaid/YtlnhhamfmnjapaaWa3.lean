import Derived.Test.YtlnhhamfmnjapaaPParsex1
import Derived.Test.YtlnhhamfmnjapaaWd0
import Derived.Deep.CutBlock
namespace Go.Proofs.Ytlnhhamfmnjapaa
open Go.RowKit Go.Proofs.YtlnhhamfmnjapaaW.PrintWords Go.Proofs.YtlnhhamfmnjapaaW.PrintLast Go.Proofs.YtlnhhamfmnjapaaW.PrintMore
open PParse
set_option linter.unusedVariables false
set_option linter.unusedSimpArgs false
theorem and_mask (x : Int) (i : Nat) (hi : i ≤ 62) : Go.bits .and .i64 x (2 ^ i - 1) = x % 2 ^ i := by
  have hp : (0 : Int) < 2 ^ i := Int.pow_pos (by decide)
  have hpn : 0 < 2 ^ i := Nat.two_pow_pos i
  have hle : (2 : Int) ^ i ≤ 2 ^ 62 := by
    have : (2 : Nat) ^ i ≤ 2 ^ 62 := Nat.pow_le_pow_right (by decide) hi
    exact_mod_cast this
  have hle' : (2 : Nat) ^ i ≤ 2 ^ 62 := Nat.pow_le_pow_right (by decide) hi
  have hm : (BitVec.ofInt 64 ((2 : Int) ^ i - 1)).toNat = 2 ^ i - 1 := by
    rw [BitVec.toNat_ofInt]
    have e : ((2 : Int) ^ i - 1) = ((2 ^ i - 1 : Nat) : Int) := by rw [Int.natCast_sub hpn]; simp
    rw [e]; omega
  have hx : (BitVec.ofInt 64 x).toNat = (x % 18446744073709551616).toNat := by rw [BitVec.toNat_ofInt]; rfl
  have h1 : (BitVec.ofInt 64 x &&& BitVec.ofInt 64 ((2 : Int) ^ i - 1)).toNat = (x % 18446744073709551616).toNat % 2 ^ i := by
    rw [BitVec.toNat_and, hx, hm, Nat.and_two_pow_sub_one_eq_mod]
  have h2 : (((x % 18446744073709551616).toNat % 2 ^ i : Nat) : Int) = x % 2 ^ i := by
    rw [Int.natCast_emod, Int.toNat_of_nonneg (Int.emod_nonneg _ (by decide))]
    have : ((2 ^ i : Nat) : Int) = (2 : Int) ^ i := by simp
    rw [this]
    exact Int.emod_emod_of_dvd x (by
      have : (18446744073709551616 : Int) = 2 ^ i * 2 ^ (64 - i) := by rw [← Int.pow_add, show i + (64 - i) = 64 from by omega]; rfl
      rw [this]; exact Int.dvd_mul_right _ _)
  show IntKind.i64.wrap (((BitVec.ofInt 64 x &&& BitVec.ofInt 64 ((2 : Int) ^ i - 1)).toNat : Nat) : Int) = _
  rw [h1, h2, IntKind.wrap_i64]
  have a := Int.emod_nonneg x (b := 2 ^ i) (by omega)
  have b := Int.emod_lt_of_pos x hp
  generalize x % 2 ^ i = z at *
  omega
theorem an1 (x : Int) : 0 ≤ Go.bits .and .i64 x 1 ∧ Go.bits .and .i64 x 1 < 2 := by
  have e : Go.bits .and .i64 x 1 = x % 2 := and_mask x 1 (by decide)
  rw [e]; omega
theorem an3 (x : Int) : 0 ≤ Go.bits .and .i64 x 3 ∧ Go.bits .and .i64 x 3 < 4 := by
  have e : Go.bits .and .i64 x 3 = x % 4 := and_mask x 2 (by decide)
  rw [e]; omega
theorem an7 (x : Int) : 0 ≤ Go.bits .and .i64 x 7 ∧ Go.bits .and .i64 x 7 < 8 := by
  have e : Go.bits .and .i64 x 7 = x % 8 := and_mask x 3 (by decide)
  rw [e]; omega
theorem an255 (x : Int) : 0 ≤ Go.bits .and .i64 x 255 ∧ Go.bits .and .i64 x 255 < 256 := by
  have e : Go.bits .and .i64 x 255 = x % 256 := and_mask x 8 (by decide)
  rw [e]; omega
theorem tm5 (x : Int) : 0 ≤ Int.tmod (Go.bits .and .i64 x 255) 5 ∧ Int.tmod (Go.bits .and .i64 x 255) 5 < 5 := by
  have := an255 x; rw [Int.tmod_eq_emod_of_nonneg (by omega)]; omega
theorem tm3 (x : Int) : 0 ≤ Int.tmod (Go.bits .and .i64 x 255) 3 ∧ Int.tmod (Go.bits .and .i64 x 255) 3 < 3 := by
  have := an255 x; rw [Int.tmod_eq_emod_of_nonneg (by omega)]; omega
theorem one_p (n : Int) : ∃ p, IntKind.i64.wrap (Int.tmod (Go.bits .and .i64 n 255) 33 + 1) = p ∧ 1 ≤ p ∧ p ≤ 33 := by
  have := an255 n
  refine ⟨_, rfl, ?_⟩
  rw [Int.tmod_eq_emod_of_nonneg (by omega), IntKind.wrap_i64]
  omega
theorem rd_all {xs : List ByteArray} (i : Int) (h : ∀ x ∈ xs, x.size ≤ 20) : (rdOf ByteArray.empty xs i).size ≤ 20 := by
  show (xs.getD i.toNat ByteArray.empty).size ≤ 20
  rw [List.getD_eq_getElem?_getD]
  cases hx : xs[i.toNat]? with
  | none => decide
  | some y => exact h y (List.mem_of_getElem? hx)
theorem run_lit2 (ev : Operand → Value) (W : World) {d : Option Tmp} {ty : TypeId} {p : String} {af : Array Edge} {g : Option (Nat × Bool)} (x0 x1 : Operand) (s0 s1 : ByteArray) (h0 : ev x0 = .string s0) (h1 : ev x1 = .string s1) : (execOp ev { dst := d, op := .buildSlice 75 2 #[(0, x0), (1, x1)], type := ty, pos := p, after := af, guard := g }).run Try.prog W = .ok (.value (.slice (some ⟨W.heap.size, 0, none⟩) 2 2)) (W.alloc (.cells [.string s0, .string s1].toArray 9)) := by
  go_simp
theorem run_lit3 (ev : Operand → Value) (W : World) {d : Option Tmp} {ty : TypeId} {p : String} {af : Array Edge} {g : Option (Nat × Bool)} (x0 x1 x2 : Operand) (s0 s1 s2 : ByteArray) (h0 : ev x0 = .string s0) (h1 : ev x1 = .string s1) (h2 : ev x2 = .string s2) : (execOp ev { dst := d, op := .buildSlice 75 3 #[(0, x0), (1, x1), (2, x2)], type := ty, pos := p, after := af, guard := g }).run Try.prog W = .ok (.value (.slice (some ⟨W.heap.size, 0, none⟩) 3 3)) (W.alloc (.cells [.string s0, .string s1, .string s2].toArray 9)) := by
  go_simp
theorem run_lit4 (ev : Operand → Value) (W : World) {d : Option Tmp} {ty : TypeId} {p : String} {af : Array Edge} {g : Option (Nat × Bool)} (x0 x1 x2 x3 : Operand) (s0 s1 s2 s3 : ByteArray) (h0 : ev x0 = .string s0) (h1 : ev x1 = .string s1) (h2 : ev x2 = .string s2) (h3 : ev x3 = .string s3) : (execOp ev { dst := d, op := .buildSlice 75 4 #[(0, x0), (1, x1), (2, x2), (3, x3)], type := ty, pos := p, after := af, guard := g }).run Try.prog W = .ok (.value (.slice (some ⟨W.heap.size, 0, none⟩) 4 4)) (W.alloc (.cells [.string s0, .string s1, .string s2, .string s3].toArray 9)) := by
  go_simp
theorem run_lit5 (ev : Operand → Value) (W : World) {d : Option Tmp} {ty : TypeId} {p : String} {af : Array Edge} {g : Option (Nat × Bool)} (x0 x1 x2 x3 x4 : Operand) (s0 s1 s2 s3 s4 : ByteArray) (h0 : ev x0 = .string s0) (h1 : ev x1 = .string s1) (h2 : ev x2 = .string s2) (h3 : ev x3 = .string s3) (h4 : ev x4 = .string s4) : (execOp ev { dst := d, op := .buildSlice 75 5 #[(0, x0), (1, x1), (2, x2), (3, x3), (4, x4)], type := ty, pos := p, after := af, guard := g }).run Try.prog W = .ok (.value (.slice (some ⟨W.heap.size, 0, none⟩) 5 5)) (W.alloc (.cells [.string s0, .string s1, .string s2, .string s3, .string s4].toArray 9)) := by
  go_simp
theorem run_lit8 (ev : Operand → Value) (W : World) {d : Option Tmp} {ty : TypeId} {p : String} {af : Array Edge} {g : Option (Nat × Bool)} (x0 x1 x2 x3 x4 x5 x6 x7 : Operand) (s0 s1 s2 s3 s4 s5 s6 s7 : ByteArray) (h0 : ev x0 = .string s0) (h1 : ev x1 = .string s1) (h2 : ev x2 = .string s2) (h3 : ev x3 = .string s3) (h4 : ev x4 = .string s4) (h5 : ev x5 = .string s5) (h6 : ev x6 = .string s6) (h7 : ev x7 = .string s7) : (execOp ev { dst := d, op := .buildSlice 75 8 #[(0, x0), (1, x1), (2, x2), (3, x3), (4, x4), (5, x5), (6, x6), (7, x7)], type := ty, pos := p, after := af, guard := g }).run Try.prog W = .ok (.value (.slice (some ⟨W.heap.size, 0, none⟩) 8 8)) (W.alloc (.cells [.string s0, .string s1, .string s2, .string s3, .string s4, .string s5, .string s6, .string s7].toArray 9)) := by
  go_simp
theorem lit_str {P : Program} {ops : Array Oper} {rest : List Oper} {o : Oper} {a : Act} {Q : Exit → Act → World → Prop} {w0 W : World} {e : Nat} (hgd : o.guard = none) {N : Tmp} (_hd : o.dst = some N) {xs : List ByteArray} {m : Nat} (hm : xs.length = m) {inner : List Value} (hi : xs.map Value.string = inner)
    (hrun : (execOp a.eval o).run P W = .ok (.value (.slice (some ⟨W.heap.size, 0, none⟩) m m)) (W.alloc (.cells inner.toArray e)))
    (HB : Below w0.heap.size w0 W)
    (h : ∀ (A : Addr) w1, (∀ i : Int, 0 ≤ i → i < m → w1.cell? (A.add i.toNat) = some (.string (rdOf ByteArray.empty xs i))) → Below w0.heap.size w0 w1 → wpList P ops Q rest (a.put o.dst (.slice (some A) m m)) w1) : wpList P ops Q (o :: rest) a W := by
  subst hi
  refine Kd.event_run hgd hrun (h _ _ (fun i h0 h1 => ?_) (below_alloc HB _))
  obtain ⟨k, rfl⟩ := Int.eq_ofNat_of_zero_le h0
  have hk : k < xs.length := by omega
  have hb := heap_alloc_new W (.cells (xs.map Value.string).toArray e)
  have hc := blk_cell hb k
  have e1 : (⟨W.heap.size, 0, none⟩ : Addr).add ((k : Int)).toNat = ⟨W.heap.size, k, none⟩ := by
    simp [Addr.add]
    exact fun h => h.symm
  rw [e1]
  refine hc.trans ?_
  simp [rdOf, hk]
theorem names_ok : ∃ L, quoinref4_Names.f = some L ∧ L.length = 33 ∧ ∀ x ∈ L, x.size ≤ 20 := ⟨_, rfl, rfl, by decide⟩
set_option maxHeartbeats 8000000 in
set_option maxRecDepth 100000 in
theorem one_calls (n : Int) (W : World) : Calls Try.prog 59 #[.int .i64 n] W fun e W' => ∃ s : ByteArray, e = .returned (.string s) ∧ s.size ≤ 100 ∧ Below W.heap.size W W' := by
  obtain ⟨p, hp, hp1, hp33⟩ := one_p n
  obtain ⟨L, hL, hL33, hL20⟩ := names_ok
  have HP := Lib.hid (And.intro hp1 hp33)
  clear hp1 hp33
  have HB := Lib.hid (Below.refl W.heap.size W)
  go_enter Try.func59, Try.ntmps59
  go_upto_region 1 with (fail)
  go_cut [3] (fun v3 wc => v3 = .int .i64 p ∧ W = wc)
  case first =>
    go_wp2
    go_meet
    case rel => exact ⟨by first | rfl | (rw [← hp]; rfl) | (simp only [hp]) , rfl⟩
  case rest =>
    obtain ⟨rfl, rfl⟩ := hcut
    clear hp
    go_upto_region 4 with (go_at_call 57; (with_reducible refine (quoinref4_Names.calls L _ hL).mono ?_); rintro e w2 ⟨v, rfl, hr, hb⟩; obtain ⟨A, c, rfl⟩ := Kd.R_slice hr; rw [hL33]; have HN := Lib.hid (Kd.R_reads' hr).2.2; clear hr; have hb := Lib.hid hb; clear HB; have HB := hb; clear hb)
    go_upto_if 17 with (fail)
    go_cut [5] (fun v5 wc => ∃ s5 : ByteArray, v5 = .string s5 ∧ Hid (s5.size ≤ 20) ∧ Hid (Below W.heap.size W wc))
    case first => as_aux_lemma =>
      by_cases c1 : p < 33
      · have c1b : decide (p < (33 : Int)) = true := decide_eq_true c1
        have p1 := eq_true (show 0 ≤ p by have := HP.out; omega)
        have q1 := eq_true c1
        obtain ⟨ad, e1, hc1⟩ := Kd.at_string HN.out p (of_eq_true p1) (by rw [hL33]; exact c1)
        cases e1
        have hsz := rd_all p hL20
        generalize rdOf ByteArray.empty L p = sx at hc1 hsz
        (first | rw [c1b] | skip)
        go_wp2
        go_meet
        case rel => exact ⟨_, rfl, Lib.hid (by omega), Lib.hid (by first | exact HB.out | exact pw_below_drewN HB.out _)⟩
      · have c1b : decide (p < (33 : Int)) = false := decide_eq_false c1
        (first | rw [c1b] | skip)
        go_wp2
        go_meet
        case rel => exact ⟨_, rfl, Lib.hid (by decide), Lib.hid (by first | exact HB.out | exact pw_below_drewN HB.out _)⟩
    case rest => as_aux_lemma =>
      obtain ⟨s5, rfl, hs5, HB5⟩ := hcut
      clear HB
      have HB := HB5
      clear HB5
      clear HN
      go_upto_region 6 with (fail)
      go_cut [6] (fun v6 wc => ∃ s6 : ByteArray, v6 = .string s6 ∧ Hid (s6.size ≤ 20) ∧ Hid (Below W.heap.size W wc))
      case first => as_aux_lemma =>
        obtain ⟨p1, q1⟩ := an7 (n / 256)
        replace p1 := eq_true p1
        replace q1 := eq_true q1
        go_wp2_with (first | ((with_reducible refine gate_dst (N := 22) rfl ?_); refine lit_str (e := 9) (xs := ([(⟨#[48]⟩ : ByteArray), (⟨#[49, 48, 112, 120]⟩ : ByteArray), (⟨#[49, 46, 53, 112, 120]⟩ : ByteArray), (⟨#[54, 52, 112, 120]⟩ : ByteArray), (⟨#[49, 48, 48, 112, 120]⟩ : ByteArray), (⟨#[48, 46, 48, 49, 54, 112, 120]⟩ : ByteArray), (⟨#[51, 51, 46, 51, 51, 51, 112, 120]⟩ : ByteArray), (⟨#[50, 48, 48, 112, 120]⟩ : ByteArray)] : List ByteArray)) (m := 8) (inner := [.string (⟨#[48]⟩ : ByteArray), .string (⟨#[49, 48, 112, 120]⟩ : ByteArray), .string (⟨#[49, 46, 53, 112, 120]⟩ : ByteArray), .string (⟨#[54, 52, 112, 120]⟩ : ByteArray), .string (⟨#[49, 48, 48, 112, 120]⟩ : ByteArray), .string (⟨#[48, 46, 48, 49, 54, 112, 120]⟩ : ByteArray), .string (⟨#[51, 51, 46, 51, 51, 51, 112, 120]⟩ : ByteArray), .string (⟨#[50, 48, 48, 112, 120]⟩ : ByteArray)]) ?hg (N := 22) ?hd rfl rfl ?hr HB.out ?_; (case hd => rfl); (case hg => rfl); (case hr => exact run_lit8 _ _ _ _ _ _ _ _ _ _ _ _ _ _ _ _ _ _ rfl rfl rfl rfl rfl rfl rfl rfl); intro A1 wl hc hb; have hb := Lib.hid hb; clear HB; have HB := hb; clear hb; have hsz := rd_all (xs := ([(⟨#[48]⟩ : ByteArray), (⟨#[49, 48, 112, 120]⟩ : ByteArray), (⟨#[49, 46, 53, 112, 120]⟩ : ByteArray), (⟨#[54, 52, 112, 120]⟩ : ByteArray), (⟨#[49, 48, 48, 112, 120]⟩ : ByteArray), (⟨#[48, 46, 48, 49, 54, 112, 120]⟩ : ByteArray), (⟨#[51, 51, 46, 51, 51, 51, 112, 120]⟩ : ByteArray), (⟨#[50, 48, 48, 112, 120]⟩ : ByteArray)] : List ByteArray)) (Go.bits .and .i64 (n / 256) 7) (by first | decide | (simp only [List.mem_cons, List.not_mem_nil, or_false, forall_eq_or_imp, forall_eq]; repeat (first | exact hs6 | refine ⟨hs6, ?_⟩ | decide | refine ⟨by decide, ?_⟩))); have hc1 := hc (Go.bits .and .i64 (n / 256) 7) (of_eq_true p1) (of_eq_true q1); clear hc; generalize rdOf ByteArray.empty ([(⟨#[48]⟩ : ByteArray), (⟨#[49, 48, 112, 120]⟩ : ByteArray), (⟨#[49, 46, 53, 112, 120]⟩ : ByteArray), (⟨#[54, 52, 112, 120]⟩ : ByteArray), (⟨#[49, 48, 48, 112, 120]⟩ : ByteArray), (⟨#[48, 46, 48, 49, 54, 112, 120]⟩ : ByteArray), (⟨#[51, 51, 46, 51, 51, 51, 112, 120]⟩ : ByteArray), (⟨#[50, 48, 48, 112, 120]⟩ : ByteArray)] : List ByteArray) (Go.bits .and .i64 (n / 256) 7) = sx at hc1 hsz))
        go_meet
        case rel => exact ⟨_, rfl, Lib.hid (by omega), Lib.hid (by first | exact HB.out | exact pw_below_drewN HB.out _)⟩
      case rest => as_aux_lemma =>
        obtain ⟨s6, rfl, hs6, HB6⟩ := hcut
        clear HB
        have HB := HB6
        clear HB6
        go_upto_region 7 with (fail)
        go_cut [7] (fun v7 wc => ∃ s7 : ByteArray, v7 = .string s7 ∧ Hid (s7.size ≤ 20) ∧ Hid (Below W.heap.size W wc))
        case first => as_aux_lemma =>
          have hs6b := hs6.out
          obtain ⟨p1, q1⟩ := an7 (n / 2048)
          replace p1 := eq_true p1
          replace q1 := eq_true q1
          go_wp2_with (first | ((with_reducible refine gate_dst (N := 31) rfl ?_); refine lit_str (e := 9) (xs := ([s6, s6, s6, (⟨#[53, 48, 37]⟩ : ByteArray), (⟨#[49, 48, 48, 37]⟩ : ByteArray), (⟨#[51, 51, 46, 51, 51, 37]⟩ : ByteArray), (⟨#[97, 117, 116, 111]⟩ : ByteArray), (⟨#[110, 111, 110, 101]⟩ : ByteArray)] : List ByteArray)) (m := 8) (inner := [.string s6, .string s6, .string s6, .string (⟨#[53, 48, 37]⟩ : ByteArray), .string (⟨#[49, 48, 48, 37]⟩ : ByteArray), .string (⟨#[51, 51, 46, 51, 51, 37]⟩ : ByteArray), .string (⟨#[97, 117, 116, 111]⟩ : ByteArray), .string (⟨#[110, 111, 110, 101]⟩ : ByteArray)]) ?hg (N := 31) ?hd rfl rfl ?hr HB.out ?_; (case hd => rfl); (case hg => rfl); (case hr => exact run_lit8 _ _ _ _ _ _ _ _ _ _ _ _ _ _ _ _ _ _ rfl rfl rfl rfl rfl rfl rfl rfl); intro A1 wl hc hb; have hb := Lib.hid hb; clear HB; have HB := hb; clear hb; have hsz := rd_all (xs := ([s6, s6, s6, (⟨#[53, 48, 37]⟩ : ByteArray), (⟨#[49, 48, 48, 37]⟩ : ByteArray), (⟨#[51, 51, 46, 51, 51, 37]⟩ : ByteArray), (⟨#[97, 117, 116, 111]⟩ : ByteArray), (⟨#[110, 111, 110, 101]⟩ : ByteArray)] : List ByteArray)) (Go.bits .and .i64 (n / 2048) 7) (by first | decide | (simp only [List.mem_cons, List.not_mem_nil, or_false, forall_eq_or_imp, forall_eq]; repeat (first | exact hs6 | refine ⟨hs6, ?_⟩ | decide | refine ⟨by decide, ?_⟩))); have hc1 := hc (Go.bits .and .i64 (n / 2048) 7) (of_eq_true p1) (of_eq_true q1); clear hc; generalize rdOf ByteArray.empty ([s6, s6, s6, (⟨#[53, 48, 37]⟩ : ByteArray), (⟨#[49, 48, 48, 37]⟩ : ByteArray), (⟨#[51, 51, 46, 51, 51, 37]⟩ : ByteArray), (⟨#[97, 117, 116, 111]⟩ : ByteArray), (⟨#[110, 111, 110, 101]⟩ : ByteArray)] : List ByteArray) (Go.bits .and .i64 (n / 2048) 7) = sx at hc1 hsz))
          go_meet
          case rel => exact ⟨_, rfl, Lib.hid (by omega), Lib.hid (by first | exact HB.out | exact pw_below_drewN HB.out _)⟩
        case rest => as_aux_lemma =>
          obtain ⟨s7, rfl, hs7, HB7⟩ := hcut
          clear HB
          have HB := HB7
          clear HB7
          go_upto_block 0 with (fail)
          go_cut [8] (fun v8 wc => ∃ s8 : ByteArray, v8 = .string s8 ∧ Hid (s8.size ≤ 40) ∧ Hid (Below W.heap.size W wc))
          case first => as_aux_lemma =>
            have hs6b := hs6.out
            rename World => w0
            go_upto_region 10 with (fail)
            by_cases c1 : p = 1
            · have c1b : (p == 1) = true := beq_iff_eq.mpr c1
              clear c1
              go_upto_region 11 with (fail)
              obtain ⟨p1, q1⟩ := an7 (n / 16384)
              replace p1 := eq_true p1
              replace q1 := eq_true q1
              go_wp2_with (first | ((with_reducible refine gate_dst (N := 41) rfl ?_); refine lit_str (e := 9) (xs := ([(⟨#[98, 108, 111, 99, 107]⟩ : ByteArray), (⟨#[105, 110, 108, 105, 110, 101]⟩ : ByteArray), (⟨#[102, 108, 101, 120]⟩ : ByteArray), (⟨#[110, 111, 110, 101]⟩ : ByteArray), (⟨#[98, 108, 111, 99, 107]⟩ : ByteArray), (⟨#[102, 108, 101, 120]⟩ : ByteArray), (⟨#[98, 108, 111, 99, 107]⟩ : ByteArray), (⟨#[105, 110, 108, 105, 110, 101]⟩ : ByteArray)] : List ByteArray)) (m := 8) (inner := [.string (⟨#[98, 108, 111, 99, 107]⟩ : ByteArray), .string (⟨#[105, 110, 108, 105, 110, 101]⟩ : ByteArray), .string (⟨#[102, 108, 101, 120]⟩ : ByteArray), .string (⟨#[110, 111, 110, 101]⟩ : ByteArray), .string (⟨#[98, 108, 111, 99, 107]⟩ : ByteArray), .string (⟨#[102, 108, 101, 120]⟩ : ByteArray), .string (⟨#[98, 108, 111, 99, 107]⟩ : ByteArray), .string (⟨#[105, 110, 108, 105, 110, 101]⟩ : ByteArray)]) ?hg (N := 41) ?hd rfl rfl ?hr HB.out ?_; (case hd => rfl); (case hg => rfl); (case hr => exact run_lit8 _ _ _ _ _ _ _ _ _ _ _ _ _ _ _ _ _ _ rfl rfl rfl rfl rfl rfl rfl rfl); intro A1 wl hc hb; have hb := Lib.hid hb; clear HB; have HB := hb; clear hb; have hsz := rd_all (xs := ([(⟨#[98, 108, 111, 99, 107]⟩ : ByteArray), (⟨#[105, 110, 108, 105, 110, 101]⟩ : ByteArray), (⟨#[102, 108, 101, 120]⟩ : ByteArray), (⟨#[110, 111, 110, 101]⟩ : ByteArray), (⟨#[98, 108, 111, 99, 107]⟩ : ByteArray), (⟨#[102, 108, 101, 120]⟩ : ByteArray), (⟨#[98, 108, 111, 99, 107]⟩ : ByteArray), (⟨#[105, 110, 108, 105, 110, 101]⟩ : ByteArray)] : List ByteArray)) (Go.bits .and .i64 (n / 16384) 7) (by first | decide | (simp only [List.mem_cons, List.not_mem_nil, or_false, forall_eq_or_imp, forall_eq]; repeat (first | exact hs6 | refine ⟨hs6, ?_⟩ | decide | refine ⟨by decide, ?_⟩))); have hc1 := hc (Go.bits .and .i64 (n / 16384) 7) (of_eq_true p1) (of_eq_true q1); clear hc; generalize rdOf ByteArray.empty ([(⟨#[98, 108, 111, 99, 107]⟩ : ByteArray), (⟨#[105, 110, 108, 105, 110, 101]⟩ : ByteArray), (⟨#[102, 108, 101, 120]⟩ : ByteArray), (⟨#[110, 111, 110, 101]⟩ : ByteArray), (⟨#[98, 108, 111, 99, 107]⟩ : ByteArray), (⟨#[102, 108, 101, 120]⟩ : ByteArray), (⟨#[98, 108, 111, 99, 107]⟩ : ByteArray), (⟨#[105, 110, 108, 105, 110, 101]⟩ : ByteArray)] : List ByteArray) (Go.bits .and .i64 (n / 16384) 7) = sx at hc1 hsz))
              go_meet
              case rel => exact ⟨_, rfl, Lib.hid (by omega), Lib.hid (by first | exact HB.out | exact pw_below_drewN HB.out _)⟩
            · have c1b : (p == 1) = false := beq_eq_false_iff_ne.mpr c1
              clear c1
              go_upto_region 12 with (fail)
              go_cut [47] (fun v47 wc2 => ∃ x47, v47 = .bool x47 ∧ w0 = wc2)
              case first => as_aux_lemma =>
                cases e1 : decide (8 ≤ p)
                · go_wp2
                  go_meet
                  case rel => exact ⟨_, rfl, rfl⟩
                · cases e1 : decide (p ≤ 11)
                  · go_wp2
                    go_meet
                    case rel => exact ⟨_, rfl, rfl⟩
                  · go_wp2
                    go_meet
                    case rel => exact ⟨_, rfl, rfl⟩
              case rest => as_aux_lemma =>
                obtain ⟨x47, rfl, rfl⟩ := hcut
                cases x47
                case true => as_aux_lemma =>
                  go_upto_region 13 with (fail)
                  have hs7b := hs7.out
                  obtain ⟨p1, q1⟩ := an1 (n / 16384)
                  replace p1 := eq_true p1
                  replace q1 := eq_true q1
                  go_wp2_with (first | ((with_reducible refine gate_dst (N := 54) rfl ?_); refine lit_str (e := 9) (xs := ([(⟨#[]⟩ : ByteArray), (⟨#[45]⟩ : ByteArray)] : List ByteArray)) (m := 2) (inner := [.string (⟨#[]⟩ : ByteArray), .string (⟨#[45]⟩ : ByteArray)]) ?hg (N := 54) ?hd rfl rfl ?hr HB.out ?_; (case hd => rfl); (case hg => rfl); (case hr => exact run_lit2 _ _ _ _ _ _ rfl rfl); intro A1 wl hc hb; have hb := Lib.hid hb; clear HB; have HB := hb; clear hb; have hsz := rd_all (xs := ([(⟨#[]⟩ : ByteArray), (⟨#[45]⟩ : ByteArray)] : List ByteArray)) (Go.bits .and .i64 (n / 16384) 1) (by first | decide | (simp only [List.mem_cons, List.not_mem_nil, or_false, forall_eq_or_imp, forall_eq]; repeat (first | exact hs6 | refine ⟨hs6, ?_⟩ | decide | refine ⟨by decide, ?_⟩))); have hc1 := hc (Go.bits .and .i64 (n / 16384) 1) (of_eq_true p1) (of_eq_true q1); clear hc; generalize rdOf ByteArray.empty ([(⟨#[]⟩ : ByteArray), (⟨#[45]⟩ : ByteArray)] : List ByteArray) (Go.bits .and .i64 (n / 16384) 1) = sx at hc1 hsz; have hada0 : (sx).size + (s7).size ≤ 9223372036854775807 := by first | omega | (simp only [ByteArray.size_append]; omega); have hada1 : decide ((sx).size + (s7).size ≤ 9223372036854775807) = true := decide_eq_true hada0; have hada2 : (9223372036854775807 < (sx).size + (s7).size) = False := eq_false (Nat.not_lt.2 hada0)))
                  go_meet
                  case rel => exact ⟨_, rfl, Lib.hid (by rw [ByteArray.size_append]; omega), Lib.hid (by first | exact HB.out | exact pw_below_drewN HB.out _)⟩
                case false =>
                  go_upto_region 14 with (fail)
                  go_cut [62] (fun v62 wc2 => ∃ x62, v62 = .bool x62 ∧ w0 = wc2)
                  case first => as_aux_lemma =>
                    cases e1 : decide (12 ≤ p)
                    · go_wp2
                      go_meet
                      case rel => exact ⟨_, rfl, rfl⟩
                    · cases e1 : decide (p ≤ 19)
                      · go_wp2
                        go_meet
                        case rel => exact ⟨_, rfl, rfl⟩
                      · go_wp2
                        go_meet
                        case rel => exact ⟨_, rfl, rfl⟩
                  case rest => as_aux_lemma =>
                    obtain ⟨x62, rfl, rfl⟩ := hcut
                    cases x62
                    case true => as_aux_lemma =>
                      go_upto_region 15 with (fail)
                      go_wp2
                      go_meet
                      case rel => exact ⟨_, rfl, Lib.hid (by have := hs6.out; omega), Lib.hid (by first | exact HB.out | exact pw_below_drewN HB.out _)⟩
                    case false =>
                      go_upto_region 16 with (fail)
                      by_cases c1 : p = 20
                      · have c1b : (p == 20) = true := beq_iff_eq.mpr c1
                        clear c1
                        go_upto_region 17 with (fail)
                        obtain ⟨p1, q1⟩ := an3 (n / 16384)
                        replace p1 := eq_true p1
                        replace q1 := eq_true q1
                        go_wp2_with (first | ((with_reducible refine gate_dst (N := 77) rfl ?_); refine lit_str (e := 9) (xs := ([(⟨#[114, 111, 119]⟩ : ByteArray), (⟨#[114, 111, 119, 45, 114, 101, 118, 101, 114, 115, 101]⟩ : ByteArray), (⟨#[99, 111, 108, 117, 109, 110]⟩ : ByteArray), (⟨#[99, 111, 108, 117, 109, 110, 45, 114, 101, 118, 101, 114, 115, 101]⟩ : ByteArray)] : List ByteArray)) (m := 4) (inner := [.string (⟨#[114, 111, 119]⟩ : ByteArray), .string (⟨#[114, 111, 119, 45, 114, 101, 118, 101, 114, 115, 101]⟩ : ByteArray), .string (⟨#[99, 111, 108, 117, 109, 110]⟩ : ByteArray), .string (⟨#[99, 111, 108, 117, 109, 110, 45, 114, 101, 118, 101, 114, 115, 101]⟩ : ByteArray)]) ?hg (N := 77) ?hd rfl rfl ?hr HB.out ?_; (case hd => rfl); (case hg => rfl); (case hr => exact run_lit4 _ _ _ _ _ _ _ _ _ _ rfl rfl rfl rfl); intro A1 wl hc hb; have hb := Lib.hid hb; clear HB; have HB := hb; clear hb; have hsz := rd_all (xs := ([(⟨#[114, 111, 119]⟩ : ByteArray), (⟨#[114, 111, 119, 45, 114, 101, 118, 101, 114, 115, 101]⟩ : ByteArray), (⟨#[99, 111, 108, 117, 109, 110]⟩ : ByteArray), (⟨#[99, 111, 108, 117, 109, 110, 45, 114, 101, 118, 101, 114, 115, 101]⟩ : ByteArray)] : List ByteArray)) (Go.bits .and .i64 (n / 16384) 3) (by first | decide | (simp only [List.mem_cons, List.not_mem_nil, or_false, forall_eq_or_imp, forall_eq]; repeat (first | exact hs6 | refine ⟨hs6, ?_⟩ | decide | refine ⟨by decide, ?_⟩))); have hc1 := hc (Go.bits .and .i64 (n / 16384) 3) (of_eq_true p1) (of_eq_true q1); clear hc; generalize rdOf ByteArray.empty ([(⟨#[114, 111, 119]⟩ : ByteArray), (⟨#[114, 111, 119, 45, 114, 101, 118, 101, 114, 115, 101]⟩ : ByteArray), (⟨#[99, 111, 108, 117, 109, 110]⟩ : ByteArray), (⟨#[99, 111, 108, 117, 109, 110, 45, 114, 101, 118, 101, 114, 115, 101]⟩ : ByteArray)] : List ByteArray) (Go.bits .and .i64 (n / 16384) 3) = sx at hc1 hsz))
                        go_meet
                        case rel => exact ⟨_, rfl, Lib.hid (by omega), Lib.hid (by first | exact HB.out | exact pw_below_drewN HB.out _)⟩
                      · have c1b : (p == 20) = false := beq_eq_false_iff_ne.mpr c1
                        clear c1
                        go_upto_region 18 with (fail)
                        by_cases c1 : p = 21
                        · have c1b : (p == 21) = true := beq_iff_eq.mpr c1
                          clear c1
                          go_upto_region 19 with (fail)
                          obtain ⟨p1, q1⟩ := an3 (n / 16384)
                          replace p1 := eq_true p1
                          replace q1 := eq_true q1
                          go_wp2_with (first | ((with_reducible refine gate_dst (N := 86) rfl ?_); refine lit_str (e := 9) (xs := ([(⟨#[110, 111, 119, 114, 97, 112]⟩ : ByteArray), (⟨#[119, 114, 97, 112]⟩ : ByteArray), (⟨#[119, 114, 97, 112, 45, 114, 101, 118, 101, 114, 115, 101]⟩ : ByteArray), (⟨#[119, 114, 97, 112]⟩ : ByteArray)] : List ByteArray)) (m := 4) (inner := [.string (⟨#[110, 111, 119, 114, 97, 112]⟩ : ByteArray), .string (⟨#[119, 114, 97, 112]⟩ : ByteArray), .string (⟨#[119, 114, 97, 112, 45, 114, 101, 118, 101, 114, 115, 101]⟩ : ByteArray), .string (⟨#[119, 114, 97, 112]⟩ : ByteArray)]) ?hg (N := 86) ?hd rfl rfl ?hr HB.out ?_; (case hd => rfl); (case hg => rfl); (case hr => exact run_lit4 _ _ _ _ _ _ _ _ _ _ rfl rfl rfl rfl); intro A1 wl hc hb; have hb := Lib.hid hb; clear HB; have HB := hb; clear hb; have hsz := rd_all (xs := ([(⟨#[110, 111, 119, 114, 97, 112]⟩ : ByteArray), (⟨#[119, 114, 97, 112]⟩ : ByteArray), (⟨#[119, 114, 97, 112, 45, 114, 101, 118, 101, 114, 115, 101]⟩ : ByteArray), (⟨#[119, 114, 97, 112]⟩ : ByteArray)] : List ByteArray)) (Go.bits .and .i64 (n / 16384) 3) (by first | decide | (simp only [List.mem_cons, List.not_mem_nil, or_false, forall_eq_or_imp, forall_eq]; repeat (first | exact hs6 | refine ⟨hs6, ?_⟩ | decide | refine ⟨by decide, ?_⟩))); have hc1 := hc (Go.bits .and .i64 (n / 16384) 3) (of_eq_true p1) (of_eq_true q1); clear hc; generalize rdOf ByteArray.empty ([(⟨#[110, 111, 119, 114, 97, 112]⟩ : ByteArray), (⟨#[119, 114, 97, 112]⟩ : ByteArray), (⟨#[119, 114, 97, 112, 45, 114, 101, 118, 101, 114, 115, 101]⟩ : ByteArray), (⟨#[119, 114, 97, 112]⟩ : ByteArray)] : List ByteArray) (Go.bits .and .i64 (n / 16384) 3) = sx at hc1 hsz))
                          go_meet
                          case rel => exact ⟨_, rfl, Lib.hid (by omega), Lib.hid (by first | exact HB.out | exact pw_below_drewN HB.out _)⟩
                        · have c1b : (p == 21) = false := beq_eq_false_iff_ne.mpr c1
                          clear c1
                          go_upto_region 20 with (fail)
                          go_cut [92] (fun v92 wc2 => ∃ x92, v92 = .bool x92 ∧ w0 = wc2)
                          case first => as_aux_lemma =>
                            cases e1 : (p == 23)
                            · go_wp2
                              go_meet
                              case rel => exact ⟨_, rfl, rfl⟩
                            · go_wp2
                              go_meet
                              case rel => exact ⟨_, rfl, rfl⟩
                          case rest => as_aux_lemma =>
                            obtain ⟨x92, rfl, rfl⟩ := hcut
                            cases x92
                            case true => as_aux_lemma =>
                              go_upto_region 21 with (fail)
                              obtain ⟨p1, q1⟩ := an3 (n / 16384)
                              replace p1 := eq_true p1
                              replace q1 := eq_true q1
                              go_wp2_with (first | ((with_reducible refine gate_dst (N := 99) rfl ?_); refine lit_str (e := 9) (xs := ([(⟨#[48]⟩ : ByteArray), (⟨#[49]⟩ : ByteArray), (⟨#[50]⟩ : ByteArray), (⟨#[55]⟩ : ByteArray)] : List ByteArray)) (m := 4) (inner := [.string (⟨#[48]⟩ : ByteArray), .string (⟨#[49]⟩ : ByteArray), .string (⟨#[50]⟩ : ByteArray), .string (⟨#[55]⟩ : ByteArray)]) ?hg (N := 99) ?hd rfl rfl ?hr HB.out ?_; (case hd => rfl); (case hg => rfl); (case hr => exact run_lit4 _ _ _ _ _ _ _ _ _ _ rfl rfl rfl rfl); intro A1 wl hc hb; have hb := Lib.hid hb; clear HB; have HB := hb; clear hb; have hsz := rd_all (xs := ([(⟨#[48]⟩ : ByteArray), (⟨#[49]⟩ : ByteArray), (⟨#[50]⟩ : ByteArray), (⟨#[55]⟩ : ByteArray)] : List ByteArray)) (Go.bits .and .i64 (n / 16384) 3) (by first | decide | (simp only [List.mem_cons, List.not_mem_nil, or_false, forall_eq_or_imp, forall_eq]; repeat (first | exact hs6 | refine ⟨hs6, ?_⟩ | decide | refine ⟨by decide, ?_⟩))); have hc1 := hc (Go.bits .and .i64 (n / 16384) 3) (of_eq_true p1) (of_eq_true q1); clear hc; generalize rdOf ByteArray.empty ([(⟨#[48]⟩ : ByteArray), (⟨#[49]⟩ : ByteArray), (⟨#[50]⟩ : ByteArray), (⟨#[55]⟩ : ByteArray)] : List ByteArray) (Go.bits .and .i64 (n / 16384) 3) = sx at hc1 hsz))
                              go_meet
                              case rel => exact ⟨_, rfl, Lib.hid (by omega), Lib.hid (by first | exact HB.out | exact pw_below_drewN HB.out _)⟩
                            case false =>
                              go_upto_region 22 with (fail)
                              by_cases c1 : p = 25
                              · have c1b : (p == 25) = true := beq_iff_eq.mpr c1
                                clear c1
                                go_upto_region 23 with (fail)
                                obtain ⟨p1, q1⟩ := an3 (n / 16384)
                                replace p1 := eq_true p1
                                replace q1 := eq_true q1
                                go_wp2_with (first | ((with_reducible refine gate_dst (N := 108) rfl ?_); refine lit_str (e := 9) (xs := ([(⟨#[48]⟩ : ByteArray), (⟨#[49]⟩ : ByteArray), (⟨#[45, 49]⟩ : ByteArray), (⟨#[49, 48, 48, 48]⟩ : ByteArray)] : List ByteArray)) (m := 4) (inner := [.string (⟨#[48]⟩ : ByteArray), .string (⟨#[49]⟩ : ByteArray), .string (⟨#[45, 49]⟩ : ByteArray), .string (⟨#[49, 48, 48, 48]⟩ : ByteArray)]) ?hg (N := 108) ?hd rfl rfl ?hr HB.out ?_; (case hd => rfl); (case hg => rfl); (case hr => exact run_lit4 _ _ _ _ _ _ _ _ _ _ rfl rfl rfl rfl); intro A1 wl hc hb; have hb := Lib.hid hb; clear HB; have HB := hb; clear hb; have hsz := rd_all (xs := ([(⟨#[48]⟩ : ByteArray), (⟨#[49]⟩ : ByteArray), (⟨#[45, 49]⟩ : ByteArray), (⟨#[49, 48, 48, 48]⟩ : ByteArray)] : List ByteArray)) (Go.bits .and .i64 (n / 16384) 3) (by first | decide | (simp only [List.mem_cons, List.not_mem_nil, or_false, forall_eq_or_imp, forall_eq]; repeat (first | exact hs6 | refine ⟨hs6, ?_⟩ | decide | refine ⟨by decide, ?_⟩))); have hc1 := hc (Go.bits .and .i64 (n / 16384) 3) (of_eq_true p1) (of_eq_true q1); clear hc; generalize rdOf ByteArray.empty ([(⟨#[48]⟩ : ByteArray), (⟨#[49]⟩ : ByteArray), (⟨#[45, 49]⟩ : ByteArray), (⟨#[49, 48, 48, 48]⟩ : ByteArray)] : List ByteArray) (Go.bits .and .i64 (n / 16384) 3) = sx at hc1 hsz))
                                go_meet
                                case rel => exact ⟨_, rfl, Lib.hid (by omega), Lib.hid (by first | exact HB.out | exact pw_below_drewN HB.out _)⟩
                              · have c1b : (p == 25) = false := beq_eq_false_iff_ne.mpr c1
                                clear c1
                                go_upto_region 24 with (fail)
                                by_cases c1 : p = 26
                                · have c1b : (p == 26) = true := beq_iff_eq.mpr c1
                                  clear c1
                                  go_upto_region 25 with (fail)
                                  obtain ⟨p1, q1⟩ := tm5 (n / 16384)
                                  replace p1 := eq_true p1
                                  replace q1 := eq_true q1
                                  go_wp2_with (first | ((with_reducible refine gate_dst (N := 117) rfl ?_); refine lit_str (e := 9) (xs := ([(⟨#[115, 116, 97, 114, 116]⟩ : ByteArray), (⟨#[101, 110, 100]⟩ : ByteArray), (⟨#[99, 101, 110, 116, 101, 114]⟩ : ByteArray), (⟨#[98, 101, 116, 119, 101, 101, 110]⟩ : ByteArray), (⟨#[97, 114, 111, 117, 110, 100]⟩ : ByteArray)] : List ByteArray)) (m := 5) (inner := [.string (⟨#[115, 116, 97, 114, 116]⟩ : ByteArray), .string (⟨#[101, 110, 100]⟩ : ByteArray), .string (⟨#[99, 101, 110, 116, 101, 114]⟩ : ByteArray), .string (⟨#[98, 101, 116, 119, 101, 101, 110]⟩ : ByteArray), .string (⟨#[97, 114, 111, 117, 110, 100]⟩ : ByteArray)]) ?hg (N := 117) ?hd rfl rfl ?hr HB.out ?_; (case hd => rfl); (case hg => rfl); (case hr => exact run_lit5 _ _ _ _ _ _ _ _ _ _ _ _ rfl rfl rfl rfl rfl); intro A1 wl hc hb; have hb := Lib.hid hb; clear HB; have HB := hb; clear hb; have hsz := rd_all (xs := ([(⟨#[115, 116, 97, 114, 116]⟩ : ByteArray), (⟨#[101, 110, 100]⟩ : ByteArray), (⟨#[99, 101, 110, 116, 101, 114]⟩ : ByteArray), (⟨#[98, 101, 116, 119, 101, 101, 110]⟩ : ByteArray), (⟨#[97, 114, 111, 117, 110, 100]⟩ : ByteArray)] : List ByteArray)) (Int.tmod (Go.bits .and .i64 (n / 16384) 255) 5) (by first | decide | (simp only [List.mem_cons, List.not_mem_nil, or_false, forall_eq_or_imp, forall_eq]; repeat (first | exact hs6 | refine ⟨hs6, ?_⟩ | decide | refine ⟨by decide, ?_⟩))); have hc1 := hc (Int.tmod (Go.bits .and .i64 (n / 16384) 255) 5) (of_eq_true p1) (of_eq_true q1); clear hc; generalize rdOf ByteArray.empty ([(⟨#[115, 116, 97, 114, 116]⟩ : ByteArray), (⟨#[101, 110, 100]⟩ : ByteArray), (⟨#[99, 101, 110, 116, 101, 114]⟩ : ByteArray), (⟨#[98, 101, 116, 119, 101, 101, 110]⟩ : ByteArray), (⟨#[97, 114, 111, 117, 110, 100]⟩ : ByteArray)] : List ByteArray) (Int.tmod (Go.bits .and .i64 (n / 16384) 255) 5) = sx at hc1 hsz))
                                  go_meet
                                  case rel => exact ⟨_, rfl, Lib.hid (by omega), Lib.hid (by first | exact HB.out | exact pw_below_drewN HB.out _)⟩
                                · have c1b : (p == 26) = false := beq_eq_false_iff_ne.mpr c1
                                  clear c1
                                  go_upto_region 26 with (fail)
                                  by_cases c1 : p = 27
                                  · have c1b : (p == 27) = true := beq_iff_eq.mpr c1
                                    clear c1
                                    go_upto_region 27 with (fail)
                                    obtain ⟨p1, q1⟩ := an3 (n / 16384)
                                    replace p1 := eq_true p1
                                    replace q1 := eq_true q1
                                    go_wp2_with (first | ((with_reducible refine gate_dst (N := 127) rfl ?_); refine lit_str (e := 9) (xs := ([(⟨#[115, 116, 97, 114, 116]⟩ : ByteArray), (⟨#[101, 110, 100]⟩ : ByteArray), (⟨#[99, 101, 110, 116, 101, 114]⟩ : ByteArray), (⟨#[115, 116, 114, 101, 116, 99, 104]⟩ : ByteArray)] : List ByteArray)) (m := 4) (inner := [.string (⟨#[115, 116, 97, 114, 116]⟩ : ByteArray), .string (⟨#[101, 110, 100]⟩ : ByteArray), .string (⟨#[99, 101, 110, 116, 101, 114]⟩ : ByteArray), .string (⟨#[115, 116, 114, 101, 116, 99, 104]⟩ : ByteArray)]) ?hg (N := 127) ?hd rfl rfl ?hr HB.out ?_; (case hd => rfl); (case hg => rfl); (case hr => exact run_lit4 _ _ _ _ _ _ _ _ _ _ rfl rfl rfl rfl); intro A1 wl hc hb; have hb := Lib.hid hb; clear HB; have HB := hb; clear hb; have hsz := rd_all (xs := ([(⟨#[115, 116, 97, 114, 116]⟩ : ByteArray), (⟨#[101, 110, 100]⟩ : ByteArray), (⟨#[99, 101, 110, 116, 101, 114]⟩ : ByteArray), (⟨#[115, 116, 114, 101, 116, 99, 104]⟩ : ByteArray)] : List ByteArray)) (Go.bits .and .i64 (n / 16384) 3) (by first | decide | (simp only [List.mem_cons, List.not_mem_nil, or_false, forall_eq_or_imp, forall_eq]; repeat (first | exact hs6 | refine ⟨hs6, ?_⟩ | decide | refine ⟨by decide, ?_⟩))); have hc1 := hc (Go.bits .and .i64 (n / 16384) 3) (of_eq_true p1) (of_eq_true q1); clear hc; generalize rdOf ByteArray.empty ([(⟨#[115, 116, 97, 114, 116]⟩ : ByteArray), (⟨#[101, 110, 100]⟩ : ByteArray), (⟨#[99, 101, 110, 116, 101, 114]⟩ : ByteArray), (⟨#[115, 116, 114, 101, 116, 99, 104]⟩ : ByteArray)] : List ByteArray) (Go.bits .and .i64 (n / 16384) 3) = sx at hc1 hsz))
                                    go_meet
                                    case rel => exact ⟨_, rfl, Lib.hid (by omega), Lib.hid (by first | exact HB.out | exact pw_below_drewN HB.out _)⟩
                                  · have c1b : (p == 27) = false := beq_eq_false_iff_ne.mpr c1
                                    clear c1
                                    go_upto_region 28 with (fail)
                                    by_cases c1 : p = 28
                                    · have c1b : (p == 28) = true := beq_iff_eq.mpr c1
                                      clear c1
                                      go_upto_region 29 with (fail)
                                      obtain ⟨p1, q1⟩ := tm5 (n / 16384)
                                      replace p1 := eq_true p1
                                      replace q1 := eq_true q1
                                      go_wp2_with (first | ((with_reducible refine gate_dst (N := 136) rfl ?_); refine lit_str (e := 9) (xs := ([(⟨#[97, 117, 116, 111]⟩ : ByteArray), (⟨#[115, 116, 97, 114, 116]⟩ : ByteArray), (⟨#[101, 110, 100]⟩ : ByteArray), (⟨#[99, 101, 110, 116, 101, 114]⟩ : ByteArray), (⟨#[115, 116, 114, 101, 116, 99, 104]⟩ : ByteArray)] : List ByteArray)) (m := 5) (inner := [.string (⟨#[97, 117, 116, 111]⟩ : ByteArray), .string (⟨#[115, 116, 97, 114, 116]⟩ : ByteArray), .string (⟨#[101, 110, 100]⟩ : ByteArray), .string (⟨#[99, 101, 110, 116, 101, 114]⟩ : ByteArray), .string (⟨#[115, 116, 114, 101, 116, 99, 104]⟩ : ByteArray)]) ?hg (N := 136) ?hd rfl rfl ?hr HB.out ?_; (case hd => rfl); (case hg => rfl); (case hr => exact run_lit5 _ _ _ _ _ _ _ _ _ _ _ _ rfl rfl rfl rfl rfl); intro A1 wl hc hb; have hb := Lib.hid hb; clear HB; have HB := hb; clear hb; have hsz := rd_all (xs := ([(⟨#[97, 117, 116, 111]⟩ : ByteArray), (⟨#[115, 116, 97, 114, 116]⟩ : ByteArray), (⟨#[101, 110, 100]⟩ : ByteArray), (⟨#[99, 101, 110, 116, 101, 114]⟩ : ByteArray), (⟨#[115, 116, 114, 101, 116, 99, 104]⟩ : ByteArray)] : List ByteArray)) (Int.tmod (Go.bits .and .i64 (n / 16384) 255) 5) (by first | decide | (simp only [List.mem_cons, List.not_mem_nil, or_false, forall_eq_or_imp, forall_eq]; repeat (first | exact hs6 | refine ⟨hs6, ?_⟩ | decide | refine ⟨by decide, ?_⟩))); have hc1 := hc (Int.tmod (Go.bits .and .i64 (n / 16384) 255) 5) (of_eq_true p1) (of_eq_true q1); clear hc; generalize rdOf ByteArray.empty ([(⟨#[97, 117, 116, 111]⟩ : ByteArray), (⟨#[115, 116, 97, 114, 116]⟩ : ByteArray), (⟨#[101, 110, 100]⟩ : ByteArray), (⟨#[99, 101, 110, 116, 101, 114]⟩ : ByteArray), (⟨#[115, 116, 114, 101, 116, 99, 104]⟩ : ByteArray)] : List ByteArray) (Int.tmod (Go.bits .and .i64 (n / 16384) 255) 5) = sx at hc1 hsz))
                                      go_meet
                                      case rel => exact ⟨_, rfl, Lib.hid (by omega), Lib.hid (by first | exact HB.out | exact pw_below_drewN HB.out _)⟩
                                    · have c1b : (p == 28) = false := beq_eq_false_iff_ne.mpr c1
                                      clear c1
                                      go_upto_region 30 with (fail)
                                      by_cases c1 : p = 29
                                      · have c1b : (p == 29) = true := beq_iff_eq.mpr c1
                                        clear c1
                                        go_upto_region 31 with (fail)
                                        obtain ⟨p1, q1⟩ := tm3 (n / 16384)
                                        replace p1 := eq_true p1
                                        replace q1 := eq_true q1
                                        go_wp2_with (first | ((with_reducible refine gate_dst (N := 146) rfl ?_); refine lit_str (e := 9) (xs := ([(⟨#[108, 101, 102, 116]⟩ : ByteArray), (⟨#[114, 105, 103, 104, 116]⟩ : ByteArray), (⟨#[99, 101, 110, 116, 101, 114]⟩ : ByteArray)] : List ByteArray)) (m := 3) (inner := [.string (⟨#[108, 101, 102, 116]⟩ : ByteArray), .string (⟨#[114, 105, 103, 104, 116]⟩ : ByteArray), .string (⟨#[99, 101, 110, 116, 101, 114]⟩ : ByteArray)]) ?hg (N := 146) ?hd rfl rfl ?hr HB.out ?_; (case hd => rfl); (case hg => rfl); (case hr => exact run_lit3 _ _ _ _ _ _ _ _ rfl rfl rfl); intro A1 wl hc hb; have hb := Lib.hid hb; clear HB; have HB := hb; clear hb; have hsz := rd_all (xs := ([(⟨#[108, 101, 102, 116]⟩ : ByteArray), (⟨#[114, 105, 103, 104, 116]⟩ : ByteArray), (⟨#[99, 101, 110, 116, 101, 114]⟩ : ByteArray)] : List ByteArray)) (Int.tmod (Go.bits .and .i64 (n / 16384) 255) 3) (by first | decide | (simp only [List.mem_cons, List.not_mem_nil, or_false, forall_eq_or_imp, forall_eq]; repeat (first | exact hs6 | refine ⟨hs6, ?_⟩ | decide | refine ⟨by decide, ?_⟩))); have hc1 := hc (Int.tmod (Go.bits .and .i64 (n / 16384) 255) 3) (of_eq_true p1) (of_eq_true q1); clear hc; generalize rdOf ByteArray.empty ([(⟨#[108, 101, 102, 116]⟩ : ByteArray), (⟨#[114, 105, 103, 104, 116]⟩ : ByteArray), (⟨#[99, 101, 110, 116, 101, 114]⟩ : ByteArray)] : List ByteArray) (Int.tmod (Go.bits .and .i64 (n / 16384) 255) 3) = sx at hc1 hsz))
                                        go_meet
                                        case rel => exact ⟨_, rfl, Lib.hid (by omega), Lib.hid (by first | exact HB.out | exact pw_below_drewN HB.out _)⟩
                                      · have c1b : (p == 29) = false := beq_eq_false_iff_ne.mpr c1
                                        clear c1
                                        go_upto_region 32 with (fail)
                                        by_cases c1 : p = 30
                                        · have c1b : (p == 30) = true := beq_iff_eq.mpr c1
                                          clear c1
                                          go_upto_region 33 with (fail)
                                          obtain ⟨p1, q1⟩ := tm3 (n / 16384)
                                          replace p1 := eq_true p1
                                          replace q1 := eq_true q1
                                          go_wp2_with (first | ((with_reducible refine gate_dst (N := 156) rfl ?_); refine lit_str (e := 9) (xs := ([(⟨#[110, 111, 114, 109, 97, 108]⟩ : ByteArray), (⟨#[110, 111, 119, 114, 97, 112]⟩ : ByteArray), (⟨#[112, 114, 101]⟩ : ByteArray)] : List ByteArray)) (m := 3) (inner := [.string (⟨#[110, 111, 114, 109, 97, 108]⟩ : ByteArray), .string (⟨#[110, 111, 119, 114, 97, 112]⟩ : ByteArray), .string (⟨#[112, 114, 101]⟩ : ByteArray)]) ?hg (N := 156) ?hd rfl rfl ?hr HB.out ?_; (case hd => rfl); (case hg => rfl); (case hr => exact run_lit3 _ _ _ _ _ _ _ _ rfl rfl rfl); intro A1 wl hc hb; have hb := Lib.hid hb; clear HB; have HB := hb; clear hb; have hsz := rd_all (xs := ([(⟨#[110, 111, 114, 109, 97, 108]⟩ : ByteArray), (⟨#[110, 111, 119, 114, 97, 112]⟩ : ByteArray), (⟨#[112, 114, 101]⟩ : ByteArray)] : List ByteArray)) (Int.tmod (Go.bits .and .i64 (n / 16384) 255) 3) (by first | decide | (simp only [List.mem_cons, List.not_mem_nil, or_false, forall_eq_or_imp, forall_eq]; repeat (first | exact hs6 | refine ⟨hs6, ?_⟩ | decide | refine ⟨by decide, ?_⟩))); have hc1 := hc (Int.tmod (Go.bits .and .i64 (n / 16384) 255) 3) (of_eq_true p1) (of_eq_true q1); clear hc; generalize rdOf ByteArray.empty ([(⟨#[110, 111, 114, 109, 97, 108]⟩ : ByteArray), (⟨#[110, 111, 119, 114, 97, 112]⟩ : ByteArray), (⟨#[112, 114, 101]⟩ : ByteArray)] : List ByteArray) (Int.tmod (Go.bits .and .i64 (n / 16384) 255) 3) = sx at hc1 hsz))
                                          go_meet
                                          case rel => exact ⟨_, rfl, Lib.hid (by omega), Lib.hid (by first | exact HB.out | exact pw_below_drewN HB.out _)⟩
                                        · have c1b : (p == 30) = false := beq_eq_false_iff_ne.mpr c1
                                          clear c1
                                          go_upto_region 34 with (fail)
                                          by_cases c1 : p = 32
                                          · have c1b : (p == 32) = true := beq_iff_eq.mpr c1
                                            clear c1
                                            go_upto_region 35 with (fail)
                                            obtain ⟨p1, q1⟩ := an1 (n / 16384)
                                            replace p1 := eq_true p1
                                            replace q1 := eq_true q1
                                            go_wp2_with (first | ((with_reducible refine gate_dst (N := 166) rfl ?_); refine lit_str (e := 9) (xs := ([(⟨#[118, 105, 115, 105, 98, 108, 101]⟩ : ByteArray), (⟨#[104, 105, 100, 100, 101, 110]⟩ : ByteArray)] : List ByteArray)) (m := 2) (inner := [.string (⟨#[118, 105, 115, 105, 98, 108, 101]⟩ : ByteArray), .string (⟨#[104, 105, 100, 100, 101, 110]⟩ : ByteArray)]) ?hg (N := 166) ?hd rfl rfl ?hr HB.out ?_; (case hd => rfl); (case hg => rfl); (case hr => exact run_lit2 _ _ _ _ _ _ rfl rfl); intro A1 wl hc hb; have hb := Lib.hid hb; clear HB; have HB := hb; clear hb; have hsz := rd_all (xs := ([(⟨#[118, 105, 115, 105, 98, 108, 101]⟩ : ByteArray), (⟨#[104, 105, 100, 100, 101, 110]⟩ : ByteArray)] : List ByteArray)) (Go.bits .and .i64 (n / 16384) 1) (by first | decide | (simp only [List.mem_cons, List.not_mem_nil, or_false, forall_eq_or_imp, forall_eq]; repeat (first | exact hs6 | refine ⟨hs6, ?_⟩ | decide | refine ⟨by decide, ?_⟩))); have hc1 := hc (Go.bits .and .i64 (n / 16384) 1) (of_eq_true p1) (of_eq_true q1); clear hc; generalize rdOf ByteArray.empty ([(⟨#[118, 105, 115, 105, 98, 108, 101]⟩ : ByteArray), (⟨#[104, 105, 100, 100, 101, 110]⟩ : ByteArray)] : List ByteArray) (Go.bits .and .i64 (n / 16384) 1) = sx at hc1 hsz))
                                            go_meet
                                            case rel => exact ⟨_, rfl, Lib.hid (by omega), Lib.hid (by first | exact HB.out | exact pw_below_drewN HB.out _)⟩
                                          · have c1b : (p == 32) = false := beq_eq_false_iff_ne.mpr c1
                                            clear c1
                                            go_upto_region 9 with (fail)
                                            go_wp2
                                            go_meet
                                            case rel => exact ⟨_, rfl, Lib.hid (by have := hs7.out; omega), Lib.hid (by first | exact HB.out | exact pw_below_drewN HB.out _)⟩
          case rest => as_aux_lemma =>
            obtain ⟨s8b, rfl, hs8b, HB8⟩ := hcut
            clear HB
            have HB := HB8
            clear HB8
            go_upto_if 175 with (fail)
            go_cut [8] (fun v8 wc => ∃ s8 : ByteArray, v8 = .string s8 ∧ Hid (s8.size ≤ 40) ∧ Hid (Below W.heap.size W wc))
            case first => as_aux_lemma =>
              by_cases c1 : Go.bits .and .i64 (n / 16777216) 31 = 7
              · have c1b : (Go.bits .and .i64 (n / 16777216) 31 == 7) = true := beq_iff_eq.mpr c1
                clear c1
                (first | rw [c1b] | skip)
                go_upto_region 37 with (fail)
                obtain ⟨p1, q1⟩ := an7 (n / 536870912)
                replace p1 := eq_true p1
                replace q1 := eq_true q1
                go_wp2_with (first | ((with_reducible refine gate_dst (N := 176) rfl ?_); refine lit_str (e := 9) (xs := ([(⟨#[45, 49, 112, 120]⟩ : ByteArray), (⟨#[49, 46, 50, 51, 52, 53, 112, 120]⟩ : ByteArray), (⟨#[49, 48, 49]⟩ : ByteArray), (⟨#[97, 117, 116, 111]⟩ : ByteArray), (⟨#[120]⟩ : ByteArray), (⟨#[53]⟩ : ByteArray), (⟨#[49, 48, 48, 48, 48, 48, 112, 120]⟩ : ByteArray), (⟨#[49, 46, 37]⟩ : ByteArray)] : List ByteArray)) (m := 8) (inner := [.string (⟨#[45, 49, 112, 120]⟩ : ByteArray), .string (⟨#[49, 46, 50, 51, 52, 53, 112, 120]⟩ : ByteArray), .string (⟨#[49, 48, 49]⟩ : ByteArray), .string (⟨#[97, 117, 116, 111]⟩ : ByteArray), .string (⟨#[120]⟩ : ByteArray), .string (⟨#[53]⟩ : ByteArray), .string (⟨#[49, 48, 48, 48, 48, 48, 112, 120]⟩ : ByteArray), .string (⟨#[49, 46, 37]⟩ : ByteArray)]) ?hg (N := 176) ?hd rfl rfl ?hr HB.out ?_; (case hd => rfl); (case hg => rfl); (case hr => exact run_lit8 _ _ _ _ _ _ _ _ _ _ _ _ _ _ _ _ _ _ rfl rfl rfl rfl rfl rfl rfl rfl); intro A1 wl hc hb; have hb := Lib.hid hb; clear HB; have HB := hb; clear hb; have hsz := rd_all (xs := ([(⟨#[45, 49, 112, 120]⟩ : ByteArray), (⟨#[49, 46, 50, 51, 52, 53, 112, 120]⟩ : ByteArray), (⟨#[49, 48, 49]⟩ : ByteArray), (⟨#[97, 117, 116, 111]⟩ : ByteArray), (⟨#[120]⟩ : ByteArray), (⟨#[53]⟩ : ByteArray), (⟨#[49, 48, 48, 48, 48, 48, 112, 120]⟩ : ByteArray), (⟨#[49, 46, 37]⟩ : ByteArray)] : List ByteArray)) (Go.bits .and .i64 (n / 536870912) 7) (by first | decide | (simp only [List.mem_cons, List.not_mem_nil, or_false, forall_eq_or_imp, forall_eq]; repeat (first | exact hs6 | refine ⟨hs6, ?_⟩ | decide | refine ⟨by decide, ?_⟩))); have hc1 := hc (Go.bits .and .i64 (n / 536870912) 7) (of_eq_true p1) (of_eq_true q1); clear hc; generalize rdOf ByteArray.empty ([(⟨#[45, 49, 112, 120]⟩ : ByteArray), (⟨#[49, 46, 50, 51, 52, 53, 112, 120]⟩ : ByteArray), (⟨#[49, 48, 49]⟩ : ByteArray), (⟨#[97, 117, 116, 111]⟩ : ByteArray), (⟨#[120]⟩ : ByteArray), (⟨#[53]⟩ : ByteArray), (⟨#[49, 48, 48, 48, 48, 48, 112, 120]⟩ : ByteArray), (⟨#[49, 46, 37]⟩ : ByteArray)] : List ByteArray) (Go.bits .and .i64 (n / 536870912) 7) = sx at hc1 hsz))
                go_meet
                case rel => exact ⟨_, rfl, Lib.hid (by omega), Lib.hid (by first | exact HB.out | exact pw_below_drewN HB.out _)⟩
              · have c1b : (Go.bits .and .i64 (n / 16777216) 31 == 7) = false := beq_eq_false_iff_ne.mpr c1
                clear c1
                (first | rw [c1b] | skip)
                go_wp2
                go_meet
                case rel => exact ⟨_, rfl, Lib.hid (hs8b.out), Lib.hid (by first | exact HB.out | exact pw_below_drewN HB.out _)⟩
            case rest => as_aux_lemma =>
              obtain ⟨s8, rfl, hs8, HB8⟩ := hcut
              clear HB
              have HB := HB8
              clear HB8
              go_upto_region 38 with (fail)
              have hs5b := hs5.out
              have hs8c := hs8.out
              obtain ⟨p1, q1⟩ := tm3 (n / 4294967296)
              replace p1 := eq_true p1
              replace q1 := eq_true q1
              go_wp2_with (first | ((with_reducible refine gate_dst (N := 183) rfl ?_); refine lit_str (e := 9) (xs := ([(⟨#[58]⟩ : ByteArray), (⟨#[58, 32]⟩ : ByteArray), (⟨#[32, 58, 32]⟩ : ByteArray)] : List ByteArray)) (m := 3) (inner := [.string (⟨#[58]⟩ : ByteArray), .string (⟨#[58, 32]⟩ : ByteArray), .string (⟨#[32, 58, 32]⟩ : ByteArray)]) ?hg (N := 183) ?hd rfl rfl ?hr HB.out ?_; (case hd => rfl); (case hg => rfl); (case hr => exact run_lit3 _ _ _ _ _ _ _ _ rfl rfl rfl); intro A1 wl hc hb; have hb := Lib.hid hb; clear HB; have HB := hb; clear hb; have hsz := rd_all (xs := ([(⟨#[58]⟩ : ByteArray), (⟨#[58, 32]⟩ : ByteArray), (⟨#[32, 58, 32]⟩ : ByteArray)] : List ByteArray)) (Int.tmod (Go.bits .and .i64 (n / 4294967296) 255) 3) (by first | decide | (simp only [List.mem_cons, List.not_mem_nil, or_false, forall_eq_or_imp, forall_eq]; repeat (first | exact hs6 | refine ⟨hs6, ?_⟩ | decide | refine ⟨by decide, ?_⟩))); have hc1 := hc (Int.tmod (Go.bits .and .i64 (n / 4294967296) 255) 3) (of_eq_true p1) (of_eq_true q1); clear hc; generalize rdOf ByteArray.empty ([(⟨#[58]⟩ : ByteArray), (⟨#[58, 32]⟩ : ByteArray), (⟨#[32, 58, 32]⟩ : ByteArray)] : List ByteArray) (Int.tmod (Go.bits .and .i64 (n / 4294967296) 255) 3) = sx at hc1 hsz; have hada0 : (s5).size + (sx).size ≤ 9223372036854775807 := by first | omega | (simp only [ByteArray.size_append]; omega); have hada1 : decide ((s5).size + (sx).size ≤ 9223372036854775807) = true := decide_eq_true hada0; have hada2 : (9223372036854775807 < (s5).size + (sx).size) = False := eq_false (Nat.not_lt.2 hada0); have hadb0 : (s5 ++ sx).size + (s8).size ≤ 9223372036854775807 := by first | omega | (simp only [ByteArray.size_append]; omega); have hadb1 : decide ((s5 ++ sx).size + (s8).size ≤ 9223372036854775807) = true := decide_eq_true hadb0; have hadb2 : (9223372036854775807 < (s5 ++ sx).size + (s8).size) = False := eq_false (Nat.not_lt.2 hadb0)))
              go_ret
              exact ⟨_, rfl, by simp only [ByteArray.size_append]; omega, (by first | exact HB.out | exact pw_below_drewN HB.out _)⟩
end Go.Proofs.Ytlnhhamfmnjapaa
