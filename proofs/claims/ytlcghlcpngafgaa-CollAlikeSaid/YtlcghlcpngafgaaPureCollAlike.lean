/- CollAlike holds: items of one size stand so many in a line as there is room for, one at least. For any number of items (masked), any size, any room; no condition. -/
import Derived.Test.YtlcghlcpngafgaaUCollAlike
namespace Go.Proofs.Ytlcghlcpngafgaa.Pure
open Go.RowKit Go.Proofs.Ytlcghlcpngafgaa.PCollAlike Go.Proofs.YtlcghlcpngafgaaW.PrintWords Go.Proofs.YtlcghlcpngafgaaW.PrintLast Go.Proofs.YtlcghlcpngafgaaW.PrintMore
open Go.Proofs.Ytlcghlcpngafgaa.PCollAlike.U
set_option linter.unusedVariables false

/-- Line q of items that stand per in a line. -/
def lineQ (N per q : Nat) : Nat × Nat := (q * per, min (q * per + per) N)

theorem goL_alike (N W I per : Nat) (hN : 0 < N) (hW : 0 < W) (hp : per = max (I / W) 1) : ∀ (m i j : Nat), i + m = N → j * per ≤ i → i ≤ j * per + per → (j * per = i → i = 0) →
    goL (List.replicate N (W : Int)) (I : Int) true m (j * per) i (((i - j * per) * W : Nat) : Int) = (List.range' j ((N + per - 1) / per - j)).map (lineQ N per) := by
  have hper : 1 ≤ per := by omega
  intro m
  induction m with
  | zero =>
    intro i j h1 h2 h3 h4
    have hC : (N + per - 1) / per = j + 1 := by
      apply Nat.div_eq_of_lt_le
      · rw [Nat.succ_mul]; omega
      · rw [Nat.succ_mul, Nat.succ_mul]; omega
    rw [hC, Nat.add_sub_cancel_left]
    have hlen : 0 < (List.replicate N (W : Int)).length := by simpa using hN
    rw [goL, if_pos hlen]
    simp only [List.range'_one, List.map_cons, List.map_nil, lineQ, List.length_replicate]
    rw [Nat.min_eq_right (by omega)]
  | succ m ih =>
    intro i j h1 h2 h3 h4
    have hC : j < (N + per - 1) / per := by
      rw [Nat.lt_iff_add_one_le, Nat.le_div_iff_mul_le (by omega), Nat.succ_mul]; omega
    have hg : (List.replicate N (W : Int)).getD i 0 = (W : Int) := by
      simp [List.getD, show i < N by omega]
    rw [goL, hg]
    by_cases hb : i = j * per + per
    · have hbr : I < (i - j * per) * W + W := by
        have h5 : I / W < per + 1 := by omega
        rw [Nat.div_lt_iff_lt_mul hW, Nat.succ_mul] at h5
        rw [show i - j * per = per by omega]; exact h5
      rw [if_pos ⟨rfl, by omega, by omega⟩]
      have e : i = (j + 1) * per := by rw [Nat.succ_mul]; exact hb
      have hi := ih (i + 1) (j + 1) (by omega) (by omega) (by rw [← e]; omega) (by rw [← e]; omega)
      rw [← e, Nat.add_sub_cancel_left, Nat.one_mul] at hi
      rw [hi, show (N + per - 1) / per - j = ((N + per - 1) / per - (j + 1)) + 1 from by omega, List.range'_succ, List.map_cons]
      congr 1
      simp only [lineQ]
      rw [Nat.min_eq_left (by omega), ← hb]
    · have hnb : ¬ (true = true ∧ j * per < i ∧ (I : Int) < (((i - j * per) * W : Nat) : Int) + (W : Int)) := by
        rintro ⟨_, hlt, hI⟩
        have h6 : (i - j * per) + 1 ≤ I / W := by omega
        rw [Nat.le_div_iff_mul_le hW, Nat.succ_mul] at h6
        omega
      rw [if_neg hnb]
      have hi := ih (i + 1) j (by omega) (by omega) (by omega) (by omega)
      rw [show i + 1 - j * per = (i - j * per) + 1 from by omega, Nat.succ_mul] at hi
      rw [← hi]
      congr 1

theorem A_l0 (N : Nat) (W I : Int) (hN : N ≤ 63) (k : Nat) : ∀ (d i : Nat), i + d = N → quoinlaw17_CollAlike.l0 (k + 1 + d) N W I (List.replicate i W) i = quoinlaw17_CollAlike.l0 (k + 1) N W I (List.replicate N W) N := by
  intro d
  induction d with
  | zero => intro i h; simp at h; subst h; rfl
  | succ d ih =>
    intro i h
    have e := ih (i + 1) (by omega)
    rw [show k + 1 + (d + 1) = (k + 1 + d) + 1 from by omega]
    generalize k + 1 + d = kk at *
    rw [quoinlaw17_CollAlike.l0, if_pos (by omega), if_pos (by simp; omega), w64s (by omega), ← List.replicate_succ', e]

theorem A_l1 (N per C : Nat) (hN : N ≤ 63) (hper : per ≤ 4095) (hC : C ≤ 63) (k : Nat) (X : List S25) (hX : X = ((List.range' 0 C).map (lineQ N per)).map toS) : ∀ (d i : Nat), i + d = C → quoinlaw17_CollAlike.l1 (k + 1 + d) N per X i = quoinlaw17_CollAlike.l1 (k + 1) N per X C := by
  have hlen : X.length = C := by rw [hX]; simp
  intro d
  induction d with
  | zero => intro i h; simp at h; subst h; rfl
  | succ d ih =>
    intro i h
    have e := ih (i + 1) (by omega)
    rw [show k + 1 + (d + 1) = (k + 1 + d) + 1 from by omega]
    generalize k + 1 + d = kk at *
    have hx : rd_T25 X i = toS (lineQ N per i) := by
      unfold rd_T25
      rw [Int.toNat_natCast, hX]
      simp [List.getD, show i < C by omega]
    have hp : i * per ≤ 63 * 4095 := Nat.mul_le_mul (by omega) hper
    have c1 : wrap64 ((i : Int) * (per : Int)) = ((i * per : Nat) : Int) := by
      have e1 : (i : Int) * (per : Int) = ((i * per : Nat) : Int) := by simp
      rw [e1]
      exact w64 (by omega) (by omega)
    have c2 : mn (wrap64 (((i * per : Nat) : Int) + (per : Int))) (N : Int) = ((min (i * per + per) N : Nat) : Int) := by
      rw [w64 (by omega) (by omega)]
      unfold mn
      split <;> omega
    rw [quoinlaw17_CollAlike.l1, if_pos (by omega), if_pos (by omega), hx, c1, c2, w64s (by omega), if_neg (by simp [toS, lineQ]), e]

theorem CollAlike : quoinlaw17_CollAlike.Pure := by
  intro a0 a1 a2 w0 w1 w2
  obtain ⟨K, hK⟩ : ∃ K, K = 200 := ⟨_, rfl⟩
  refine ⟨K, ?_⟩
  unfold quoinlaw17_CollAlike.f
  rw [and63, and255, and4095]
  obtain ⟨N, hN⟩ : ∃ N : Nat, a0 % 64 = N := ⟨(a0 % 64).toNat, by omega⟩
  obtain ⟨W, hW⟩ : ∃ W : Nat, a1 % 256 + 1 = W := ⟨(a1 % 256 + 1).toNat, by omega⟩
  obtain ⟨I, hI⟩ : ∃ I : Nat, a2 % 4096 = I := ⟨(a2 % 4096).toNat, by omega⟩
  rw [hN, hI, w64 (x := a1 % 256 + 1) (by omega) (by omega), hW]
  have bN : N ≤ 63 := by omega
  have bW : 0 < W ∧ W ≤ 256 := by omega
  have bI : I ≤ 4095 := by omega
  clear hN hW hI w0 w1 w2
  have h0 := A_l0 N W I bN (K - 1 - N) N 0 (by omega)
  rw [show K - 1 - N + 1 + N = K from by omega] at h0
  rw [show ([] : List Int) = List.replicate 0 (W : Int) from rfl, show (0 : Int) = ((0 : Nat) : Int) from rfl, h0]
  have hk : 100 ≤ K - 1 - N := by omega
  generalize K - 1 - N = k at *
  have hq : Int.tdiv (I : Int) (W : Int) = ((I / W : Nat) : Int) := by
    rw [Int.tdiv_eq_ediv_of_nonneg (by omega)]; simp
  have hqb : I / W ≤ 4095 := Nat.le_trans (Nat.div_le_self _ _) bI
  obtain ⟨qq, hqq⟩ : ∃ qq, qq = I / W := ⟨_, rfl⟩
  have hmx : mx (wrap64 (Int.tdiv (I : Int) (W : Int))) 1 = ((max (I / W) 1 : Nat) : Int) := by
    rw [hq, ← hqq, w64 (by omega) (by omega)]
    unfold mx
    split <;> omega
  rw [quoinlaw17_CollAlike.l0, if_neg (by omega), if_neg (by omega), hmx]
  obtain ⟨per, hper⟩ : ∃ per, per = max (I / W) 1 := ⟨_, rfl⟩
  rw [← hper]
  have bper : 1 ≤ per ∧ per ≤ 4095 := by omega
  have hb : ∀ x ∈ List.replicate N (W : Int), -1099511627776 ≤ x ∧ x ≤ 1099511627776 := by
    intro x hx; rw [List.eq_of_mem_replicate hx]; omega
  rw [lines_f _ _ _ (by simp; omega) hb k (by simp; omega), Option.bind_some, if_neg (by omega)]
  -- how many lines there are
  have hX : goL (List.replicate N (W : Int)) (I : Int) true (List.replicate N (W : Int)).length 0 0 0 = (List.range' 0 ((N + per - 1) / per)).map (lineQ N per) := by
    rw [List.length_replicate]
    rcases Nat.eq_zero_or_pos N with h0 | h0
    · subst h0
      have : (0 + per - 1) / per = 0 := Nat.div_eq_of_lt (by omega)
      rw [this]
      simp [goL]
    · have := goL_alike N W I per h0 bW.1 hper N 0 0 (by omega) (by omega) (by omega) (by omega)
      simpa using this
  rw [hX]
  have hC : (N + per - 1) / per ≤ 63 := by
    have : (N + per - 1) / per < 64 := by
      rw [Nat.div_lt_iff_lt_mul (by omega)]
      have : 63 * 1 ≤ 63 * per := Nat.mul_le_mul (Nat.le_refl _) bper.1
      omega
    omega
  have hdiv : wrap64 (Int.tdiv (wrap64 ((wrap64 ((N : Int) + (per : Int))) - 1)) (per : Int)) = (((N + per - 1) / per : Nat) : Int) := by
    rw [w64 (x := (N : Int) + (per : Int)) (by omega) (by omega), w64 (x := (N : Int) + (per : Int) - 1) (by omega) (by omega), Int.tdiv_eq_ediv_of_nonneg (by omega)]
    have e : (N : Int) + (per : Int) - 1 = ((N + per - 1 : Nat) : Int) := by omega
    rw [e, ← Int.natCast_ediv]
    generalize (N + per - 1) / per = cc at *
    exact w64 (by omega) (by omega)
  rw [hdiv, if_pos (by simp)]
  obtain ⟨C, hCC⟩ : ∃ C, C = (N + per - 1) / per := ⟨_, rfl⟩
  rw [← hCC] at hC ⊢
  clear hdiv hX
  have h1 := A_l1 N per C bN bper.2 hC (k - 1 - C) _ rfl C 0 (by omega)
  rw [show k - 1 - C + 1 + C = k from by omega] at h1
  have h1' : quoinlaw17_CollAlike.l1 k N per (((List.range' 0 C).map (lineQ N per)).map toS) 0 = some true := by
    rw [show (0 : Int) = ((0 : Nat) : Int) from rfl, h1, quoinlaw17_CollAlike.l1, if_neg (by simp), awake_true _ (by omega)]
    rfl
  exact h1'
end Go.Proofs.Ytlcghlcpngafgaa.Pure
