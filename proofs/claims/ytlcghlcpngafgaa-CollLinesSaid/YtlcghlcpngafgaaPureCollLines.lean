/- CollLines holds: each item is in one line, in order; a line of two and more has room for them; with the next one it had not; without wrapping all are one line. For any sizes, any room; no condition. -/
import Derived.Test.YtlcghlcpngafgaaUCollLines
namespace Go.Proofs.Ytlcghlcpngafgaa.Pure
open Go.RowKit Go.Proofs.Ytlcghlcpngafgaa.PCollLines Go.Proofs.YtlcghlcpngafgaaW.PrintWords Go.Proofs.YtlcghlcpngafgaaW.PrintLast Go.Proofs.YtlcghlcpngafgaaW.PrintMore
open Go.Proofs.Ytlcghlcpngafgaa.PCollLines.U
set_option linter.unusedVariables false

/-- The sum of d items from a on. -/
def sumF (l : List Int) (a : Nat) : Nat → Int
  | 0 => 0
  | d + 1 => sumF l a d + l.getD (a + d) 0
theorem getD_in {l : List Int} (hb : ∀ x ∈ l, 0 ≤ x ∧ x < 1000) (i : Nat) : 0 ≤ l.getD i 0 ∧ l.getD i 0 < 1000 := by
  by_cases h : i < l.length
  · exact hb (l.getD i 0) (by simp [List.getD, List.getElem?_eq_getElem h])
  · have : l.getD i 0 = 0 := by simp [List.getD, List.getElem?_eq_none (Nat.le_of_not_lt h)]
    omega
theorem sumF_bd {l : List Int} (hb : ∀ x ∈ l, 0 ≤ x ∧ x < 1000) (a : Nat) : ∀ d : Nat, 0 ≤ sumF l a d ∧ sumF l a d ≤ (d : Int) * 1000 := by
  intro d
  induction d with
  | zero => simp [sumF]
  | succ d ih => have := getD_in hb (a + d); simp only [sumF]; omega

/-- What the statement asks of the lines from item at on. -/
def Chk (l : List Int) (I : Int) : Nat → List (Nat × Nat) → Prop
  | at_, [] => at_ = l.length
  | at_, (a, b) :: rest => a = at_ ∧ at_ < b ∧ b ≤ l.length ∧ (I < sumF l at_ (b - at_) → b - at_ ≤ 1) ∧ (b < l.length → I < sumF l at_ (b - at_) + l.getD b 0) ∧ Chk l I b rest

theorem goL_chk (l : List Int) (I : Int) : ∀ (m i f : Nat), i + m = l.length → f ≤ i → (f = i → i = 0) → (I < sumF l f (i - f) → i - f ≤ 1) → Chk l I f (goL l I true m f i (sumF l f (i - f))) := by
  intro m
  induction m with
  | zero =>
    intro i f h1 h2 h3 h4
    rw [goL]
    by_cases h : 0 < l.length
    · rw [if_pos h]
      have hi : i = l.length := by omega
      rw [hi] at h4
      exact ⟨rfl, by omega, Nat.le_refl _, h4, fun h => absurd h (Nat.lt_irrefl _), rfl⟩
    · rw [if_neg h]
      show f = l.length
      omega
  | succ m ih =>
    intro i f h1 h2 h3 h4
    rw [goL]
    by_cases hb : true = true ∧ f < i ∧ I < sumF l f (i - f) + l.getD i 0
    · rw [if_pos hb]
      have e := ih (i + 1) i (by omega) (by omega) (by omega) (by omega)
      rw [Nat.add_sub_cancel_left] at e
      simp only [sumF, Int.zero_add, Nat.add_zero] at e
      exact ⟨rfl, hb.2.1, by omega, h4, fun _ => hb.2.2, e⟩
    · rw [if_neg hb]
      have e2 : sumF l f (i - f) + l.getD i 0 = sumF l f (i + 1 - f) := by
        rw [show i + 1 - f = (i - f) + 1 from by omega, sumF, show f + (i - f) = i from by omega]
      rw [e2]
      refine ih (i + 1) f (by omega) (by omega) (by omega) ?_
      intro hlt
      by_cases hf : f < i
      · exact absurd ⟨rfl, hf, by omega⟩ hb
      · omega

theorem goL_one (l : List Int) (I : Int) : ∀ (m f i : Nat) (s : Int), goL l I false m f i s = if 0 < l.length then [(f, l.length)] else [] := by
  intro m
  induction m with
  | zero => intro f i s; rfl
  | succ m ih => intro f i s; rw [goL, if_neg (fun h => by cases h.1), ih]

/-- A size made none below 0. -/
def ab (x : Int) : Int := if x < 0 then wrap64 (-x) else x
theorem ab_bd {x : Int} (h : -1000 < x ∧ x < 1000) : 0 ≤ ab x ∧ ab x < 1000 := by
  unfold ab
  split
  · rw [w64 (by omega) (by omega)]; omega
  · omega

theorem L_l0 (t : List Int) (ht : t.length ≤ 60) (a : Int) (k : Nat) : ∀ (d i : Nat), i + d = t.length → quoinlaw17_CollLines.l0 (k + 1 + d) ((t.take i).map ab ++ t.drop i) a i = quoinlaw17_CollLines.l0 (k + 1) (t.map ab) a t.length := by
  intro d
  induction d with
  | zero => intro i h; have hi : i = t.length := by omega
            subst hi; simp
  | succ d ih =>
    intro i h
    have e := ih (i + 1) (by omega)
    have hi : i < t.length := by omega
    have hl : ((t.take i).map ab ++ t.drop i).length = t.length := by simp; omega
    have hrd : rd ((t.take i).map ab ++ t.drop i) i = t[i] := by
      rw [rd_nat, List.getD, List.getElem?_append_right (by simp; omega)]
      simp [show min i t.length = i by omega, hi]
    have hset : ∀ v, ((t.take i).map ab ++ t.drop i).set i v = (t.take i).map ab ++ v :: t.drop (i + 1) := by
      intro v
      have hz : i - ((t.take i).map ab).length = 0 := by simp; omega
      rw [List.set_append_right _ _ (by simp; omega), hz, List.drop_eq_getElem_cons hi, List.set_cons_zero]
    have hnext : (t.take (i + 1)).map ab ++ t.drop (i + 1) = (t.take i).map ab ++ ab t[i] :: t.drop (i + 1) := by
      rw [List.take_succ_eq_append_getElem hi, List.map_append, List.append_assoc]; rfl
    have hcons : t.drop i = t[i] :: t.drop (i + 1) := List.drop_eq_getElem_cons hi
    rw [show k + 1 + (d + 1) = (k + 1 + d) + 1 from by omega]
    generalize k + 1 + d = kk at *
    rw [quoinlaw17_CollLines.l0, hl, if_pos (by omega), if_pos (by omega), hrd, w64s (by omega), Int.toNat_natCast, hset]
    by_cases hn : t[i] < 0
    · rw [if_pos hn, ← e, hnext]
      unfold ab
      rw [if_pos hn]
    · rw [if_neg hn, ← e, hnext, hcons]
      have : ab t[i] = t[i] := by unfold ab; rw [if_neg hn]
      rw [this]

theorem L_l2 (l : List Int) (I : Int) (X one : List S25) (b : Nat) (x9 : Int) (hn : l.length ≤ 60) (hb : b ≤ l.length) (hl : ∀ x ∈ l, 0 ≤ x ∧ x < 1000) (a : Nat) (k : Nat) : ∀ (d i : Nat), a + i + d = b →
    quoinlaw17_CollLines.l2 (k + 1 + d) l I X one b x9 (sumF l a i) ((a + i : Nat) : Int) = quoinlaw17_CollLines.l2 (k + 1) l I X one b x9 (sumF l a (b - a)) b := by
  intro d
  induction d with
  | zero => intro i h; have hi : a + i = b := by omega
            rw [hi, show b - a = i from by omega]
  | succ d ih =>
    intro i h
    have e := ih (i + 1) (by omega)
    have s0 := sumF_bd hl a i
    have s1 := getD_in hl (a + i)
    rw [show k + 1 + (d + 1) = (k + 1 + d) + 1 from by omega]
    generalize k + 1 + d = kk at *
    rw [quoinlaw17_CollLines.l2, if_pos (by omega), if_pos (by omega), if_pos (by omega), w64s (by omega), rd_nat, w64 (x := sumF l a i + l.getD (a + i) 0) (by omega) (by omega)]
    exact e

theorem rdT (X : List S25) (i : Nat) : rd_T25 X (i : Int) = X.getD i z25 := by simp [rd_T25]

theorem L_l1 (l : List Int) (I : Int) (one : List S25) (hn : l.length ≤ 60) (hl : ∀ x ∈ l, 0 ≤ x ∧ x < 1000) (hone : one = if 0 < l.length then [toS (0, l.length)] else []) (X : List S25) (hXl : X.length ≤ 61) : ∀ (rest : List (Nat × Nat)) (at_ i : Nat), Chk l I at_ rest → X.drop i = rest.map toS → i ≤ X.length →
    ∃ K, ∀ k, K ≤ k → quoinlaw17_CollLines.l1 k l I X one at_ i = some true := by
  intro rest
  induction rest with
  | nil =>
    intro at_ i hc hd hi
    have hat : at_ = l.length := hc
    have hlen : i = X.length := by
      have := congrArg List.length hd
      simp at this; omega
    refine ⟨40, fun k hk => ?_⟩
    obtain ⟨q, rfl⟩ : ∃ q, k = q + 1 := ⟨k - 1, by omega⟩
    rw [quoinlaw17_CollLines.l1, if_neg (by omega), if_pos (by omega), awake_true q (by omega)]
    by_cases h0 : l.length = 0
    · have ho : one = [] := by rw [hone, if_neg (by omega)]
      rw [if_pos (by omega), ho]; rfl
    · have ho : one = [toS (0, l.length)] := by rw [hone, if_pos (by omega)]
      rw [if_neg (by omega), ho]
      simp [rd_T25, toS]
  | cons p rest ih =>
    intro at_ i hc hd hi
    obtain ⟨a, b⟩ := p
    obtain ⟨ha, hab, hbl, hroom, hnext, hrest⟩ := hc
    subst ha
    have hlt : i < X.length := by
      have := congrArg List.length hd
      simp at this; omega
    have hX : rd_T25 X i = toS (a, b) := by
      rw [rdT, List.getD, List.getElem?_eq_getElem hlt]
      have h1 := List.drop_eq_getElem_cons hlt
      rw [hd] at h1
      simp only [List.map_cons] at h1
      injection h1 with h1 _
      rw [← h1]; rfl
    have hd' : X.drop (i + 1) = rest.map toS := by
      have h1 := List.drop_eq_getElem_cons hlt
      rw [hd] at h1
      simp only [List.map_cons] at h1
      injection h1 with _ h1
      exact h1.symm
    obtain ⟨K, hK⟩ := ih b (i + 1) hrest hd' (by omega)
    refine ⟨K + (b - a) + 4, fun k hk => ?_⟩
    obtain ⟨q, rfl⟩ : ∃ q, k = (q + 1 + (b - a)) + 1 + 1 := ⟨k - 3 - (b - a), by omega⟩
    have hK' := hK q (by omega)
    have e := L_l2 l I X one b i hn hbl hl a q (b - a) 0 (by omega)
    have s0 := sumF_bd hl a (b - a)
    have s1 := getD_in hl b
    rw [quoinlaw17_CollLines.l1, if_pos (by omega), if_pos (by omega), hX, if_pos (show (toS (a, b)).f0 = (a : Int) from rfl), if_neg (show ¬ (toS (a, b)).f1 ≤ (a : Int) from by simp only [toS]; omega)]
    rw [show decide ((toS (a, b)).f1 > (l.length : Int)) = false from decide_eq_false (by simp only [toS]; omega)]
    rw [quoinlaw17_CollLines.j2, if_neg (by decide), if_pos (by omega), if_pos (by omega), hX]
    have e' : quoinlaw17_CollLines.l2 (q + 1 + (b - a)) l I X one (toS (a, b)).f1 i 0 (toS (a, b)).f0 = quoinlaw17_CollLines.l2 (q + 1) l I X one b i (sumF l a (b - a)) b := e
    rw [e', quoinlaw17_CollLines.l2, if_neg (by omega), hX]
    rw [show (toS (a, b)).f0 = (a : Int) from rfl, w64 (x := (b : Int) - (a : Int)) (by omega) (by omega), w64s (by omega), rd_nat, w64 (x := sumF l a (b - a) + l.getD b 0) (by omega) (by omega)]
    have tail : (if (b : Int) < (l.length : Int) then (if 0 ≤ (b : Int) then (if sumF l a (b - a) + l.getD b 0 ≤ I then (some false) else (quoinlaw17_CollLines.l1 q l I X one b ((i + 1 : Nat) : Int))) else (none)) else (quoinlaw17_CollLines.l1 q l I X one b ((i + 1 : Nat) : Int))) = some true := by
      by_cases hq : b < l.length
      · have := hnext hq
        rw [if_pos (by omega), if_pos (by omega), if_neg (by omega)]; exact hK'
      · rw [if_neg (by omega)]; exact hK'
    by_cases hr : I < sumF l a (b - a)
    · have := hroom hr
      rw [if_pos (by omega), if_pos (by omega), if_pos (by omega), if_neg (by omega)]
      exact tail
    · rw [if_neg (by omega)]
      exact tail

theorem goL_len (l : List Int) (I : Int) (w : Bool) : ∀ (m f i : Nat) (s : Int), (goL l I w m f i s).length ≤ m + 1 := by
  intro m
  induction m with
  | zero => intro f i s; rw [goL]; split <;> simp
  | succ m ih =>
    intro f i s
    rw [goL]
    split
    · have := ih i (i + 1) (l.getD i 0); simp only [List.length_cons]; omega
    · have := ih f (i + 1) (s + l.getD i 0); omega

theorem CollLines : quoinlaw17_CollLines.Pure := by
  intro l0 a1 _ _ _ w1
  have ht := tam_length l0 1000
  have hb := tam_bd l0 1000 (by decide)
  have hT := Tame_f l0 1000 (by decide)
  generalize tam l0 1000 = t at *
  have hl : (t.map ab).length = t.length := List.length_map _
  have hs : ∀ x ∈ t.map ab, 0 ≤ x ∧ x < 1000 := by
    intro x hx
    obtain ⟨y, hy, rfl⟩ := List.mem_map.1 hx
    exact ab_bd (hb y hy)
  have hI : 0 ≤ a1 % 4096 ∧ a1 % 4096 < 4096 := by omega
  have h0 := L_l0 t ht (a1 % 4096)
  obtain ⟨s, hse⟩ : ∃ s, s = t.map ab := ⟨_, rfl⟩
  rw [← hse] at hl hs h0
  have hsb : ∀ x ∈ s, -1099511627776 ≤ x ∧ x ≤ 1099511627776 := fun x hx => by have := hs x hx; omega
  obtain ⟨X, hX⟩ : ∃ X, X = (goL s (a1 % 4096) true s.length 0 0 0).map toS := ⟨_, rfl⟩
  have hchk : Chk s (a1 % 4096) 0 (goL s (a1 % 4096) true s.length 0 0 0) := goL_chk s (a1 % 4096) s.length 0 0 (by omega) (by omega) (by omega) (by simp)
  have hXl : X.length ≤ 61 := by
    have := goL_len s (a1 % 4096) true s.length 0 0 0
    rw [hX, List.length_map]; omega
  obtain ⟨K, hK⟩ := L_l1 s (a1 % 4096) (if 0 < s.length then [toS (0, s.length)] else []) (by omega) hs rfl X hXl _ 0 0 hchk (by rw [List.drop_zero]; exact hX) (by omega)
  obtain ⟨q, hq⟩ : ∃ q, q = K + 200 := ⟨_, rfl⟩
  refine ⟨q + 1 + t.length, ?_⟩
  unfold quoinlaw17_CollLines.f
  have e0 := h0 q t.length 0 (by omega)
  have e0' : quoinlaw17_CollLines.l0 (q + 1 + t.length) t (a1 % 4096) 0 = quoinlaw17_CollLines.l0 (q + 1) s (a1 % 4096) t.length := by simpa using e0
  rw [hT _ (by omega), Option.bind_some, and4095, e0', quoinlaw17_CollLines.l0, if_neg (by omega), lines_f s _ true (by omega) hsb q (by omega), lines_f s _ false (by omega) hsb q (by omega), Option.bind_some, Option.bind_some, ← hX, goL_one]
  have hone : (if 0 < s.length then [((0 : Nat), s.length)] else []).map toS = if 0 < s.length then [toS (0, s.length)] else [] := by split <;> rfl
  rw [hone]
  exact hK q (by omega)
end Go.Proofs.Ytlcghlcpngafgaa.Pure
