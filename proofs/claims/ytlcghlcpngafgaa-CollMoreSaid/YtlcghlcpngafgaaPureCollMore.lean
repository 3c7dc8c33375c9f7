/- CollMore holds: in more room items of no size below 0 stand in no more lines. For any sizes, any room, and more; no condition. -/
import Derived.Test.YtlcghlcpngafgaaUCollMore
namespace Go.Proofs.Ytlcghlcpngafgaa.Pure
open Go.RowKit Go.Proofs.Ytlcghlcpngafgaa.PCollMore Go.Proofs.YtlcghlcpngafgaaW.PrintWords Go.Proofs.YtlcghlcpngafgaaW.PrintLast Go.Proofs.YtlcghlcpngafgaaW.PrintMore
open Go.Proofs.Ytlcghlcpngafgaa.PCollMore.U
set_option linter.unusedVariables false

theorem goL_pos (l : List Int) (inner : Int) (wrap : Bool) (h : 0 < l.length) : ∀ (m f i : Nat) (s : Int), 0 < (goL l inner wrap m f i s).length := by
  intro m
  induction m with
  | zero => intro f i s; simp [goL, h]
  | succ m ih =>
    intro f i s
    rw [goL]
    split
    · simp
    · exact ih _ _ _

theorem getD_nn {l : List Int} (hb : ∀ x ∈ l, 0 ≤ x) (i : Nat) : 0 ≤ l.getD i 0 := by
  by_cases h : i < l.length
  · exact hb (l.getD i 0) (by simp [List.getD, List.getElem?_eq_getElem h])
  · have : l.getD i 0 = 0 := by simp [List.getD, List.getElem?_eq_none (Nat.le_of_not_lt h)]
    omega

theorem goL_more (l : List Int) (hb : ∀ x ∈ l, 0 ≤ x) (I J : Int) (hIJ : I ≤ J) : ∀ (m i f1 f2 : Nat) (s1 s2 : Int), f1 ≤ i → f2 ≤ i → (i = 0 ∨ (f1 < i ∧ f2 < i)) → 0 ≤ s1 →
    (s2 ≤ s1 → (goL l J true m f2 i s2).length ≤ (goL l I true m f1 i s1).length) ∧ (goL l J true m f2 i s2).length ≤ (goL l I true m f1 i s1).length + 1 := by
  intro m
  induction m with
  | zero => intro i f1 f2 s1 s2 h1 h2 h3 h4; simp only [goL]; split <;> simp
  | succ m ih =>
    intro i f1 f2 s1 s2 h1 h2 h3 h4
    have hw := getD_nn hb i
    rw [goL, goL]
    generalize l.getD i 0 = w at *
    have i11 := ih (i + 1) i i w w (by omega) (by omega) (by omega) (by omega)
    have i12 := ih (i + 1) i f2 w (s2 + w) (by omega) (by omega) (by omega) (by omega)
    have i21 := ih (i + 1) f1 i (s1 + w) w (by omega) (by omega) (by omega) (by omega)
    have i22 := ih (i + 1) f1 f2 (s1 + w) (s2 + w) (by omega) (by omega) (by omega) (by omega)
    by_cases b2 : true = true ∧ f2 < i ∧ J < s2 + w
    · rw [if_pos b2]
      by_cases b1 : true = true ∧ f1 < i ∧ I < s1 + w
      · rw [if_pos b1]
        simp only [List.length_cons]
        have := i11.1 (Int.le_refl _)
        exact ⟨fun _ => by omega, by omega⟩
      · rw [if_neg b1]
        simp only [List.length_cons]
        have := i21.1 (by omega)
        refine ⟨fun hs => absurd ⟨rfl, by omega, by omega⟩ b1, by omega⟩
    · rw [if_neg b2]
      by_cases b1 : true = true ∧ f1 < i ∧ I < s1 + w
      · rw [if_pos b1]
        simp only [List.length_cons]
        have := i12.2
        exact ⟨fun _ => by omega, by omega⟩
      · rw [if_neg b1]
        exact ⟨fun hs => i22.1 (by omega), i22.2⟩

/-- A size made none below 0. -/
def ab (x : Int) : Int := mx x (wrap64 (-x))
theorem ab_bd {x : Int} (h : -1000 < x ∧ x < 1000) : 0 ≤ ab x ∧ ab x < 1000 := by
  unfold ab mx
  rw [w64 (by omega) (by omega)]
  split <;> omega

theorem M_l0 (t : List Int) (ht : t.length ≤ 60) (a b : Int) (k : Nat) : ∀ (d i : Nat), i + d = t.length → quoinlaw17_CollMore.l0 (k + 1 + d) ((t.take i).map ab ++ t.drop i) a b i = quoinlaw17_CollMore.l0 (k + 1) (t.map ab) a b t.length := by
  intro d
  induction d with
  | zero => intro i h; have hi : i = t.length := by omega
            subst hi; simp
  | succ d ih =>
    intro i h
    have e := ih (i + 1) (by omega)
    have hi : i < t.length := by omega
    have hl : ((t.take i).map ab ++ t.drop i).length = t.length := by simp; omega
    have hrd : rd ((t.take i).map ab ++ t.drop i) i = t[i] := by
      rw [rd_nat, List.getD, List.getElem?_append_right (by simp; omega)]
      simp [show min i t.length = i by omega, hi]
    have hset : ((t.take i).map ab ++ t.drop i).set i (ab t[i]) = (t.take (i + 1)).map ab ++ t.drop (i + 1) := by
      have hz : i - ((t.take i).map ab).length = 0 := by simp; omega
      rw [List.set_append_right _ _ (by simp; omega), hz, List.drop_eq_getElem_cons hi, List.set_cons_zero, List.take_succ_eq_append_getElem hi, List.map_append, List.append_assoc]
      rfl
    rw [show k + 1 + (d + 1) = (k + 1 + d) + 1 from by omega]
    generalize k + 1 + d = kk at *
    rw [quoinlaw17_CollMore.l0, hl, if_pos (by omega), if_pos (by omega), hrd, w64s (by omega), Int.toNat_natCast, show mx t[i] (wrap64 (-t[i])) = ab t[i] from rfl, hset, e]

theorem CollMore : quoinlaw17_CollMore.Pure := by
  intro l0 a1 a2 _ _ _ w1 w2
  obtain ⟨K, hK⟩ : ∃ K, K = 300 := ⟨_, rfl⟩
  refine ⟨K, ?_⟩
  unfold quoinlaw17_CollMore.f
  rw [Tame_f l0 1000 (by decide) K (by omega), Option.bind_some, and4095, and4095]
  have ht := tam_length l0 1000
  have hb := tam_bd l0 1000 (by decide)
  generalize tam l0 1000 = t at *
  have hI : 0 ≤ a1 % 4096 ∧ a1 % 4096 < 4096 := by omega
  have hJ : 0 ≤ a2 % 4096 ∧ a2 % 4096 < 4096 := by omega
  generalize a1 % 4096 = I at *
  generalize a2 % 4096 = J at *
  have h0 := M_l0 t ht I J (K - 1 - t.length) t.length 0 (by omega)
  rw [show K - 1 - t.length + 1 + t.length = K from by omega] at h0
  have h0' : quoinlaw17_CollMore.l0 K t I J 0 = quoinlaw17_CollMore.l0 (K - 1 - t.length + 1) (t.map ab) I J t.length := by simpa using h0
  rw [h0']
  clear h0 h0'
  have hk : 200 ≤ K - 1 - t.length := by omega
  generalize K - 1 - t.length = k at *
  have hl : (t.map ab).length = t.length := List.length_map _
  have hs : ∀ x ∈ t.map ab, 0 ≤ x ∧ x < 1000 := by
    intro x hx
    obtain ⟨y, hy, rfl⟩ := List.mem_map.1 hx
    exact ab_bd (hb y hy)
  generalize t.map ab = s at *
  have hsb : ∀ x ∈ s, -1099511627776 ≤ x ∧ x ≤ 1099511627776 := fun x hx => by have := hs x hx; omega
  rw [quoinlaw17_CollMore.l0, if_neg (by omega), w64 (x := I + J) (by omega) (by omega), lines_f s I true (by omega) hsb k (by omega), lines_f s (I + J) true (by omega) hsb k (by omega), Option.bind_some, Option.bind_some]
  have hm := (goL_more s (fun x hx => (hs x hx).1) I (I + J) (by omega) s.length 0 0 0 0 0 (by omega) (by omega) (by omega) (by omega)).1 (by omega)
  rw [if_pos (by simp only [List.length_map]; omega)]
  by_cases hz : s.length = 0
  · rw [if_pos (by omega), awake_true k (by omega)]; rfl
  · have hp := goL_pos s (I + J) true (by omega) s.length 0 0 0
    rw [if_neg (by omega), if_pos (by simp only [List.length_map]; omega), awake_true k (by omega)]; rfl
end Go.Proofs.Ytlcghlcpngafgaa.Pure
