import Derived.Test.YtlnhhamfmnjapaaPParsex
import Derived.Test.YtlnhhamfmnjapaaUUnitRounds
namespace Go.Proofs.Ytlnhhamfmnjapaa.PParse
open Go.RowKit Go.Proofs.YtlnhhamfmnjapaaW.PrintWords Go.Proofs.YtlnhhamfmnjapaaW.PrintLast Go.Proofs.YtlnhhamfmnjapaaW.PrintMore
open PUnitRounds.U (w64)
set_option linter.unusedVariables false
theorem digits_l (s : ByteArray) (hs : s.size ≤ 2000) (a : Int) (ha : 0 ≤ a) : ∀ (k : Nat) (n : Int), 0 ≤ n → a + n ≤ s.size → (s.size : Int) - (a + n) < k → ∃ r, quoinref4_digits.l0 k s a n = some r ∧ 0 ≤ r ∧ a + r ≤ s.size := by
  intro k
  induction k with
  | zero => intro n h0 h1 h2; omega
  | succ k ih =>
    intro n h0 h1 h2
    simp only [quoinref4_digits.l0]
    rw [w64 (x := a + n) (by omega) (by omega), w64 (x := n + 1) (by omega) (by omega)]
    by_cases c1 : a + n < (s.size : Int)
    · rw [if_pos c1, if_pos (by omega)]
      split
      · split
        · exact ih (n + 1) (by omega) (by omega) (by omega)
        · exact ⟨_, rfl, h0, h1⟩
      · exact ⟨_, rfl, h0, h1⟩
    · rw [if_neg c1]
      exact ⟨_, rfl, h0, h1⟩
theorem num_l2 (s : ByteArray) (hs : s.size ≤ 2000) (x2 : Int) (h2 : x2 ≤ 3) (neg : Bool) (x10 : Int) (h10 : 0 ≤ x10) (h10' : x10 ≤ s.size) : ∀ (k : Nat) (v n : Int), 0 ≤ n → 1 ≤ k → x2 - n < k → ∃ r, quoinref4_number.l2 k s x2 neg x10 v n = some r := by
  intro k
  induction k with
  | zero => intro v n h0 h1; omega
  | succ k ih =>
    intro v n h0 h1 h
    simp only [quoinref4_number.l2]
    by_cases c1 : n < x2
    · rw [if_pos c1, w64 (x := n + 1) (by omega) (by omega)]
      exact ih _ (n + 1) (by omega) (by omega) (by omega)
    · rw [if_neg c1]
      split
      · first | exact ⟨_, rfl⟩ | (repeat' split) <;> exact ⟨_, rfl⟩
      · first | exact ⟨_, rfl⟩ | (repeat' split) <;> exact ⟨_, rfl⟩
theorem num_j7 (s : ByteArray) (hs : s.size ≤ 2000) (x2 : Int) (h2 : x2 ≤ 3) (neg : Bool) (x10 : Int) (h10 : 0 ≤ x10) (h10' : x10 ≤ s.size) (k : Nat) (v n : Int) (h0 : 0 ≤ n) (hk : 5 ≤ k) : ∃ r, quoinref4_number.j7 k s x2 neg x10 v n = some r := by
  obtain ⟨k, rfl⟩ : ∃ k', k = k' + 1 := ⟨k - 1, by omega⟩
  simp only [quoinref4_number.j7]
  exact num_l2 s hs x2 h2 neg x10 h10 h10' k v n h0 (by omega) (by omega)
theorem num_l1 (s : ByteArray) (hs : s.size ≤ 2000) (x2 : Int) (h2 : x2 ≤ 3) (neg : Bool) (x10 : Int) (h10 : 0 ≤ x10) (m : Int) (hm : 0 ≤ m) (h10' : x10 + 1 + m ≤ s.size) : ∀ (k : Nat) (v n : Int), 0 ≤ n → n ≤ m → m - n + 6 ≤ k → ∃ r, quoinref4_number.l1 k s x2 neg x10 v m n = some r := by
  intro k
  induction k with
  | zero => intro v n h0 h1 h; omega
  | succ k ih =>
    intro v n h0 h1 h
    simp only [quoinref4_number.l1]
    rw [w64 (x := x10 + 1) (by omega) (by omega), w64 (x := x10 + 1 + n) (by omega) (by omega), w64 (x := x10 + 1 + m) (by omega) (by omega), w64 (x := n + 1) (by omega) (by omega)]
    by_cases c1 : n < m
    · rw [if_pos c1, if_pos (by omega), if_pos (by omega)]
      exact ih _ (n + 1) (by omega) (by omega) (by omega)
    · rw [if_neg c1]
      exact num_j7 s hs x2 h2 neg _ (by omega) (by omega) k _ _ hm (by omega)
theorem num_j5 (s : ByteArray) (hs : s.size ≤ 2000) (x2 : Int) (h2 : x2 ≤ 3) (neg : Bool) (x10 : Int) (h10 : 0 ≤ x10) (m : Int) (hm : 0 ≤ m) (h10' : x10 + 1 + m ≤ s.size) (k : Nat) (v : Int) (b : Bool) (hk : s.size + 8 ≤ k) : ∃ r, quoinref4_number.j5 k s x2 neg x10 v m b = some r := by
  obtain ⟨k, rfl⟩ : ∃ k', k = k' + 1 := ⟨k - 1, by omega⟩
  simp only [quoinref4_number.j5]
  split
  · exact ⟨_, rfl⟩
  · exact num_l1 s hs x2 h2 neg x10 h10 m hm h10' k v 0 (by omega) (by omega) (by omega)
theorem num_j4 (s : ByteArray) (hs : s.size ≤ 2000) (x2 : Int) (h2 : x2 ≤ 3) (neg : Bool) (x10 : Int) (h10 : 0 ≤ x10) (h10' : x10 ≤ s.size) (k : Nat) (v : Int) (n : Int) (h0 : 0 ≤ n) (b : Bool) (hb : b = true → x10 + 1 ≤ s.size) (hk : s.size + 10 ≤ k) : ∃ r, quoinref4_number.j4 k s x2 neg x10 v n b = some r := by
  obtain ⟨k, rfl⟩ : ∃ k', k = k' + 1 := ⟨k - 1, by omega⟩
  simp only [quoinref4_number.j4]
  rw [w64 (x := x10 + 1) (by omega) (by omega)]
  by_cases hb' : b = true
  · rw [if_pos hb']
    have h1 := hb hb'
    obtain ⟨r, hr, r0, r1⟩ := digits_l s hs (x10 + 1) (by omega) k 0 (by omega) (by omega) (by omega)
    unfold quoinref4_digits.f
    rw [hr]
    simp only [Option.bind_some]
    split
    · exact num_j5 s hs x2 h2 neg x10 h10 r r0 (by omega) k v _ (by omega)
    · exact num_j5 s hs x2 h2 neg x10 h10 r r0 (by omega) k v _ (by omega)
  · rw [if_neg hb']
    exact num_j7 s hs x2 h2 neg x10 h10 h10' k v n h0 (by omega)
theorem num_l0 (s : ByteArray) (hs : s.size ≤ 2000) (x2 : Int) (h2 : x2 ≤ 3) (neg : Bool) (x10 : Int) (h10 : 0 ≤ x10) (m : Int) (hm : 0 ≤ m) (h10' : x10 + m ≤ s.size) : ∀ (k : Nat) (v n : Int), 0 ≤ n → n ≤ m → m - n + s.size + 11 ≤ k → ∃ r, quoinref4_number.l0 k s x2 neg x10 m v n = some r := by
  intro k
  induction k with
  | zero => intro v n h0 h1 h; omega
  | succ k ih =>
    intro v n h0 h1 h
    simp only [quoinref4_number.l0]
    rw [w64 (x := x10 + n) (by omega) (by omega), w64 (x := x10 + m) (by omega) (by omega), w64 (x := n + 1) (by omega) (by omega)]
    by_cases c1 : n < m
    · rw [if_pos c1, if_pos (by omega), if_pos (by omega)]
      exact ih _ (n + 1) (by omega) (by omega) (by omega)
    · rw [if_neg c1]
      by_cases c2 : x10 + m < (s.size : Int)
      · rw [if_pos c2, if_pos (by omega)]
        exact num_j4 s hs x2 h2 neg _ (by omega) (by omega) k _ 0 (by omega) _ (fun _ => by omega) (by omega)
      · rw [if_neg c2]
        exact num_j4 s hs x2 h2 neg _ (by omega) (by omega) k _ 0 (by omega) _ (fun h => absurd h (by decide)) (by omega)
theorem num_j1 (s : ByteArray) (hs : s.size ≤ 2000) (x1 x2 : Int) (h2 : x2 ≤ 3) (neg : Bool) (x10 : Int) (h10 : 0 ≤ x10) (h10' : x10 ≤ s.size) (k : Nat) (hk : 2 * s.size + 13 ≤ k) : ∃ r, quoinref4_number.j1 k s x1 x2 neg x10 = some r := by
  obtain ⟨k, rfl⟩ : ∃ k', k = k' + 2 := ⟨k - 2, by omega⟩
  simp only [quoinref4_number.j1]
  obtain ⟨r, hr, r0, r1⟩ := digits_l s hs x10 (by omega) (k + 1) 0 (by omega) (by omega) (by omega)
  unfold quoinref4_digits.f
  rw [hr]
  simp only [Option.bind_some, quoinref4_number.j2]
  have hl := num_l0 s hs x2 h2 neg x10 h10 r r0 r1 k 0 0 (by omega) (by omega) (by omega)
  split <;> split
  · exact ⟨_, rfl⟩
  · exact hl
  · exact ⟨_, rfl⟩
  · exact hl
theorem number_tot (s : ByteArray) (hs : s.size ≤ 2000) (x1 x2 : Int) (h2 : x2 ≤ 3) (k : Nat) (hk : 2 * s.size + 14 ≤ k) : ∃ r, quoinref4_number.f k s x1 x2 = some r := by
  obtain ⟨k, rfl⟩ : ∃ k', k = k' + 1 := ⟨k - 1, by omega⟩
  unfold quoinref4_number.f
  simp only [quoinref4_number.j0]
  by_cases c1 : (s.size : Int) > 0
  · rw [if_pos c1, if_pos c1]
    split
    · exact num_j1 s hs x1 x2 h2 _ 1 (by omega) (by omega) k (by omega)
    · exact num_j1 s hs x1 x2 h2 _ 0 (by omega) (by omega) k (by omega)
  · rw [if_neg c1]
    split
    · rename_i h; cases h
    · exact num_j1 s hs x1 x2 h2 _ 0 (by omega) (by omega) k (by omega)
theorem whole_tot (s : ByteArray) (hs : s.size ≤ 2000) (lo hi : Int) (k : Nat) (hk : 2 * s.size + 14 ≤ k) : ∃ r, quoinref4_whole.f k s lo hi = some r := by
  obtain ⟨r, hr⟩ := number_tot s hs 4 0 (by omega) k hk
  unfold quoinref4_whole.f
  rw [hr]
  simp only [Option.bind_some]
  repeat' split
  all_goals exact ⟨_, rfl⟩
theorem px_tot (v : Int) : ∃ r, quoinref1_Px.f v = some r := by
  unfold quoinref1_Px.f quoinref1_Hold.f quoinref1_Held.f quoinref1_down.f
  simp only [Option.bind_some]
  rw [if_neg (by decide)]
  split
  · exact ⟨_, rfl⟩
  · exact ⟨_, rfl⟩
theorem pixels_tot (s : ByteArray) (hs : s.size ≤ 2000) (k : Nat) (hk : 2 * s.size + 14 ≤ k) : ∃ r, quoinref4_pixels.f k s = some r := by
  obtain ⟨r, hr⟩ := number_tot s hs 5 3 (by omega) k hk
  unfold quoinref4_pixels.f
  split
  · exact ⟨_, rfl⟩
  · rw [hr]
    simp only [Option.bind_some]
    obtain ⟨p, hp⟩ := px_tot r.1
    rw [hp]
    simp only [Option.bind_some]
    split
    · exact ⟨_, rfl⟩
    · exact ⟨_, rfl⟩
theorem length_tot (s : ByteArray) (hs : s.size ≤ 2000) (k : Nat) (hk : 2 * s.size + 14 ≤ k) : ∃ r, quoinref4_length.f k s = some r := by
  obtain ⟨r, hr⟩ := number_tot s hs 4 2 (by omega) k hk
  obtain ⟨p, hp⟩ := pixels_tot s hs k hk
  unfold quoinref4_length.f
  rw [hp]
  simp only [Option.bind_some]
  rw [hr]
  simp only [Option.bind_some]
  repeat' split
  all_goals exact ⟨_, rfl⟩
theorem words_tot (p : Int) : ∃ r, quoinref4_words.f p = some r ∧ r.length ≤ 5 := by
  unfold quoinref4_words.f
  repeat' split
  all_goals exact ⟨_, rfl, by decide⟩
theorem val_j3 (k : Nat) (x0 : Int) (s : ByteArray) (hs : s.size ≤ 2000) (b : Bool) (a c d e : Int) (hk : 2 * s.size + 15 ≤ k) : ∃ r, quoinref4_Value.j3 k x0 s b a c d e = some r := by
  obtain ⟨k, rfl⟩ : ∃ k', k = k' + 1 := ⟨k - 1, by omega⟩
  simp only [quoinref4_Value.j3]
  obtain ⟨r, hr⟩ := length_tot s hs k (by omega)
  rw [hr]
  simp only [Option.bind_some]
  repeat' split
  all_goals exact ⟨_, rfl⟩
theorem val_j2 (k : Nat) (x0 : Int) (s : ByteArray) (hs : s.size ≤ 2000) (b : Bool) (a c d e : Int) (hk : 2 * s.size + 16 ≤ k) : ∃ r, quoinref4_Value.j2 k x0 s b a c d e = some r := by
  obtain ⟨k, rfl⟩ : ∃ k', k = k' + 1 := ⟨k - 1, by omega⟩
  simp only [quoinref4_Value.j2]
  obtain ⟨r, hr⟩ := pixels_tot s hs k (by omega)
  rw [hr]
  simp only [Option.bind_some]
  have h3 := fun bb => val_j3 k x0 s hs bb a c d e (by omega)
  repeat' split
  all_goals first | exact h3 _ | exact ⟨_, rfl⟩
theorem val_j1 (k : Nat) (x0 : Int) (s : ByteArray) (hs : s.size ≤ 2000) (b : Bool) (a c d e : Int) (hk : 2 * s.size + 17 ≤ k) : ∃ r, quoinref4_Value.j1 k x0 s b a c d e = some r := by
  obtain ⟨k, rfl⟩ : ∃ k', k = k' + 1 := ⟨k - 1, by omega⟩
  simp only [quoinref4_Value.j1]
  obtain ⟨r, hr⟩ := whole_tot s hs 0 100 k (by omega)
  obtain ⟨p, hp⟩ := whole_tot s hs (-1000) 1000 k (by omega)
  rw [hr, hp]
  simp only [Option.bind_some]
  have h3 := fun bb => val_j2 k x0 s hs bb a c d e (by omega)
  repeat' split
  all_goals first | exact h3 _ | exact ⟨_, rfl⟩
theorem val_l0 (x0 : Int) (s : ByteArray) (hs : s.size ≤ 2000) (l : List ByteArray) (hl : l.length ≤ 5) (a c d e : Int) : ∀ (k : Nat) (n : Int), 0 ≤ n → n ≤ l.length → (l.length : Int) - n + 2 * s.size + 18 ≤ k → ∃ r, quoinref4_Value.l0 k x0 s l n a c d e = some r := by
  intro k
  induction k with
  | zero => intro n h0 h1 h; omega
  | succ k ih =>
    intro n h0 h1 h
    simp only [quoinref4_Value.l0]
    rw [w64 (x := n + 1) (by omega) (by omega)]
    by_cases c1 : n < (l.length : Int)
    · rw [if_pos c1, if_pos h0]
      split
      · exact ⟨_, rfl⟩
      · exact ih (n + 1) (by omega) (by omega) (by omega)
    · rw [if_neg c1]
      have h3 := fun bb => val_j1 k x0 s hs bb a c d e (by omega)
      repeat' split
      all_goals first | exact h3 _ | exact ⟨_, rfl⟩
theorem value_tot (p : Int) (s : ByteArray) (hs : s.size ≤ 2000) (k : Nat) (hk : 2 * s.size + 23 ≤ k) : ∃ r, quoinref4_Value.f k p s = some r := by
  obtain ⟨w, hw, hl⟩ := words_tot p
  unfold quoinref4_Value.f
  rw [hw]
  simp only [Option.bind_some]
  exact val_l0 p s hs w hl _ _ _ _ k 0 (by omega) (by omega) (by omega)
theorem skip_l (s : ByteArray) (hs : s.size ≤ 2000) : ∀ (k : Nat) (a : Int), 0 ≤ a → (s.size : Int) - a < k → 1 ≤ k → a ≤ 3000 → ∃ r, quoinref4_skip.l0 k s a = some r ∧ a ≤ r ∧ (a ≤ s.size → r ≤ s.size) ∧ r ≤ 3000 := by
  intro k
  induction k with
  | zero => intro a h0 h1 h2; omega
  | succ k ih =>
    intro a h0 h1 h2 h3
    simp only [quoinref4_skip.l0]
    rw [w64 (x := a + 1) (by omega) (by omega)]
    by_cases c1 : a < (s.size : Int)
    · rw [if_pos c1, if_pos h0]
      unfold quoinref4_blank.f
      have hi := ih (a + 1) (by omega) (by omega) (by omega) (by omega)
      have hgo : ∀ bb : Bool, ∃ r, (if bb = true then quoinref4_skip.l0 k s (a + 1) else some a) = some r ∧ a ≤ r ∧ (a ≤ s.size → r ≤ s.size) ∧ r ≤ 3000 := by
        intro bb
        split
        · obtain ⟨r, hr, r0, r1, r2⟩ := hi
          exact ⟨r, hr, by omega, fun _ => r1 (by omega), r2⟩
        · exact ⟨_, rfl, by omega, fun _ => by omega, h3⟩
      split
      · rw [Option.bind_some]; exact hgo _
      · split
        · rw [Option.bind_some]; exact hgo _
        · rw [Option.bind_some]; exact hgo _
    · rw [if_neg c1]
      exact ⟨_, rfl, by omega, fun h => h, h3⟩
theorem skip_tot (s : ByteArray) (hs : s.size ≤ 2000) (k : Nat) (hk : 2001 ≤ k) (a : Int) (h0 : 0 ≤ a) (h1 : a ≤ s.size + 1) : ∃ r, quoinref4_skip.f k s a = some r ∧ a ≤ r ∧ (a ≤ s.size → r ≤ s.size) := by
  obtain ⟨r, hr, r0, r1, _⟩ := skip_l s hs k a h0 (by omega) (by omega) (by omega)
  exact ⟨r, hr, r0, r1⟩
theorem inName_tot (c : Int) : ∃ b, quoinref4_inName.f c = some b := by
  unfold quoinref4_inName.f
  repeat' split
  all_goals exact ⟨_, rfl⟩
theorem inValue_tot (c : Int) : ∃ b, quoinref4_inValue.f c = some b := by
  obtain ⟨b, hb⟩ := inName_tot c
  unfold quoinref4_inValue.f
  rw [hb]
  simp only [Option.bind_some]
  repeat' split
  all_goals exact ⟨_, rfl⟩
theorem names_tot : ∃ r, quoinref4_Names.f = some r ∧ r.length = 33 := ⟨_, rfl, rfl⟩
def PL0 (s : ByteArray) (k : Nat) : Prop := ∀ (x5 : List S78) (x6 : Int), 0 ≤ x6 → x6 ≤ s.size → (x5.length : Int) ≤ x6 → 60 * ((s.size : Int) - x6) + 4200 ≤ k → ∃ r, quoinref4_Parse.l0 k s x5 x6 = some r
theorem p_j7 (s : ByteArray) (hs : s.size ≤ 2000) (k : Nat) (H : ∀ k', k' < k → PL0 s k') (x5 : List S78) (x6 : Int) (b : Bool) (h0 : 0 ≤ x6) (h1 : x6 ≤ s.size) (hl : (x5.length : Int) ≤ x6) (hk : 60 * ((s.size : Int) - x6) + 4201 ≤ k) : ∃ r, quoinref4_Parse.j7 k s x5 x6 b = some r := by
  obtain ⟨k, rfl⟩ : ∃ k', k = k' + 1 := ⟨k - 1, by omega⟩
  simp only [quoinref4_Parse.j7]
  rw [w64 (x := x6 + 1) (by omega) (by omega)]
  split
  · exact ⟨_, rfl⟩
  · by_cases c1 : x6 < (s.size : Int)
    · rw [if_pos c1]
      obtain ⟨t, ht, t0, t1⟩ := skip_tot s hs k (by omega) (x6 + 1) (by omega) (by omega)
      rw [ht]
      simp only [Option.bind_some]
      exact H k (by omega) x5 t (by omega) (t1 (by omega)) (by omega) (by omega)
    · rw [if_neg c1]
      exact H k (by omega) x5 x6 h0 h1 hl (by omega)
theorem p_l3 (s : ByteArray) (hs : s.size ≤ 2000) (x5 : List S78) (x6 : Int) (x8 : ByteArray) (x10 x11 : Int) (hx6 : (x5.length : Int) ≤ x6) (h6 : x6 < x10) (h10 : x10 < x11) (h60 : 0 ≤ x6) (h11 : x11 ≤ s.size) (l : List ByteArray) (hl : l.length = 33) : ∀ (k : Nat), (∀ k', k' < k → PL0 s k') → ∀ (x12 x14 : Int), 1 ≤ x14 → x14 ≤ 33 → 60 * ((s.size : Int) - x11) + 4210 + (33 - x14) ≤ k → ∃ r, quoinref4_Parse.l3 k s x5 x6 x8 x10 x11 x12 l x14 = some r := by
  intro k
  induction k with
  | zero => intro _ x12 x14 h0 h1 h; omega
  | succ k ih =>
    intro H x12 x14 h0 h1 h
    simp only [quoinref4_Parse.l3]
    rw [w64 (x := x14 + 1) (by omega) (by omega), hl]
    by_cases c1 : x14 < ((33 : Nat) : Int)
    · rw [if_pos c1, if_pos (by omega)]
      have hi := fun z => ih (fun k' hk' => H k' (by omega)) z (x14 + 1) (by omega) (by omega) (by omega)
      split
      · exact hi _
      · exact hi _
    · rw [if_neg c1]
      split
      · exact ⟨_, rfl⟩
      · rw [if_pos (by omega), if_pos (by omega)]
        have hsz : (s.extract x10.toNat x11.toNat).size ≤ 2000 := by rw [ByteArray.size_extract]; omega
        obtain ⟨v, hv⟩ := value_tot x12 (s.extract x10.toNat x11.toNat) hsz k (by omega)
        rw [hv]
        simp only [Option.bind_some]
        split
        · rw [if_pos (by omega)]
          obtain ⟨t, ht, t0, t1⟩ := skip_tot s hs k (by omega) x11 (by omega) (by omega)
          rw [ht]
          simp only [Option.bind_some]
          have t2 := t1 h11
          have hj := fun bb => p_j7 s hs k (fun k' hk' => H k' (by omega)) (x5 ++ [⟨v.1, v.2.1, ⟨v.2.2.1, v.2.2.2.1⟩⟩]) t bb (by omega) t2 (by rw [List.length_append, List.length_singleton]; omega) (by omega)
          by_cases c2 : t < (s.size : Int)
          · rw [if_pos c2, if_pos (by omega)]
            exact hj _
          · rw [if_neg c2]
            exact hj _
        · exact ⟨_, rfl⟩
theorem p_j5 (s : ByteArray) (hs : s.size ≤ 2000) (x5 : List S78) (x6 : Int) (x8 : ByteArray) (x10 x11 : Int) (hx6 : (x5.length : Int) ≤ x6) (h6 : x6 < x10) (h10 : x10 ≤ x11) (h60 : 0 ≤ x6) (h11 : x11 ≤ s.size) (k : Nat) (H : ∀ k', k' < k → PL0 s k') (hk : 60 * ((s.size : Int) - x11) + 4245 ≤ k) : ∃ r, quoinref4_Parse.j5 k s x5 x6 x8 x10 x11 = some r := by
  obtain ⟨k, rfl⟩ : ∃ k', k = k' + 1 := ⟨k - 1, by omega⟩
  simp only [quoinref4_Parse.j5]
  by_cases c1 : x11 = x10
  · rw [if_pos c1]; exact ⟨_, rfl⟩
  · rw [if_neg c1]
    obtain ⟨l, hl, hl2⟩ := names_tot
    rw [hl]
    simp only [Option.bind_some]
    exact p_l3 s hs x5 x6 x8 x10 x11 hx6 h6 (by omega) h60 h11 l hl2 k (fun k' hk' => H k' (by omega)) 0 1 (by omega) (by omega) (by omega)
theorem p_l2 (s : ByteArray) (hs : s.size ≤ 2000) (x5 : List S78) (x6 : Int) (x8 : ByteArray) (x10 : Int) (hx6 : (x5.length : Int) ≤ x6) (h6 : x6 < x10) (h60 : 0 ≤ x6) : ∀ (k : Nat), (∀ k', k' < k → PL0 s k') → ∀ x11 : Int, x10 ≤ x11 → x11 ≤ s.size → 60 * ((s.size : Int) - x11) + 4250 ≤ k → ∃ r, quoinref4_Parse.l2 k s x5 x6 x8 x10 x11 = some r := by
  intro k
  induction k with
  | zero => intro _ x11 h0 h1 h; omega
  | succ k ih =>
    intro H x11 h0 h1 h
    simp only [quoinref4_Parse.l2]
    rw [w64 (x := x11 + 1) (by omega) (by omega)]
    have hj := p_j5 s hs x5 x6 x8 x10 x11 hx6 h6 h0 h60 h1 k (fun k' hk' => H k' (by omega)) (by omega)
    by_cases c1 : x11 < (s.size : Int)
    · rw [if_pos c1, if_pos (by omega)]
      obtain ⟨b, hb⟩ := inValue_tot (bt s x11)
      rw [hb]
      simp only [Option.bind_some]
      split
      · exact ih (fun k' hk' => H k' (by omega)) (x11 + 1) (by omega) (by omega) (by omega)
      · exact hj
    · rw [if_neg c1]
      exact hj
theorem p_j3 (s : ByteArray) (hs : s.size ≤ 2000) (x5 : List S78) (x6 : Int) (x8 : ByteArray) (x9 : Int) (b : Bool) (hx6 : (x5.length : Int) ≤ x6) (h6 : x6 < x9) (h60 : 0 ≤ x6) (h9 : x9 ≤ s.size) (hb : b = false → x9 < s.size) (k : Nat) (H : ∀ k', k' < k → PL0 s k') (hk : 60 * ((s.size : Int) - x9) + 4197 ≤ k) : ∃ r, quoinref4_Parse.j3 k s x5 x6 x8 x9 b = some r := by
  obtain ⟨k, rfl⟩ : ∃ k', k = k' + 1 := ⟨k - 1, by omega⟩
  simp only [quoinref4_Parse.j3]
  cases b
  · have h9' := hb rfl
    rw [if_neg (by decide), w64 (x := x9 + 1) (by omega) (by omega)]
    obtain ⟨t, ht, t0, t1⟩ := skip_tot s hs k (by omega) (x9 + 1) (by omega) (by omega)
    rw [ht]
    simp only [Option.bind_some]
    exact p_l2 s hs x5 x6 x8 t hx6 (by omega) h60 k (fun k' hk' => H k' (by omega)) t (by omega) (t1 (by omega)) (by omega)
  · rw [if_pos rfl]; exact ⟨_, rfl⟩
theorem p_j2 (s : ByteArray) (hs : s.size ≤ 2000) (x5 : List S78) (x6 x7 : Int) (hx6 : (x5.length : Int) ≤ x6) (h6 : x6 ≤ x7) (h60 : 0 ≤ x6) (h7 : x7 ≤ s.size) (k : Nat) (H : ∀ k', k' < k → PL0 s k') (hk : 60 * ((s.size : Int) - x7) + 4198 ≤ k) : ∃ r, quoinref4_Parse.j2 k s x5 x6 x7 = some r := by
  obtain ⟨k, rfl⟩ : ∃ k', k = k' + 1 := ⟨k - 1, by omega⟩
  simp only [quoinref4_Parse.j2]
  by_cases c1 : x7 = x6
  · rw [if_pos c1]; exact ⟨_, rfl⟩
  · rw [if_neg c1, if_pos h60, if_pos h6, if_pos h7]
    obtain ⟨t, ht, t0, t1⟩ := skip_tot s hs k (by omega) x7 (by omega) (by omega)
    rw [ht]
    simp only [Option.bind_some]
    have t2 := t1 h7
    by_cases c2 : t = (s.size : Int)
    · rw [if_pos c2]
      exact p_j3 s hs x5 x6 _ t true hx6 (by omega) h60 t2 (fun h => absurd h (by decide)) k (fun k' hk' => H k' (by omega)) (by omega)
    · rw [if_neg c2, if_pos (by omega), if_pos (by omega)]
      exact p_j3 s hs x5 x6 _ t _ hx6 (by omega) h60 t2 (fun _ => by omega) k (fun k' hk' => H k' (by omega)) (by omega)
theorem p_l1 (s : ByteArray) (hs : s.size ≤ 2000) (x5 : List S78) (x6 : Int) (hx6 : (x5.length : Int) ≤ x6) (h60 : 0 ≤ x6) : ∀ (k : Nat), (∀ k', k' < k → PL0 s k') → ∀ x7 : Int, x6 ≤ x7 → x7 ≤ s.size → 60 * ((s.size : Int) - x7) + 4199 ≤ k → ∃ r, quoinref4_Parse.l1 k s x5 x6 x7 = some r := by
  intro k
  induction k with
  | zero => intro _ x7 h0 h1 h; omega
  | succ k ih =>
    intro H x7 h0 h1 h
    simp only [quoinref4_Parse.l1]
    rw [w64 (x := x7 + 1) (by omega) (by omega)]
    have hj := p_j2 s hs x5 x6 x7 hx6 h0 h60 h1 k (fun k' hk' => H k' (by omega)) (by omega)
    by_cases c1 : x7 < (s.size : Int)
    · rw [if_pos c1, if_pos (by omega)]
      obtain ⟨b, hb⟩ := inName_tot (bt s x7)
      rw [hb]
      simp only [Option.bind_some]
      split
      · exact ih (fun k' hk' => H k' (by omega)) (x7 + 1) (by omega) (by omega) (by omega)
      · exact hj
    · rw [if_neg c1]
      exact hj
theorem p_l0 (s : ByteArray) (hs : s.size ≤ 2000) : ∀ k, ∀ k', k' < k → PL0 s k' := by
  intro k
  induction k with
  | zero => intro k' h; omega
  | succ k ih =>
    intro k' hk' x5 x6 h0 h1 hl h
    obtain ⟨j, rfl⟩ : ∃ j, k' = j + 1 := ⟨k' - 1, by omega⟩
    simp only [quoinref4_Parse.l0]
    by_cases c1 : x6 < (s.size : Int)
    · rw [if_pos c1]
      exact p_l1 s hs x5 x6 hl h0 j (fun k2 hk2 => ih k2 (by omega)) x6 (by omega) h1 (by omega)
    · rw [if_neg c1]
      exact ⟨_, rfl⟩
theorem parse_tot (s : ByteArray) : ∃ r, quoinref4_Parse.f 130000 s = some r := by
  unfold quoinref4_Parse.f
  by_cases c1 : (s.size : Int) > 2000
  · rw [if_pos c1]; exact ⟨_, rfl⟩
  · rw [if_neg c1]
    have hs : s.size ≤ 2000 := by omega
    obtain ⟨t, ht, t0, t1⟩ := skip_tot s hs 130000 (by omega) 0 (by omega) (by omega)
    rw [ht]
    simp only [Option.bind_some]
    exact p_l0 s hs 130001 130000 (by omega) [] t t0 (t1 (by omega)) (by simpa using t0) (by omega)
end Go.Proofs.Ytlnhhamfmnjapaa.PParse
