/- The stable sort by blocks and symmetric merging, in plain words: rows as functions of places; no Go in sight. -/
import Derived.Test.YtlcghlcpngafgaaProg
namespace Go.Proofs.Ytlcghlcpngafgaa.Mrg
set_option linter.unusedVariables false
section
variable {α : Type} (key : α → Int) (plc : α → Nat)
/-- Strictly less: by the key, then by the place. -/
def ltS (x y : α) : Prop := key x < key y ∨ (key x = key y ∧ plc x < plc y)
variable {key plc}
theorem lt_irr {x : α} : ¬ ltS key plc x x := by rintro (h | h) <;> omega
theorem lt_trans {x y z : α} (h : ltS key plc x y) (g : ltS key plc y z) : ltS key plc x z := by
  unfold ltS at *; omega
theorem lt_key {x y : α} (h : ltS key plc x y) : key x ≤ key y := by unfold ltS at h; omega
variable (key plc)
/-- Sorted from a to b. -/
def Srt (d : Nat → α) (a b : Nat) : Prop := ∀ i j, a ≤ i → i < j → j < b → ltS key plc (d i) (d j)
/-- The elements of [a, m) stood ahead of those of [m, b). -/
def Tie (d : Nat → α) (a m b : Nat) : Prop := ∀ i j, a ≤ i → i < m → m ≤ j → j < b → plc (d i) < plc (d j)
/-- All in [a, m) are less than all in [m, b). -/
def Bef (d : Nat → α) (a m b : Nat) : Prop := ∀ i j, a ≤ i → i < m → m ≤ j → j < b → ltS key plc (d i) (d j)
/-- The same elements in [a, b), and all else as it was. -/
def Same (d d' : Nat → α) (a b : Nat) : Prop :=
  (∀ i, i < a ∨ b ≤ i → d' i = d i) ∧ (∀ i, a ≤ i → i < b → ∃ j, a ≤ j ∧ j < b ∧ d' i = d j) ∧ (∀ j, a ≤ j → j < b → ∃ i, a ≤ i ∧ i < b ∧ d j = d' i)
/-- [s, m) and [m, e) exchanged. -/
def Rot (d d' : Nat → α) (s m e : Nat) : Prop :=
  (∀ i, s ≤ i → i < s + (e - m) → d' i = d (m + (i - s))) ∧ (∀ i, s + (e - m) ≤ i → i < e → d' i = d (s + (i - (s + (e - m))))) ∧ (∀ i, i < s ∨ e ≤ i → d' i = d i)
variable {key plc}
theorem Srt.sub {d : Nat → α} {a b a' b' : Nat} (h : Srt key plc d a b) (ha : a ≤ a') (hb : b' ≤ b) : Srt key plc d a' b' := fun i j h1 h2 h3 => h i j (by omega) h2 (by omega)
theorem Srt.key_le {d : Nat → α} {a b i j : Nat} (h : Srt key plc d a b) (h1 : a ≤ i) (h2 : i ≤ j) (h3 : j < b) : key (d i) ≤ key (d j) := by
  rcases Nat.lt_or_ge i j with q | q
  · exact lt_key (h i j h1 q h3)
  · have : i = j := by omega
    rw [this]; exact Int.le_refl _
theorem Same.refl (d : Nat → α) (a b : Nat) : Same d d a b := ⟨fun _ _ => rfl, fun i h1 h2 => ⟨i, h1, h2, rfl⟩, fun i h1 h2 => ⟨i, h1, h2, rfl⟩⟩
theorem Same.trans {d d1 d2 : Nat → α} {a b : Nat} (h : Same d d1 a b) (g : Same d1 d2 a b) : Same d d2 a b :=
  ⟨fun i hi => (g.1 i hi).trans (h.1 i hi),
   fun i h1 h2 => by obtain ⟨j, j1, j2, e⟩ := g.2.1 i h1 h2; obtain ⟨k, k1, k2, e'⟩ := h.2.1 j j1 j2; exact ⟨k, k1, k2, e.trans e'⟩,
   fun i h1 h2 => by obtain ⟨j, j1, j2, e⟩ := h.2.2 i h1 h2; obtain ⟨k, k1, k2, e'⟩ := g.2.2 j j1 j2; exact ⟨k, k1, k2, e.trans e'⟩⟩
theorem Same.more {d d' : Nat → α} {a b a' b' : Nat} (h : Same d d' a b) (ha : a' ≤ a) (hb : b ≤ b') : Same d d' a' b' := by
  refine ⟨fun i hi => h.1 i (by omega), fun i h1 h2 => ?_, fun i h1 h2 => ?_⟩
  · by_cases q : a ≤ i ∧ i < b
    · obtain ⟨j, j1, j2, e⟩ := h.2.1 i q.1 q.2; exact ⟨j, by omega, by omega, e⟩
    · exact ⟨i, h1, h2, h.1 i (by omega)⟩
  · by_cases q : a ≤ i ∧ i < b
    · obtain ⟨j, j1, j2, e⟩ := h.2.2 i q.1 q.2; exact ⟨j, by omega, by omega, e⟩
    · exact ⟨i, h1, h2, (h.1 i (by omega)).symm⟩
theorem Same.srt_far {d d' : Nat → α} {a b x y : Nat} (h : Same d d' a b) (hx : y ≤ a ∨ b ≤ x) (hs : Srt key plc d x y) : Srt key plc d' x y := fun i j h1 h2 h3 => by
  rw [h.1 i (by omega), h.1 j (by omega)]; exact hs i j h1 h2 h3
theorem Rot.same {d d' : Nat → α} {s m e a b : Nat} (h : Rot d d' s m e) (h1 : s ≤ m) (h2 : m ≤ e) (ha : a ≤ s) (hb : e ≤ b) : Same d d' a b := by
  refine Same.more (a := s) (b := e) ⟨fun i hi => h.2.2 i (by omega), fun i q1 q2 => ?_, fun i q1 q2 => ?_⟩ ha hb
  · by_cases q : i < s + (e - m)
    · exact ⟨m + (i - s), by omega, by omega, h.1 i q1 q⟩
    · exact ⟨s + (i - (s + (e - m))), by omega, by omega, h.2.1 i (by omega) q2⟩
  · by_cases q : i < m
    · refine ⟨i + (e - m), by omega, by omega, ?_⟩
      rw [h.2.1 _ (by omega) (by omega)]; congr 1; omega
    · refine ⟨i - m + s, by omega, by omega, ?_⟩
      rw [h.1 _ (by omega) (by omega)]; congr 1; omega
theorem Rot.none_l (d : Nat → α) {m e : Nat} (h : m ≤ e) : Rot d d m m e :=
  ⟨fun i h1 h2 => by congr 1; omega, fun i h1 h2 => by omega, fun _ _ => rfl⟩
theorem Rot.none_r (d : Nat → α) {s m : Nat} (h : s ≤ m) : Rot d d s m m :=
  ⟨fun i h1 h2 => by omega, fun i h1 h2 => by congr 1; omega, fun _ _ => rfl⟩
/-- n neighbours exchanged: what stands where. -/
def Swp (d d' : Nat → α) (a b n : Nat) : Prop :=
  (∀ i, a ≤ i → i < a + n → d' i = d (i - a + b)) ∧ (∀ i, b ≤ i → i < b + n → d' i = d (i - b + a)) ∧ (∀ i, (i < a ∨ a + n ≤ i) → (i < b ∨ b + n ≤ i) → d' i = d i)
/-- The rounds of the rotation. -/
theorem rot_end {d d' : Nat → α} {m i : Nat} (hi : i ≤ m) (h : Swp d d' (m - i) m i) : Rot d d' (m - i) m (m + i) := by
  refine ⟨fun k h1 h2 => ?_, fun k h1 h2 => ?_, fun k hk => h.2.2 k (by omega) (by omega)⟩
  · rw [h.1 k h1 (by omega)]; congr 1; omega
  · rw [h.2.1 k (by omega) h2]; congr 1; omega
theorem rot_left {d d1 d' : Nat → α} {m i j : Nat} (hi : i ≤ m) (hij : j < i) (h : Swp d d1 (m - i) m j) (g : Rot d1 d' (m - (i - j)) m (m + j)) : Rot d d' (m - i) m (m + j) := by
  refine ⟨fun k h1 h2 => ?_, fun k h1 h2 => ?_, fun k hk => ?_⟩
  · rw [g.2.2 k (by omega), h.1 k h1 (by omega)]; congr 1; omega
  · by_cases q : k < m - (i - j) + j
    · rw [g.1 k (by omega) (by omega), h.2.1 _ (by omega) (by omega)]; congr 1; omega
    · rw [g.2.1 k (by omega) (by omega), h.2.2 _ (by omega) (by omega)]; congr 1; omega
  · rw [g.2.2 k (by omega), h.2.2 k (by omega) (by omega)]
theorem rot_right {d d1 d' : Nat → α} {m i j : Nat} (hi : i ≤ m) (hij : i < j) (h : Swp d d1 (m - i) (m + j - i) i) (g : Rot d1 d' (m - i) m (m + (j - i))) : Rot d d' (m - i) m (m + j) := by
  refine ⟨fun k h1 h2 => ?_, fun k h1 h2 => ?_, fun k hk => ?_⟩
  · by_cases q : k < m - i + (j - i)
    · rw [g.1 k (by omega) (by omega), h.2.2 _ (by omega) (by omega)]
    · by_cases q2 : k < m + (j - i)
      · rw [g.2.1 k (by omega) (by omega), h.1 _ (by omega) (by omega)]; congr 1; omega
      · exfalso; omega
  · rw [g.2.2 k (by omega), h.2.1 k (by omega) (by omega)]; congr 1; omega
  · rw [g.2.2 k (by omega), h.2.2 k (by omega) (by omega)]
/-- One put among the others, from the left. -/
theorem one_left {d d' : Nat → α} {a b i : Nat} (hai : a < i) (hib : i ≤ b) (hs : Srt key plc d (a + 1) b) (ht : Tie plc d a (a + 1) b)
    (hlo : ∀ x, a + 1 ≤ x → x < i → key (d x) < key (d a)) (hhi : ∀ x, i ≤ x → x < b → ¬ key (d x) < key (d a))
    (h1 : ∀ x, a ≤ x → x + 1 < i → d' x = d (x + 1)) (h2 : d' (i - 1) = d a) (h3 : ∀ x, x < a ∨ i ≤ x → d' x = d x) : Srt key plc d' a b ∧ Same d d' a b := by
  refine ⟨fun x y q1 q2 q3 => ?_, Same.more (a := a) (b := i) ⟨fun x hx => h3 x hx, fun x q1 q2 => ?_, fun x q1 q2 => ?_⟩ (Nat.le_refl _) hib⟩
  · by_cases c1 : x + 1 < i
    · rw [h1 x q1 c1]
      by_cases c2 : y + 1 < i
      · rw [h1 y (by omega) c2]; exact hs _ _ (by omega) (by omega) (by omega)
      · by_cases c3 : y + 1 = i
        · have : y = i - 1 := by omega
          rw [this, h2]; exact .inl (hlo _ (by omega) (by omega))
        · rw [h3 y (by omega)]; exact hs _ _ (by omega) (by omega) (by omega)
    · by_cases c3 : x + 1 = i
      · have : x = i - 1 := by omega
        rw [this, h2, h3 y (by omega)]
        have := hhi y (by omega) q3
        have := ht a y (Nat.le_refl _) (by omega) (by omega) q3
        unfold ltS; omega
      · rw [h3 x (by omega), h3 y (by omega)]; exact hs _ _ (by omega) (by omega) (by omega)
  · by_cases c : x + 1 < i
    · exact ⟨x + 1, by omega, by omega, h1 x q1 c⟩
    · have : x = i - 1 := by omega
      exact ⟨a, by omega, by omega, by rw [this, h2]⟩
  · by_cases c : x = a
    · exact ⟨i - 1, by omega, by omega, by rw [c, h2]⟩
    · refine ⟨x - 1, by omega, by omega, ?_⟩
      rw [h1 _ (by omega) (by omega)]; congr 1; omega
/-- One put among the others, from the right. -/
theorem one_right {d d' : Nat → α} {a m i : Nat} (hai : a ≤ i) (him : i ≤ m) (hs : Srt key plc d a m) (ht : Tie plc d a m (m + 1))
    (hlo : ∀ x, a ≤ x → x < i → ¬ key (d m) < key (d x)) (hhi : ∀ x, i ≤ x → x < m → key (d m) < key (d x))
    (h1 : ∀ x, i < x → x ≤ m → d' x = d (x - 1)) (h2 : d' i = d m) (h3 : ∀ x, x < i ∨ m < x → d' x = d x) : Srt key plc d' a (m + 1) ∧ Same d d' a (m + 1) := by
  refine ⟨fun x y q1 q2 q3 => ?_, Same.more (a := i) (b := m + 1) ⟨fun x hx => h3 x (by omega), fun x q1 q2 => ?_, fun x q1 q2 => ?_⟩ hai (Nat.le_refl _)⟩
  · by_cases c1 : x < i
    · rw [h3 x (.inl c1)]
      by_cases c2 : y < i
      · rw [h3 y (.inl c2)]; exact hs _ _ (by omega) (by omega) (by omega)
      · by_cases c3 : y = i
        · rw [c3, h2]
          have := hlo x q1 c1
          have := ht x m q1 (by omega) (Nat.le_refl _) (by omega)
          unfold ltS; omega
        · rw [h1 y (by omega) (by omega)]; exact hs _ _ (by omega) (by omega) (by omega)
    · by_cases c3 : x = i
      · rw [c3, h2, h1 y (by omega) (by omega)]
        exact .inl (hhi _ (by omega) (by omega))
      · rw [h1 x (by omega) (by omega), h1 y (by omega) (by omega)]; exact hs _ _ (by omega) (by omega) (by omega)
  · by_cases c : x = i
    · exact ⟨m, by omega, by omega, by rw [c, h2]⟩
    · exact ⟨x - 1, by omega, by omega, h1 x (by omega) (by omega)⟩
  · by_cases c : x = m
    · exact ⟨i, by omega, by omega, by rw [c, h2]⟩
    · exact ⟨x + 1, by omega, by omega, by rw [h1 _ (by omega) (by omega)]; rfl⟩
/-- What the search in the middle comes to. -/
structure Cut (d : Nat → α) (a m b mid s : Nat) : Prop where
  lo : a ≤ s
  hi : s ≤ m
  smid : s ≤ mid
  e1 : m ≤ mid + m - s
  e2 : mid + m - s ≤ b
  l : ∀ x y, a ≤ x → x < s → mid + m - s ≤ y → y < b → key (d x) ≤ key (d y)
  r : ∀ x y, m ≤ x → x < mid + m - s → s ≤ y → y < m → key (d x) < key (d y)
theorem cut_of {d : Nat → α} {a m b mid s s0 r0 : Nat} (ham : a < m) (hmb : m < b) (hmid : mid = (a + b) / 2) (h0 : (mid < m ∧ s0 = mid + m - b ∧ r0 = mid) ∨ (m ≤ mid ∧ s0 = a ∧ r0 = m)) (hs0 : s0 ≤ s) (hsr : s ≤ r0)
    (hl : Srt key plc d a m) (hr : Srt key plc d m b)
    (hlo : s0 < s → ¬ key (d (mid + m - 1 - (s - 1))) < key (d (s - 1))) (hhi : s < r0 → key (d (mid + m - 1 - s)) < key (d s)) : Cut (key := key) d a m b mid s := by
  have hlt : ∀ x y, a ≤ x → x < s → mid + m - s ≤ y → y < b → key (d x) ≤ key (d y) := by
    intro x y h1 h2 h3 h4
    have q : s0 < s := by omega
    have := hlo q
    have k1 := hl.key_le (i := x) (j := s - 1) h1 (by omega) (by omega)
    have e : mid + m - 1 - (s - 1) = mid + m - s := by omega
    rw [e] at this
    have k2 := hr.key_le (i := mid + m - s) (j := y) (by omega) h3 h4
    omega
  have hrt : ∀ x y, m ≤ x → x < mid + m - s → s ≤ y → y < m → key (d x) < key (d y) := by
    intro x y h1 h2 h3 h4
    have q : s < r0 := by omega
    have := hhi q
    have k1 := hr.key_le (i := x) (j := mid + m - 1 - s) h1 (by omega) (by omega)
    have k2 := hl.key_le (i := s) (j := y) (by omega) h3 h4
    omega
  exact ⟨by omega, by omega, by omega, by omega, by omega, hlt, hrt⟩
/-- Behind the rotation: both halves are to be merged by themselves. -/
theorem halves {d d1 : Nat → α} {a m b mid s : Nat} (ham : a < m) (hmb : m < b) (hl : Srt key plc d a m) (hr : Srt key plc d m b) (ht : Tie plc d a m b) (hc : Cut (key := key) d a m b mid s) (hrot : Rot d d1 s m (mid + m - s)) :
    Srt key plc d1 a s ∧ Srt key plc d1 s mid ∧ Tie plc d1 a s mid ∧ Srt key plc d1 mid (mid + m - s) ∧ Srt key plc d1 (mid + m - s) b ∧ Tie plc d1 mid (mid + m - s) b ∧ Bef key plc d1 a mid b := by
  obtain ⟨c1, c2, c3, c4, c5, cl, cr⟩ := hc
  obtain ⟨r1, r2, r3⟩ := hrot
  have e : s + (mid + m - s - m) = mid := by omega
  rw [e] at r1 r2
  refine ⟨fun i j q1 q2 q3 => ?_, fun i j q1 q2 q3 => ?_, fun i j q1 q2 q3 q4 => ?_, fun i j q1 q2 q3 => ?_, fun i j q1 q2 q3 => ?_, fun i j q1 q2 q3 q4 => ?_, fun i j q1 q2 q3 q4 => ?_⟩
  · rw [r3 i (by omega), r3 j (by omega)]; exact hl i j q1 q2 (by omega)
  · rw [r1 i q1 (by omega), r1 j (by omega) q3]; exact hr _ _ (by omega) (by omega) (by omega)
  · rw [r3 i (by omega), r1 j q3 q4]; exact ht _ _ q1 (by omega) (by omega) (by omega)
  · rw [r2 i q1 (by omega), r2 j (by omega) q3]; exact hl _ _ (by omega) (by omega) (by omega)
  · rw [r3 i (by omega), r3 j (by omega)]; exact hr i j (by omega) q2 q3
  · rw [r2 i q1 q2, r3 j (by omega)]; exact ht _ _ (by omega) (by omega) (by omega) q4
  · by_cases k1 : i < s <;> by_cases k2 : j < mid + m - s
    · rw [r3 i (by omega), r2 j q3 k2]; exact hl _ _ q1 (by omega) (by omega)
    · rw [r3 i (by omega), r3 j (by omega)]
      have := cl i j q1 k1 (by omega) q4
      have := ht i j q1 (by omega) (by omega) q4
      unfold ltS; omega
    · rw [r1 i (by omega) q2, r2 j q3 k2]; exact .inl (cr _ _ (by omega) (by omega) (by omega) (by omega))
    · rw [r1 i (by omega) q2, r3 j (by omega)]; exact hr _ _ (by omega) (by omega) q4
theorem Bef.join {d d1 d2 : Nat → α} {a m b : Nat} (ham : a ≤ m) (hmb : m ≤ b) (h : Bef key plc d a m b) (s1 : Same d d1 a m) (k1 : Srt key plc d1 a m) (s2 : Same d1 d2 m b) (k2 : Srt key plc d2 m b) : Srt key plc d2 a b ∧ Same d d2 a b := by
  refine ⟨fun i j q1 q2 q3 => ?_, (s1.more (Nat.le_refl _) hmb).trans (s2.more ham (Nat.le_refl _))⟩
  by_cases c : j < m
  · exact s2.srt_far (.inl (Nat.le_refl _)) k1 i j q1 q2 c
  · by_cases c2 : i < m
    · rw [s2.1 i (.inl c2)]
      obtain ⟨i', i1, i2, e⟩ := s1.2.1 i q1 c2
      obtain ⟨j', j1, j2, e'⟩ := s2.2.1 j (by omega) q3
      rw [e, e', s1.1 j' (.inr j1)]
      exact h _ _ i1 i2 j1 j2
    · exact k2 i j (by omega) q2 q3
/-- From t on, where t is so many times s: runs of s, each ahead of what comes. -/
def Run (key : α → Int) (plc : α → Nat) (d : Nat → α) (n s lo hi : Nat) : Prop :=
  ∀ t, (∃ k, t = k * s) → lo ≤ t → t < hi → Srt key plc d t (min (t + s) n) ∧ ∀ i j, t ≤ i → i < t + s → t + s ≤ j → j < n → plc (d i) < plc (d j)
theorem mul_gap {s x y : Nat} (hx : ∃ k, x = k * s) (hy : ∃ k, y = k * s) (h : x < y) : x + s ≤ y := by
  obtain ⟨k, rfl⟩ := hx
  obtain ⟨k', rfl⟩ := hy
  have : k < k' := Nat.lt_of_mul_lt_mul_right h
  have := Nat.mul_le_mul_right s (show k + 1 ≤ k' from this)
  rw [Nat.succ_mul] at this; exact this
theorem mul_half {s t : Nat} (h : ∃ k, t = k * (2 * s)) : ∃ k, t = k * s := by
  obtain ⟨k, rfl⟩ := h; exact ⟨k * 2, by rw [Nat.mul_assoc]⟩
theorem mul_add {s t : Nat} (h : ∃ k, t = k * s) : ∃ k, t + s = k * s := by
  obtain ⟨k, rfl⟩ := h; exact ⟨k + 1, by rw [Nat.succ_mul]⟩
/-- One merge of two runs. -/
theorem run_merge {d d' : Nat → α} {n s a b : Nat} (hs : 0 < s) (ha : ∃ k, a = k * (2 * s)) (hb : b = min (a + 2 * s) n) (ham : a + s < n) (h1 : Run key plc d n (2 * s) 0 a) (h2 : Run key plc d n s a n) (k : Srt key plc d' a b) (sm : Same d d' a b) :
    Run key plc d' n (2 * s) 0 (a + 2 * s) ∧ Run key plc d' n s (a + 2 * s) n := by
  refine ⟨fun t ht t0 t1 => ?_, fun t ht t0 t1 => ?_⟩
  · by_cases c : t < a
    · have hta := mul_gap ht ha c
      obtain ⟨q1, q2⟩ := h1 t ht t0 c
      refine ⟨sm.srt_far (by omega) q1, fun i j i1 i2 j1 j2 => ?_⟩
      rw [sm.1 i (by omega)]
      by_cases c2 : a ≤ j ∧ j < b
      · obtain ⟨j', p1, p2, e⟩ := sm.2.1 j c2.1 c2.2
        rw [e]; exact q2 i j' i1 i2 (by omega) (by omega)
      · rw [sm.1 j (by omega)]; exact q2 i j i1 i2 j1 j2
    · have : t = a := by
        rcases Nat.lt_or_ge a t with q | q
        · have := mul_gap ha ht q; omega
        · omega
      subst this
      refine ⟨by rw [← hb]; exact k, fun i j i1 i2 j1 j2 => ?_⟩
      obtain ⟨i', p1, p2, e⟩ := sm.2.1 i i1 (by omega)
      rw [e, sm.1 j (by omega)]
      by_cases c2 : i' < t + s
      · exact (h2 t (mul_half ha) (Nat.le_refl _) (by omega)).2 i' j p1 c2 (by omega) j2
      · exact (h2 (t + s) (mul_add (mul_half ha)) (by omega) ham).2 i' j (by omega) (by omega) (by omega) j2
  · obtain ⟨q1, q2⟩ := h2 t ht (by omega) t1
    refine ⟨sm.srt_far (by omega) q1, fun i j i1 i2 j1 j2 => ?_⟩
    rw [sm.1 i (by omega), sm.1 j (by omega)]; exact q2 i j i1 i2 j1 j2
theorem run_last {d : Nat → α} {n s a : Nat} (hs : 0 < s) (ha : ∃ k, a = k * (2 * s)) (hn : n ≤ a + s) (h1 : Run key plc d n (2 * s) 0 a) (h2 : Run key plc d n s a n) : Run key plc d n (2 * s) 0 n := by
  intro t ht t0 t1
  by_cases c : t < a
  · exact h1 t ht t0 c
  · have : t = a := by
      rcases Nat.lt_or_ge a t with q | q
      · have := mul_gap ha ht q; omega
      · omega
    subst this
    obtain ⟨q1, q2⟩ := h2 t (mul_half ha) (Nat.le_refl _) t1
    exact ⟨q1.sub (Nat.le_refl _) (by omega), fun i j i1 i2 j1 j2 => by omega⟩
theorem run_prem {d : Nat → α} {n s a : Nat} (hs : 0 < s) (ha : ∃ k, a = k * (2 * s)) (ham : a + s < n) (h2 : Run key plc d n s a n) : Srt key plc d a (a + s) ∧ Srt key plc d (a + s) (min (a + 2 * s) n) ∧ Tie plc d a (a + s) (min (a + 2 * s) n) := by
  obtain ⟨q1, q2⟩ := h2 a (mul_half ha) (Nat.le_refl _) (by omega)
  obtain ⟨q3, q4⟩ := h2 (a + s) (mul_add (mul_half ha)) (by omega) ham
  exact ⟨q1.sub (Nat.le_refl _) (by omega), q3.sub (Nat.le_refl _) (by omega), fun i j i1 i2 j1 j2 => q2 i j i1 i2 j1 (by omega)⟩
theorem run_done {d : Nat → α} {n s : Nat} (hn : n ≤ s) (h : Run key plc d n s 0 n) : Srt key plc d 0 n := by
  by_cases c : 0 < n
  · exact (h 0 ⟨0, by simp⟩ (Nat.le_refl _) c).1.sub (Nat.le_refl _) (by omega)
  · intro i j i1 i2 i3; omega
/-- What is not sorted yet stands by its places. -/
def Asc (plc : α → Nat) (d : Nat → α) (a b : Nat) : Prop := ∀ i j, a ≤ i → i < j → j < b → plc (d i) < plc (d j)
theorem run_block {d d' : Nat → α} {n s a b : Nat} (hs : 0 < s) (ha : ∃ k, a = k * s) (hb : b = min (a + s) n) (han : a ≤ n) (h1 : Run key plc d n s 0 a) (h2 : Asc plc d a n) (h3 : ∀ i j, i < a → a ≤ j → j < n → plc (d i) < plc (d j)) (k : Srt key plc d' a b) (sm : Same d d' a b) :
    Run key plc d' n s 0 (a + s) ∧ Asc plc d' (a + s) n ∧ (∀ i j, i < a + s → a + s ≤ j → j < n → plc (d' i) < plc (d' j)) := by
  refine ⟨fun t ht t0 t1 => ?_, fun i j i1 i2 j1 => ?_, fun i j i1 i2 j1 => ?_⟩
  · by_cases c : t < a
    · have hta := mul_gap ht ha c
      obtain ⟨q1, q2⟩ := h1 t ht t0 c
      refine ⟨sm.srt_far (by omega) q1, fun i j i1 i2 j1 j2 => ?_⟩
      rw [sm.1 i (by omega)]
      by_cases c2 : a ≤ j ∧ j < b
      · obtain ⟨j', p1, p2, e⟩ := sm.2.1 j c2.1 c2.2
        rw [e]; exact q2 i j' i1 i2 (by omega) (by omega)
      · rw [sm.1 j (by omega)]; exact q2 i j i1 i2 j1 j2
    · have : t = a := by
        rcases Nat.lt_or_ge a t with q | q
        · have := mul_gap ha ht q; omega
        · omega
      subst this
      refine ⟨by rw [← hb]; exact k, fun i j i1 i2 j1 j2 => ?_⟩
      obtain ⟨i', p1, p2, e⟩ := sm.2.1 i i1 (by omega)
      rw [e, sm.1 j (by omega)]
      exact h2 i' j p1 (by omega) j2
  · rw [sm.1 i (by omega), sm.1 j (by omega)]; exact h2 i j (by omega) i2 j1
  · rw [sm.1 j (by omega)]
    by_cases c : a ≤ i
    · obtain ⟨i', p1, p2, e⟩ := sm.2.1 i c (by omega)
      rw [e]; exact h2 i' j p1 (by omega) j1
    · rw [sm.1 i (by omega)]; exact h3 i j (by omega) (by omega) j1
/-- Two rows of the same elements, both sorted, are one. -/
theorem srt_unique {d e : Nat → α} {n : Nat} (h : Srt key plc d 0 n) (g : Srt key plc e 0 n) (hs : ∀ i, i < n → ∃ j, j < n ∧ d i = e j) (gs : ∀ i, i < n → ∃ j, j < n ∧ e i = d j) : ∀ i, i < n → d i = e i := by
  intro i
  induction i using Nat.strongRecOn with
  | _ i ih =>
    intro hi
    obtain ⟨j, j1, ej⟩ := hs i hi
    obtain ⟨k, k1, ek⟩ := gs i hi
    rcases Nat.lt_trichotomy j i with q | q | q
    · exfalso
      have := ih j q (by omega)
      have w := h j i (by omega) q hi
      rw [this, ← ej] at w
      exact lt_irr w
    · rw [ej, q]
    · exfalso
      rcases Nat.lt_trichotomy k i with p | p | p
      · have := ih k p (by omega)
        have w := g k i (by omega) p hi
        rw [← this, ← ek] at w
        exact lt_irr w
      · have w := g i j (by omega) q j1
        rw [← ej, ek, p] at w
        exact lt_irr w
      · have w := g i j (by omega) q j1
        have v := h i k (by omega) p k1
        rw [← ej] at w
        rw [← ek] at v
        exact lt_irr (lt_trans v w)
end
end Go.Proofs.Ytlcghlcpngafgaa.Mrg
