/- DeskOwns: the plain layer; the calls as the law meets them. (Written by wip/gen/mkdk19.py.) -/
import Derived.Test.YtphaaagcdjpceaaDoorDk18
import Derived.Test.YtphaaagcdjpceaaDoorPo9
namespace Go.Proofs.YtphaaagcdjpceaaDoor
open Go.RowKit Go.Extern.Stop Go.Stop Go.Extern Go.Proofs.YtphaaagcdjpceaaDoorW.PrintWords Go.Proofs.YtphaaagcdjpceaaDoorW.PrintLast Go.Proofs.YtphaaagcdjpceaaDoorW.PrintMore
open Go.Maps (Keyed)
set_option linter.unusedVariables false
/-- So many places, all taken, each once. -/
abbrev tk (n : Nat) : List S108 := List.replicate n ⟨1, true⟩
theorem tk_plc {n j : Nat} (h : j < n) : plc (tk n) j = ⟨1, true⟩ := by simp [plc, h]
theorem tk_turn (n : Nat) : turnOf (tk n) n = 1 := by
  have := turnOf_out (tk n)
  rwa [List.length_replicate] at this
theorem tk_took (n : Nat) : tookL (tk n) n = tk (n + 1) := by
  have := tookL_out (tk n)
  rw [List.length_replicate] at this
  rw [this]; exact List.replicate_succ'.symm
theorem tk_has {n j : Nat} (h : j < n) : hasB (tk n) (j : Int) 1 = true := hasB_of (by simpa using h) (by rw [tk_plc h]) (by rw [tk_plc h])
/-- A session's refs, by their places. -/
structure RD (D : DataW Unit) (rs : List Int) : Prop where
  tidy : Go.Maps.Tidy D
  has : ∀ k, hasI D k ↔ 0 ≤ k ∧ k < (rs.length : Int)
  at_ : ∀ k : Int, 0 ≤ k → k < (rs.length : Int) → ∀ z, D.atKey (.int .i64 k) z = .lit (.int .i64 (rs.getD k.toNat 0))
  size : Go.Maps.size D = rs.length
theorem RD.nil : RD (.map []) [] := ⟨Go.Maps.tidy_empty, fun k => ⟨fun h => by simp [hasI, Go.Maps.has] at h, fun h => by simp at h; omega⟩, fun k h1 h2 => by simp at h2; omega, rfl⟩
theorem RD.snoc {D : DataW Unit} {rs : List Int} (h : RD D rs) (r : Int) : RD (D.put (.int .i64 (rs.length : Int)) (.lit (.int .i64 r))) (rs ++ [r]) := by
  refine ⟨h.tidy.put (isKey_int _) _, fun k => ?_, fun k h1 h2 z => ?_, ?_⟩
  · rw [hasI_put h.tidy.isMap, h.has]; simp; omega
  · rw [at_putI h.tidy.isMap]
    by_cases e : k = (rs.length : Int)
    · subst e; simp
    · rw [if_neg e]
      have h3 : k < (rs.length : Int) := by simp at h2; omega
      rw [h.at_ k h1 h3]
      have : k.toNat < rs.length := by omega
      rw [List.getD_eq_getElem?_getD, List.getD_eq_getElem?_getD, List.getElem?_append_left this]
  · rw [Go.Maps.size_put h.tidy]
    have hn : Go.Maps.has D (.int .i64 (rs.length : Int)) = false := by
      have := h.has (rs.length : Int)
      cases hh : Go.Maps.has D (.int .i64 (rs.length : Int))
      · rfl
      · exact absurd (this.1 hh).2 (by omega)
    rw [hn, h.size]; simp
theorem RD.keys {W : World} {mb cap : Nat} {D : DataW Unit} {rs : List Int} (h : RD D rs) (hm : RM W mb cap D) : ((List.range rs.length).map (fun i : Nat => (i : Int))).Perm (Go.intKeys D) := by
  refine Go.CollectedI.perm (left := fun _ => false) ⟨?_, fun x => ?_⟩ hm key3 Tryd.underlying3 (fun _ => rfl)
  · rw [List.Nodup, List.pairwise_map]
    exact List.nodup_range.imp (fun h e => h (by omega))
  · have h1 := h.has x
    unfold hasI at h1
    rw [List.mem_map, h1]
    simp only [List.mem_range, and_true]
    constructor
    · rintro ⟨i, hi, rfl⟩; omega
    · rintro ⟨h2, h3⟩; exact ⟨x.toNat, by omega, by omega⟩
theorem RD.vals {W : World} {mb cap : Nat} {D : DataW Unit} {rs : List Int} (h : RD D rs) (hm : RM W mb cap D) : ((Go.intKeys D).mergeSort (fun x y => decide (x ≤ y))).map (fun k => rs.getD k.toNat 0) = rs := by
  have e : (Go.intKeys D).mergeSort (fun x y => decide (x ≤ y)) = (List.range rs.length).map (fun i : Nat => (i : Int)) := by
    rw [← Go.mergeSort_of_perm_i (h.keys hm)]
    refine List.mergeSort_of_pairwise ?_
    rw [List.pairwise_map]
    exact List.pairwise_lt_range.imp (fun h => by simp only [decide_eq_true_eq]; omega)
  rw [e, List.map_map]
  apply List.ext_getElem
  · simp
  · intro i h1 h2
    simp [h2]
theorem RD.count {W : World} {mb cap : Nat} {D : DataW Unit} {rs : List Int} (h : RD D rs) (hm : RM W mb cap D) : (Go.intKeys D).length = rs.length := by
  have := (h.keys hm).length_eq
  simpa using this.symm
/-- A session that sent one byte and kept so many refs. -/
abbrev sT (sg mb : Nat) (v : Value) (b : Int) (n : Nat) (D : DataW Unit) : Sn := ⟨true, v, [b], sg, tk n, (n : Int), mb, n, D⟩
/-- Two sessions. -/
def F2 (a b : Nat × Sn) : Int → Nat × Sn := fun x => if x = 0 then a else if x = 1 then b else (0, newS 0 0)
theorem F2_0 (a b : Nat × Sn) : F2 a b 0 = a := rfl
theorem F2_1 (a b : Nat × Sn) : F2 a b 1 = b := rfl
theorem F2_mk (a b : Nat × Sn) : upF (upF F0 0 a) 1 b = F2 a b := by
  funext x; unfold upF F2 F0
  by_cases h0 : x = 0
  · subst h0; rfl
  · by_cases h1 : x = 1 <;> simp [h0, h1]
theorem F2_up0 (a b c : Nat × Sn) : upF (F2 a b) 0 c = F2 c b := by
  funext x; unfold upF F2
  by_cases h0 : x = 0 <;> simp [h0]
theorem F2_up1 (a b c : Nat × Sn) : upF (F2 a b) 1 c = F2 a c := by
  funext x; unfold upF F2
  by_cases h0 : x = 0
  · subst h0; rfl
  · by_cases h1 : x = 1 <;> simp [h0, h1]
abbrev E2 (p q : Nat) : DataW Unit := .map [(.int .i64 0, .lit (.int .i64 (p : Int))), (.int .i64 1, .lit (.int .i64 (q : Int)))]
theorem hasI_E2 {p q : Nat} {x : Int} : hasI (E2 p q) x ↔ x = 0 ∨ x = 1 := by
  unfold hasI Go.Maps.has E2
  simp [Lit.sameKey]; omega
/-- The law's desk. -/
abbrev OD (w W : World) (d pg M p q : Nat) (s u : Sn) : Prop := DS w W d pg M 2 2 [⟨1, true⟩, ⟨1, true⟩] 20 2 (E2 p q) 20 (F2 (p, s) (q, u))
theorem row20 (n : Nat) (h : n < 20) : (n : Int) ≠ 20 := by omega
theorem okeep0 {w W : World} {d pg M p q sg mb n : Nat} {v : Value} {b r : Int} {D : DataW Unit} {u : Sn} (h : OD w W d pg M p q (sT sg mb v b n D) (u)) (hr : (Lit.int .i64 r).wf = true) (hn : n < 20) :
    Calls Tryd.prog 42 #[.pointer (some ⟨d, 0, none⟩), .agg #[.int .i64 0, .int .i64 1], .int .i64 r] W fun e w' => e = .returned (.tuple #[.agg #[.int .i64 (n : Int), .int .i64 1], .nilIface]) ∧ OD w w' d pg M p q (sT sg mb v b (n + 1) (D.put (.int .i64 (n : Int)) (.lit (.int .i64 r)))) (u) ∧ Keeps DT W w' := by
  refine (dkeep h (p := 0) (t := 1) (r := r) (i := n) rfl rfl (hasI_E2.2 (by simp)) (by rw [F2_0]; dsimp only; omega) hr (by rw [F2_0]; simp) (fun j hj => by rw [F2_0]; dsimp only; rw [tk_plc hj]) (fun h => by rw [F2_0] at h; simp at h) (row20 n hn) (by rw [F2_0]; simp; omega) (by rw [F2_0]; dsimp only; rw [tk_turn]; decide) (by rw [F2_0]; dsimp only; rw [tk_turn]; decide) (by rw [F2_0]; dsimp only; omega) (by rw [F2_0]; dsimp only; omega)).mono ?_
  rintro e w' ⟨rfl, h1, h2⟩
  rw [F2_0, F2_up0] at h1
  rw [F2_0]
  dsimp only [keptS] at h1 ⊢
  rw [tk_took] at h1
  rw [tk_turn]
  exact ⟨rfl, h1, h2⟩
abbrev OC0 (w W : World) (d pg M p q : Nat) (s u : Sn) : Prop := DS w W d pg M 2 1 [⟨1, false⟩, ⟨1, true⟩] 20 2 (.map [(.int .i64 1, .lit (.int .i64 (q : Int)))]) 20 (F2 (p, s) (q, u))
abbrev OO0 (w W : World) (d pg M p q : Nat) (s u : Sn) : Prop := DS w W d pg M 2 2 [⟨2, true⟩, ⟨1, true⟩] 20 3 (E2 p q) 20 (F2 (p, s) (q, u))
theorem oclose0 {w W : World} {d pg M p q sg mb n : Nat} {v : Value} {b : Int} {D : DataW Unit} {u : Sn} {rs : List Int} (h : OD w W d pg M p q (sT sg mb v b n D) (u)) (hD : RD D rs) (hl : rs.length ≤ 20) :
    Calls Tryd.prog 43 #[.pointer (some ⟨d, 0, none⟩), .agg #[.int .i64 0, .int .i64 1]] W fun e w' => ∃ z, e = .returned (.tuple #[z, .nilIface]) ∧ Kd.R (Kd.int .i64) 3 w' W.heap.size (fun _ => True) z rs ∧ OC0 w w' d pg M p q (sT sg mb v b n D) (u) ∧ Keeps DT W w' := by
  have hx := (h.ds.at_ 0 (hasI_E2.2 (by simp))).2
  rw [F2_0] at hx
  have hm : RM W mb n D := hx.mp
  refine (dclose h 0 (t := 1) (by decide) (by decide) rfl (hasI_E2.2 (by simp)) (by decide) (by decide) (by rw [show ((0 : Nat) : Int) = 0 from rfl, F2_0]; dsimp only; rw [hD.size]; omega) (fun k => rs.getD k.toNat 0) ?_).mono ?_
  · rw [show ((0 : Nat) : Int) = 0 from rfl, F2_0]
    intro k hk
    have h1 : k ∈ (List.range rs.length).map (fun i : Nat => (i : Int)) := (hD.keys hm).mem_iff.2 hk
    obtain ⟨i, hi, rfl⟩ := List.mem_map.1 h1
    have hi' := List.mem_range.1 hi
    exact ⟨wf_i64 (by omega) (by omega), hD.at_ _ (by omega) (by omega) _⟩
  · rintro e w' ⟨z, rfl, hr, h1, h2⟩
    rw [show ((0 : Nat) : Int) = 0 from rfl, F2_0] at hr
    rw [hD.vals hm] at hr
    exact ⟨z, rfl, hr, h1, h2⟩
theorem owaits0 {w W : World} {d pg M p q sg mb n : Nat} {v : Value} {b : Int} {D : DataW Unit} {s : Sn} (h : OC0 w W d pg M p q (s) (sT sg mb v b n D)) :
    Calls Tryd.prog 45 #[.pointer (some ⟨d, 0, none⟩), .agg #[.int .i64 1, .int .i64 1]] W fun e w' => ∃ z, e = .returned (.tuple #[z, .bool true]) ∧ Kd.R (Kd.int .u8) 5 w' W.heap.size (fun _ => True) z [b] ∧ OC0 w w' d pg M p q (s) (sT sg mb v b n D) ∧ Below W.heap.size W w' := by
  refine (dwaits h (p := 1) (t := 1) rfl rfl rfl (by rw [F2_1]) (by rw [F2_1]; simp)).mono ?_
  rintro e w' ⟨z, rfl, hr, h1, h2⟩
  rw [F2_1] at hr
  exact ⟨z, rfl, hr, h1, h2⟩
theorem owaitsno0 {w W : World} {d pg M p q : Nat} {s u : Sn} (hG : Good w) (h : OC0 w W d pg M p q s u) :
    Calls Tryd.prog 45 #[.pointer (some ⟨d, 0, none⟩), .agg #[.int .i64 0, .int .i64 1]] W fun e w' => e = .returned (.tuple #[.slice none 0 0, .bool false]) ∧ OC0 w w' d pg M p q s u ∧ Below W.heap.size W w' :=
  dwaits_no h hG (p := 0) (t := 1) (by decide) rfl
theorem okept0 {w W : World} {d pg M p q sg mb n : Nat} {v : Value} {b : Int} {D : DataW Unit} {s : Sn} {rs : List Int} (h : OC0 w W d pg M p q (s) (sT sg mb v b n D)) (hD : RD D rs) (hl : rs.length ≤ 20) :
    Calls Tryd.prog 46 #[.pointer (some ⟨d, 0, none⟩)] W fun e w' => ∃ A c, e = .returned (.slice A rs.length c) ∧ OC0 w w' d pg M p q (s) (sT sg mb v b n D) ∧ Below W.heap.size W w' := by
  have h0 : ∀ x, hasI (.map [(.int .i64 1, .lit (.int .i64 (q : Int)))]) x → x = 1 := fun x hx => by
    simp [hasI, Go.Maps.has, Lit.sameKey] at hx; omega
  have hx := (h.ds.at_ 1 rfl).2
  rw [F2_1] at hx
  have hm : RM W mb n D := hx.mp
  refine (dkept h (fun _ k => rs.getD k.toNat 0) (fun x hx k hk => ?_) (by simp [Go.Maps.size]) (fun x hx => ?_)).mono ?_
  · obtain rfl := h0 x hx
    rw [F2_1] at hk ⊢
    have := (hD.has k).1 hk
    exact hD.at_ k this.1 this.2 _
  · obtain rfl := h0 x hx
    rw [F2_1]; dsimp only; rw [hD.size]; omega
  · rintro e w' ⟨z, V, rfl, hr, hp, h1, h2⟩
    obtain ⟨A, c, rfl⟩ := Kd.R_slice hr
    have e1 : (V.mergeSort (fun x y => decide (x ≤ y))).length = rs.length := by
      rw [List.length_mergeSort, hp.length_eq]
      show (([1] : List Int).flatMap fun x => (Go.intKeys ((F2 (p, s) (q, sT sg mb v b n D)) x).2.D).map (fun k => rs.getD k.toNat 0)).length = rs.length
      simp only [List.flatMap_cons, List.flatMap_nil, List.append_nil, List.length_map]
      rw [F2_1]
      exact hD.count hm
    rw [e1]
    exact ⟨A, c, rfl, h1, h2⟩
theorem ofind0 {w W : World} {d pg M p q sg mb n : Nat} {v : Value} {b : Int} {D : DataW Unit} {s : Sn} {rs : List Int} (h : OC0 w W d pg M p q (s) (sT sg mb v b n D)) (hD : RD D rs) (hn : n = rs.length) (j : Nat) (hj : j < n) (hl : n ≤ 20) :
    Calls Tryd.prog 47 #[.pointer (some ⟨d, 0, none⟩), .agg #[.int .i64 1, .int .i64 1], .agg #[.int .i64 (j : Int), .int .i64 1]] W fun e w' => e = .returned (.tuple #[.int .i64 (rs.getD j 0), .nilIface]) ∧ OC0 w w' d pg M p q (s) (sT sg mb v b n D) ∧ Below W.heap.size W w' :=
  dfind h (p := 1) (t := 1) (p2 := (j : Int)) (t2 := 1) rfl rfl rfl (wf_i64 (by omega) (by omega)) (by rw [F2_1]; exact tk_has hj) (by rw [F2_1]; exact hD.at_ (j : Int) (by omega) (by omega) _)
theorem oopen0 {w W : World} {d pg M p q : Nat} {s u : Sn} (h : OC0 w W d pg M p q s u) :
    Calls Tryd.prog 40 #[.pointer (some ⟨d, 0, none⟩)] W fun e w' => ∃ x sg2 mb2 : Nat, e = .returned (.tuple #[.agg #[.int .i64 0, .int .i64 2], .nilIface]) ∧ DS w w' d pg M 2 2 [⟨2, true⟩, ⟨1, true⟩] 20 3 (E2 x q) 20 (F2 (x, newS sg2 mb2) (q, u)) ∧ Keeps DT W w' := by
  refine (dopen h (by decide) 0 (fun hx => by simp [hasI, Go.Maps.has, Lit.sameKey] at hx) (by decide) (by decide) (fun j hj => absurd hj (by omega)) (fun _ => rfl) (by decide) (by decide) (by decide) (by decide) (by decide) (by decide)).mono ?_
  rintro e w' ⟨x, sg2, mb2, rfl, h1, h2⟩
  rw [show ((0 : Nat) : Int) = 0 from rfl, F2_up0] at h1
  exact ⟨x, sg2, mb2, rfl, h1, h2⟩
theorem owaitsnew0 {w W : World} {d pg M p q x sg2 mb2 : Nat} {s u : Sn} (h : DS w W d pg M 2 2 [⟨2, true⟩, ⟨1, true⟩] 20 3 (E2 x q) 20 (F2 (x, newS sg2 mb2) (q, u))) :
    Calls Tryd.prog 45 #[.pointer (some ⟨d, 0, none⟩), .agg #[.int .i64 0, .int .i64 2]] W fun e w' => e = .returned (.tuple #[.slice none 0 0, .bool false]) ∧ DS w w' d pg M 2 2 [⟨2, true⟩, ⟨1, true⟩] 20 3 (E2 x q) 20 (F2 (x, newS sg2 mb2) (q, u)) ∧ Below W.heap.size W w' :=
  dwaits_none h (p := 0) (t := 2) rfl rfl (hasI_E2.2 (by simp)) (by rw [F2_0]; rfl)
theorem osendno0 {w W : World} {d pg M p q x sg2 mb2 : Nat} {s u : Sn} (hG : Good w) (h : DS w W d pg M 2 2 [⟨2, true⟩, ⟨1, true⟩] 20 3 (E2 x q) 20 (F2 (x, newS sg2 mb2) (q, u))) :
    Calls Tryd.prog 41 #[.pointer (some ⟨d, 0, none⟩), .agg #[.int .i64 0, .int .i64 1], .slice none 0 0] W fun e w' => ∃ k, e = .returned (.iface 179 (.pointer (some ⟨k, 0, none⟩))) ∧ Joined w' k 3 ∧ DS w w' d pg M 2 2 [⟨2, true⟩, ⟨1, true⟩] 20 3 (E2 x q) 20 (F2 (x, newS sg2 mb2) (q, u)) ∧ Below W.heap.size W w' :=
  dsend_no h hG (p := 0) (t := 1) (by decide) rfl none 0 0
theorem okeep1 {w W : World} {d pg M p q sg mb n : Nat} {v : Value} {b r : Int} {D : DataW Unit} {s : Sn} (h : OD w W d pg M p q (s) (sT sg mb v b n D)) (hr : (Lit.int .i64 r).wf = true) (hn : n < 20) :
    Calls Tryd.prog 42 #[.pointer (some ⟨d, 0, none⟩), .agg #[.int .i64 1, .int .i64 1], .int .i64 r] W fun e w' => e = .returned (.tuple #[.agg #[.int .i64 (n : Int), .int .i64 1], .nilIface]) ∧ OD w w' d pg M p q (s) (sT sg mb v b (n + 1) (D.put (.int .i64 (n : Int)) (.lit (.int .i64 r)))) ∧ Keeps DT W w' := by
  refine (dkeep h (p := 1) (t := 1) (r := r) (i := n) rfl rfl (hasI_E2.2 (by simp)) (by rw [F2_1]; dsimp only; omega) hr (by rw [F2_1]; simp) (fun j hj => by rw [F2_1]; dsimp only; rw [tk_plc hj]) (fun h => by rw [F2_1] at h; simp at h) (row20 n hn) (by rw [F2_1]; simp; omega) (by rw [F2_1]; dsimp only; rw [tk_turn]; decide) (by rw [F2_1]; dsimp only; rw [tk_turn]; decide) (by rw [F2_1]; dsimp only; omega) (by rw [F2_1]; dsimp only; omega)).mono ?_
  rintro e w' ⟨rfl, h1, h2⟩
  rw [F2_1, F2_up1] at h1
  rw [F2_1]
  dsimp only [keptS] at h1 ⊢
  rw [tk_took] at h1
  rw [tk_turn]
  exact ⟨rfl, h1, h2⟩
abbrev OC1 (w W : World) (d pg M p q : Nat) (s u : Sn) : Prop := DS w W d pg M 2 1 [⟨1, true⟩, ⟨1, false⟩] 20 2 (.map [(.int .i64 0, .lit (.int .i64 (p : Int)))]) 20 (F2 (p, s) (q, u))
abbrev OO1 (w W : World) (d pg M p q : Nat) (s u : Sn) : Prop := DS w W d pg M 2 2 [⟨1, true⟩, ⟨2, true⟩] 20 3 (E2 p q) 20 (F2 (p, s) (q, u))
theorem oclose1 {w W : World} {d pg M p q sg mb n : Nat} {v : Value} {b : Int} {D : DataW Unit} {s : Sn} {rs : List Int} (h : OD w W d pg M p q (s) (sT sg mb v b n D)) (hD : RD D rs) (hl : rs.length ≤ 20) :
    Calls Tryd.prog 43 #[.pointer (some ⟨d, 0, none⟩), .agg #[.int .i64 1, .int .i64 1]] W fun e w' => ∃ z, e = .returned (.tuple #[z, .nilIface]) ∧ Kd.R (Kd.int .i64) 3 w' W.heap.size (fun _ => True) z rs ∧ OC1 w w' d pg M p q (s) (sT sg mb v b n D) ∧ Keeps DT W w' := by
  have hx := (h.ds.at_ 1 (hasI_E2.2 (by simp))).2
  rw [F2_1] at hx
  have hm : RM W mb n D := hx.mp
  refine (dclose h 1 (t := 1) (by decide) (by decide) rfl (hasI_E2.2 (by simp)) (by decide) (by decide) (by rw [show ((1 : Nat) : Int) = 1 from rfl, F2_1]; dsimp only; rw [hD.size]; omega) (fun k => rs.getD k.toNat 0) ?_).mono ?_
  · rw [show ((1 : Nat) : Int) = 1 from rfl, F2_1]
    intro k hk
    have h1 : k ∈ (List.range rs.length).map (fun i : Nat => (i : Int)) := (hD.keys hm).mem_iff.2 hk
    obtain ⟨i, hi, rfl⟩ := List.mem_map.1 h1
    have hi' := List.mem_range.1 hi
    exact ⟨wf_i64 (by omega) (by omega), hD.at_ _ (by omega) (by omega) _⟩
  · rintro e w' ⟨z, rfl, hr, h1, h2⟩
    rw [show ((1 : Nat) : Int) = 1 from rfl, F2_1] at hr
    rw [hD.vals hm] at hr
    exact ⟨z, rfl, hr, h1, h2⟩
theorem owaits1 {w W : World} {d pg M p q sg mb n : Nat} {v : Value} {b : Int} {D : DataW Unit} {u : Sn} (h : OC1 w W d pg M p q (sT sg mb v b n D) (u)) :
    Calls Tryd.prog 45 #[.pointer (some ⟨d, 0, none⟩), .agg #[.int .i64 0, .int .i64 1]] W fun e w' => ∃ z, e = .returned (.tuple #[z, .bool true]) ∧ Kd.R (Kd.int .u8) 5 w' W.heap.size (fun _ => True) z [b] ∧ OC1 w w' d pg M p q (sT sg mb v b n D) (u) ∧ Below W.heap.size W w' := by
  refine (dwaits h (p := 0) (t := 1) rfl rfl rfl (by rw [F2_0]) (by rw [F2_0]; simp)).mono ?_
  rintro e w' ⟨z, rfl, hr, h1, h2⟩
  rw [F2_0] at hr
  exact ⟨z, rfl, hr, h1, h2⟩
theorem owaitsno1 {w W : World} {d pg M p q : Nat} {s u : Sn} (hG : Good w) (h : OC1 w W d pg M p q s u) :
    Calls Tryd.prog 45 #[.pointer (some ⟨d, 0, none⟩), .agg #[.int .i64 1, .int .i64 1]] W fun e w' => e = .returned (.tuple #[.slice none 0 0, .bool false]) ∧ OC1 w w' d pg M p q s u ∧ Below W.heap.size W w' :=
  dwaits_no h hG (p := 1) (t := 1) (by decide) rfl
theorem okept1 {w W : World} {d pg M p q sg mb n : Nat} {v : Value} {b : Int} {D : DataW Unit} {u : Sn} {rs : List Int} (h : OC1 w W d pg M p q (sT sg mb v b n D) (u)) (hD : RD D rs) (hl : rs.length ≤ 20) :
    Calls Tryd.prog 46 #[.pointer (some ⟨d, 0, none⟩)] W fun e w' => ∃ A c, e = .returned (.slice A rs.length c) ∧ OC1 w w' d pg M p q (sT sg mb v b n D) (u) ∧ Below W.heap.size W w' := by
  have h0 : ∀ x, hasI (.map [(.int .i64 0, .lit (.int .i64 (p : Int)))]) x → x = 0 := fun x hx => by
    simp [hasI, Go.Maps.has, Lit.sameKey] at hx; omega
  have hx := (h.ds.at_ 0 rfl).2
  rw [F2_0] at hx
  have hm : RM W mb n D := hx.mp
  refine (dkept h (fun _ k => rs.getD k.toNat 0) (fun x hx k hk => ?_) (by simp [Go.Maps.size]) (fun x hx => ?_)).mono ?_
  · obtain rfl := h0 x hx
    rw [F2_0] at hk ⊢
    have := (hD.has k).1 hk
    exact hD.at_ k this.1 this.2 _
  · obtain rfl := h0 x hx
    rw [F2_0]; dsimp only; rw [hD.size]; omega
  · rintro e w' ⟨z, V, rfl, hr, hp, h1, h2⟩
    obtain ⟨A, c, rfl⟩ := Kd.R_slice hr
    have e1 : (V.mergeSort (fun x y => decide (x ≤ y))).length = rs.length := by
      rw [List.length_mergeSort, hp.length_eq]
      show (([0] : List Int).flatMap fun x => (Go.intKeys ((F2 (p, sT sg mb v b n D) (q, u)) x).2.D).map (fun k => rs.getD k.toNat 0)).length = rs.length
      simp only [List.flatMap_cons, List.flatMap_nil, List.append_nil, List.length_map]
      rw [F2_0]
      exact hD.count hm
    rw [e1]
    exact ⟨A, c, rfl, h1, h2⟩
theorem ofind1 {w W : World} {d pg M p q sg mb n : Nat} {v : Value} {b : Int} {D : DataW Unit} {u : Sn} {rs : List Int} (h : OC1 w W d pg M p q (sT sg mb v b n D) (u)) (hD : RD D rs) (hn : n = rs.length) (j : Nat) (hj : j < n) (hl : n ≤ 20) :
    Calls Tryd.prog 47 #[.pointer (some ⟨d, 0, none⟩), .agg #[.int .i64 0, .int .i64 1], .agg #[.int .i64 (j : Int), .int .i64 1]] W fun e w' => e = .returned (.tuple #[.int .i64 (rs.getD j 0), .nilIface]) ∧ OC1 w w' d pg M p q (sT sg mb v b n D) (u) ∧ Below W.heap.size W w' :=
  dfind h (p := 0) (t := 1) (p2 := (j : Int)) (t2 := 1) rfl rfl rfl (wf_i64 (by omega) (by omega)) (by rw [F2_0]; exact tk_has hj) (by rw [F2_0]; exact hD.at_ (j : Int) (by omega) (by omega) _)
theorem oopen1 {w W : World} {d pg M p q : Nat} {s u : Sn} (h : OC1 w W d pg M p q s u) :
    Calls Tryd.prog 40 #[.pointer (some ⟨d, 0, none⟩)] W fun e w' => ∃ x sg2 mb2 : Nat, e = .returned (.tuple #[.agg #[.int .i64 1, .int .i64 2], .nilIface]) ∧ DS w w' d pg M 2 2 [⟨1, true⟩, ⟨2, true⟩] 20 3 (E2 p x) 20 (F2 (p, s) (x, newS sg2 mb2)) ∧ Keeps DT W w' := by
  refine (dopen h (by decide) 1 (fun hx => by simp [hasI, Go.Maps.has, Lit.sameKey] at hx) (by decide) (by decide) (fun j hj => by
    obtain rfl : j = 0 := by omega
    rfl) (fun _ => rfl) (by decide) (by decide) (by decide) (by decide) (by decide) (by decide)).mono ?_
  rintro e w' ⟨x, sg2, mb2, rfl, h1, h2⟩
  rw [show ((1 : Nat) : Int) = 1 from rfl, F2_up1] at h1
  exact ⟨x, sg2, mb2, rfl, h1, h2⟩
theorem owaitsnew1 {w W : World} {d pg M p q x sg2 mb2 : Nat} {s u : Sn} (h : DS w W d pg M 2 2 [⟨1, true⟩, ⟨2, true⟩] 20 3 (E2 p x) 20 (F2 (p, s) (x, newS sg2 mb2))) :
    Calls Tryd.prog 45 #[.pointer (some ⟨d, 0, none⟩), .agg #[.int .i64 1, .int .i64 2]] W fun e w' => e = .returned (.tuple #[.slice none 0 0, .bool false]) ∧ DS w w' d pg M 2 2 [⟨1, true⟩, ⟨2, true⟩] 20 3 (E2 p x) 20 (F2 (p, s) (x, newS sg2 mb2)) ∧ Below W.heap.size W w' :=
  dwaits_none h (p := 1) (t := 2) rfl rfl (hasI_E2.2 (by simp)) (by rw [F2_1]; rfl)
theorem osendno1 {w W : World} {d pg M p q x sg2 mb2 : Nat} {s u : Sn} (hG : Good w) (h : DS w W d pg M 2 2 [⟨1, true⟩, ⟨2, true⟩] 20 3 (E2 p x) 20 (F2 (p, s) (x, newS sg2 mb2))) :
    Calls Tryd.prog 41 #[.pointer (some ⟨d, 0, none⟩), .agg #[.int .i64 1, .int .i64 1], .slice none 0 0] W fun e w' => ∃ k, e = .returned (.iface 179 (.pointer (some ⟨k, 0, none⟩))) ∧ Joined w' k 3 ∧ DS w w' d pg M 2 2 [⟨1, true⟩, ⟨2, true⟩] 20 3 (E2 p x) 20 (F2 (p, s) (x, newS sg2 mb2)) ∧ Below W.heap.size W w' :=
  dsend_no h hG (p := 1) (t := 1) (by decide) rfl none 0 0
end Go.Proofs.YtphaaagcdjpceaaDoor
