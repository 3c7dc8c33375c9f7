/- The contract of coll.Order, of none to 999 orders: the places, by orders, then places. -/
import Derived.Test.YtlcghlcpngafgaaStab6
import Derived.Test.YtlcghlcpngafgaaOrd2
import Derived.Deep.LoopGhost
namespace Go.Proofs.Ytlcghlcpngafgaa
open Go.Shelf Go.RowKit Go.Lib Go.Sort Mrg Go.Proofs.YtlcghlcpngafgaaW.PrintWords Go.Proofs.YtlcghlcpngafgaaW.PrintLast Go.Proofs.YtlcghlcpngafgaaW.PrintMore
set_option linter.unusedVariables false

theorem info3 : (Try.prog.info? 3).map (fun i => (i.zero, i.size, i.bytes)) = some (some (.int .i64 0), 1, 8) := by kernel_rfl
/-- The places, sorted; of no orders none. -/
def ordI (l : List Int) : List Int := if 0 < l.length then (sortedF l (l.length - 1)).toList.map fun x => (x.val : Int) else []
def coll_OrderA.f (k : Nat) (l : List Int) : Option (List Int) := if l.length < 999 then some (ordI l) else none
theorem coll_OrderA.mono : ∀ a0 k, LeO (coll_OrderA.f k a0) (coll_OrderA.f (k + 1) a0) := fun _ _ => LeO.refl _
theorem atA_ids {m : Nat} {i : Nat} (h : i < m + 1) : atA (idsF m) i = ⟨i, h⟩ := by
  unfold atA
  rw [getElem!_pos (idsF m) i (by rw [idsF_size]; exact h)]
  simp [idsF]
theorem asc_ids (m : Nat) : Asc pO (atA (idsF m)) 0 (m + 1) := fun i j h1 h2 h3 => by
  rw [atA_ids (show i < m + 1 by omega), atA_ids h3]
  exact h2
theorem sorted_spec (l : List Int) (m : Nat) : Srt (kO l) pO (atA (sortedF l m)) 0 (m + 1) ∧ Same (atA (idsF m)) (atA (sortedF l m)) 0 (m + 1) :=
  (ins_sort (key := kO l) (plc := pO) (ltOf (cfO l)) (ltOf_key l) 0 (m + 1) (idsF m) (Nat.zero_le _) (by rw [idsF_size]; exact Nat.le_refl _) (asc_ids m)).2
theorem sorted_only (l : List Int) (m : Nat) (d : Array (Fin (m + 1))) (hd : d.size = m + 1) (h1 : Srt (kO l) pO (atA d) 0 (m + 1)) (h2 : Same (atA (idsF m)) (atA d) 0 (m + 1)) : d = sortedF l m := by
  obtain ⟨g1, g2⟩ := sorted_spec l m
  have hs := sortedF_size l m
  have key : ∀ i, i < m + 1 → atA d i = atA (sortedF l m) i := srt_unique h1 g1 (fun i hi => by
      obtain ⟨j, _, j2, e⟩ := h2.2.1 i (Nat.zero_le _) hi
      obtain ⟨k, _, k2, e'⟩ := g2.2.2 j (Nat.zero_le _) j2
      exact ⟨k, k2, e.trans e'⟩) (fun i hi => by
      obtain ⟨j, _, j2, e⟩ := g2.2.1 i (Nat.zero_le _) hi
      obtain ⟨k, _, k2, e'⟩ := h2.2.2 j (Nat.zero_le _) j2
      exact ⟨k, k2, e.trans e'⟩)
  apply Array.ext (by omega)
  intro i p1 p2
  have := key i (by omega)
  unfold atA at this
  rw [getElem!_pos d i p1, getElem!_pos (sortedF l m) i p2] at this
  exact this
theorem orderA_sort (l0 : List Int) (m : Nat) (hm : l0.length = m + 1) (hs : m < 998) (A0 : Option Addr) (c0 : Nat) (w wr : World) (v : Value) (hr0 : Kd.C (Kd.int .i64) w A0 l0.length l0)
    (HR : Kd.R (Kd.int .i64) 3 wr (w.heap.size + 1) (fun _ => True) v (idsI (m + 1))) (HB : Below (w.heap.size + 1) (w.alloc (.cells #[.slice A0 l0.length c0] 30)) wr) :
    Calls Try.prog 29 #[v, .func (.func 30) #[] #[.pointer (some ⟨w.heap.size, 0, none⟩)]] wr fun e w' => e = .returned (.tuple #[]) ∧ Kd.R (Kd.int .i64) 3 w' (w.heap.size) (fun _ => True) v ((sortedF l0 m).toList.map fun x => (x.val : Int)) ∧ Below w.heap.size w w' := by
  have hsz : w.heap.size + 1 ≤ wr.heap.size := by have := HB.size; rwa [World.size_alloc] at this
  have hrow := Kd.own_of_R HR
  rw [idsI_length] at hrow
  rcases hrow.2 with ⟨_, h0⟩ | ⟨g, cap, cur, rfl, hbase, hb, h1, h2, h3, h4⟩
  · cases h0
  have hg : g < wr.heap.size := (Array.getElem?_eq_some_iff.1 hb).1
  have hbox : wr.heap[w.heap.size]? = some (.cells #[.slice A0 l0.length c0] 30 (0, 0)) := by
    rw [HB.block w.heap.size (Nat.lt_succ_self _)]
    exact heap_alloc_new w _
  have hbel : Below w.heap.size w wr := below_then (below_alloc (Below.refl _ _) (.cells #[.slice A0 l0.length c0] 30)) (by rw [World.size_alloc]; omega) (by rw [World.size_alloc]; exact HB)
  have H : Held l0 A0 c0 w.heap.size g w wr := ⟨hr0, hbel, hbox, by omega, by omega, hg, by omega⟩
  have hH := holds_ids HR
  have hc := sort_all l0 hm A0 c0 w.heap.size g cap (m + 1) rfl w wr wr H ⟨by omega, idsF m, idsF_size m, hH⟩ (idsF m) (idsF_size m) (At.self hH) (asc_ids m)
  refine hc.mono ?_
  rintro e w' ⟨rfl, dn, hdn, ⟨n, rfl⟩, hS, hP⟩
  obtain rfl := sorted_only l0 m dn hdn hS hP
  refine ⟨rfl, ?_, ?_⟩
  · exact Kd.R_lower (R_sorted HR (idsI_length _) _ (sortedF_size l0 m) n) (by omega)
  · exact pw_below_grown hbel (some g) (by omega) (put_grown _) (fun k e => by cases e; omega)
/-! ### no orders -/
set_option maxRecDepth 100000 in
theorem ins_none (B : Nat) (w : World) : Calls Try.prog 43 #[.slice none 0 0, .int .i64 0, .int .i64 0, .func (.func 30) #[] #[.pointer (some ⟨B, 0, none⟩)]] w fun e w' => e = .returned (.tuple #[]) ∧ w' = w := by
  go_enter Try.func43, Try.ntmps43
  go_wp2
  refine wp_loop_rounds 1 ?_
  rw [rounds_succ]
  go_wp2
  go_end0
  exact ⟨rfl, rfl⟩
set_option maxRecDepth 100000 in
theorem stable_none (B : Nat) (w : World) : Calls Try.prog 38 #[.slice none 0 0, .int .i64 0, .func (.func 30) #[] #[.pointer (some ⟨B, 0, none⟩)]] w fun e w' => e = .returned (.tuple #[]) ∧ w' = w := by
  go_enter Try.func38, Try.ntmps38
  go_wp2
  refine wp_loop_rounds 1 ?_
  rw [rounds_succ]
  go_wp2_with (go_at_call 43; (with_reducible refine (ins_none B _).mono ?_); rintro e w' ⟨rfl, rfl⟩)
  refine wp_loop_rounds 1 ?_
  rw [rounds_succ]
  go_wp2
  go_end0
  exact ⟨rfl, rfl⟩
set_option maxRecDepth 100000 in
theorem sort_none (B : Nat) (w : World) : Calls Try.prog 29 #[.slice none 0 0, .func (.func 30) #[] #[.pointer (some ⟨B, 0, none⟩)]] w fun e w' => e = .returned (.tuple #[]) ∧ w' = w := by
  go_enter Try.func29, Try.ntmps29
  go_wp2_with (go_at_call 38; (with_reducible refine (stable_none B _).mono ?_); rintro e w' ⟨rfl, rfl⟩)
  go_end0
  exact ⟨rfl, rfl⟩
set_option maxHeartbeats 1000000 in
set_option maxRecDepth 100000 in
theorem orderA_none (A0 : Option Addr) (c0 : Nat) (w : World) :
    Calls Try.prog 17 #[.slice A0 0 c0] w fun e w' => ∃ v0_ : Value, e = .returned (v0_) ∧ Kd.R (Kd.int .i64) 3 w' w.heap.size (fun _ => True) v0_ [] ∧ Below w.heap.size w w' := by
  have HB : Hid (Below w.heap.size w (w.alloc (.cells #[.slice A0 0 c0] 30))) := below_alloc (Below.refl _ _) _
  have hu30 := Try.underlying30
  go_enter Try.func17, Try.ntmps17
  go_wp2
  refine wp_loop_rounds 1 ?_
  rw [rounds_succ]
  go_wp2_with (go_at_call 29; (with_reducible refine (sort_none _ _).mono ?_); rintro e w' ⟨rfl, rfl⟩)
  go_ret
  exact ⟨_, rfl, Kd.R_nil _ _ _ _ _, HB.out⟩
set_option maxHeartbeats 4000000 in
set_option maxRecDepth 100000 in
theorem coll_OrderA.calls (k : Nat) (A0 : Option Addr) (c0 : Nat) (l0 : List Int) (r : List Int) (w : World) (hr0 : Kd.C (Kd.int .i64) w A0 l0.length l0) (hc0 : l0.length ≤ c0) (h : coll_OrderA.f k l0 = some r) :
    Calls Try.prog 17 #[.slice A0 l0.length c0] w fun e w' => ∃ v0_ : Value, e = .returned (v0_) ∧ Kd.R (Kd.int .i64) 3 w' w.heap.size (fun _ => True) v0_ r ∧ Below w.heap.size w w' := by
  unfold coll_OrderA.f ordI at h
  split at h
  case isFalse => cases h
  rename_i hn
  obtain rfl := Option.some.inj h
  clear h
  by_cases hz : 0 < l0.length
  case neg =>
    rw [if_neg hz]
    have e : l0.length = 0 := by omega
    rw [e]
    exact orderA_none A0 c0 w
  rw [if_pos hz]
  obtain ⟨m, hm⟩ : ∃ m, l0.length = m + 1 := ⟨l0.length - 1, by omega⟩
  have hms : m < 998 := by omega
  clear hz
  have HS : ∀ wr v, Kd.R (Kd.int .i64) 3 wr (w.heap.size + 1) (fun _ => True) v (idsI (m + 1)) → Below (w.heap.size + 1) (w.alloc (.cells #[.slice A0 l0.length c0] 30)) wr → Calls Try.prog 29 #[v, .func (.func 30) #[] #[.pointer (some ⟨w.heap.size, 0, none⟩)]] wr fun e w' => e = .returned (.tuple #[]) ∧ Kd.R (Kd.int .i64) 3 w' (w.heap.size) (fun _ => True) v ((sortedF l0 m).toList.map fun x => (x.val : Int)) ∧ Below w.heap.size w w' := fun wr v a b => orderA_sort l0 m hm hms A0 c0 w wr v hr0 a b
  have HS := Lib.hid HS
  rw [hm, Nat.add_sub_cancel]
  generalize (sortedF l0 m).toList.map (fun x => (x.val : Int)) = X at *
  rw [hm] at HS
  clear hr0 hn hc0
  have hu30 := Try.underlying30
  go_enter Try.func17, Try.ntmps17
  go_wp2
  go_loopg [3, 4, 7] (m + 1) (fun gk v3 v4 v7 wr => ∃ i : Nat, v7 = .int .i64 (i : Int) ∧ i ≤ m + 1 ∧ m + 1 - i ≤ gk ∧ Aside0 (Kd.R (Kd.int .i64) 3 wr (w.heap.size + 1) (fun _ => True) v3 (idsI i)) ∧ Aside0 (Below (w.heap.size + 1) (w.alloc (.cells #[.slice A0 (m + 1) c0] 30)) wr))
  case atStart => exact ⟨0, rfl, by omega, by omega, ⟨Kd.R_nil _ _ _ _ _⟩, ⟨by have := Below.refl (w.heap.size + 1) (w.alloc (.cells #[.slice A0 (m + 1) c0] 30)); exact this⟩⟩
  case round =>
    obtain ⟨i, rfl, hi, hk, HR, HB⟩ := hrel
    by_cases hlt : i < m + 1
    · have hd : decide ((i : Int) < ((m + 1 : Nat) : Int)) = true := decide_eq_true (by omega)
      have hl : (idsI i).length < 17592186044416 := by rw [idsI_length]; omega
      obtain ⟨Ao3, co3, eo3⟩ := Kd.R_slice HR.out
      subst eo3
      go_wp2_with (first | ((with_reducible refine gate_builtin (b := .append) (xs := #[.tmp 10, .tmp 12]) rfl ?_); at_builtin; refine Kd.R_append (Kd.int .i64) (w0 := w.alloc (.cells #[.slice A0 (m + 1) c0] 30)) (w.heap.size + 1) rfl (.tmp 10) (.tmp 12) 30 3 (.int .i64 0) 8 rfl Try.underlying30 info3 rfl (by decide) (by omega) (.slice Ao3 (idsI i).length co3) (idsI i) (i : Int) [.int .i64 (i : Int)] (fun _ => True) (fun _ => False) rfl rfl ?aP (fun _ hk => hk.elim) ?aF ?aO ?aB ?aS ?aL ?_; (case aP => exact rfl); (case aB => exact HB.out); (case aF => exact (fun _ _ => trivial)); (case aO => exact (by (with_reducible repeat (first | apply Kd.R_alloc | apply Kd.R_drewN | apply Kd.R_drew)); exact HR.out)); (case aS => exact (by have := HB.out.size; rwa [World.size_alloc] at this)); (case aL => omega); intro v115 w8 ho hb hg hat; rw [← idsI_succ] at ho; have n0_ := Aside0.mk (hb); have n1_ := Aside0.mk (ho); clear HB; clear HR; clear ho hb hg hat))
      go_roundg (m + 1 - (i + 1))
      case measure => omega
      case rel => exact ⟨i + 1, by simp, by omega, by omega, n1_, n0_⟩
    · have hd : decide ((i : Int) < ((m + 1 : Nat) : Int)) = false := decide_eq_false (by omega)
      have hie : i = m + 1 := by omega
      subst hie
      have Hc := Lib.hid (HS.out wr u3 HR.out HB.out)
      clear HS HR HB
      go_wp2_with (first | (go_at_call 29; (with_reducible refine Hc.out.mono ?_); rintro e w' ⟨rfl, hR, hB⟩; have n0_ := Aside0.mk hR; have n1_ := Aside0.mk hB; clear hR hB))
      go_ret
      exact ⟨_, rfl, n0_.out, n1_.out⟩
end Go.Proofs.Ytlcghlcpngafgaa
