/- The contract of coll.Order, of one to nineteen orders. -/
import Derived.Test.YtlcghlcpngafgaaOrd2
import Derived.Deep.LoopGhost
namespace Go.Proofs.Ytlcghlcpngafgaa
open Go.Shelf Go.RowKit Go.Lib Go.Sort Go.Proofs.YtlcghlcpngafgaaW.PrintWords Go.Proofs.YtlcghlcpngafgaaW.PrintLast Go.Proofs.YtlcghlcpngafgaaW.PrintMore
set_option linter.unusedVariables false

theorem info3 : (Try.prog.info? 3).map (fun i => (i.zero, i.size, i.bytes)) = some (some (.int .i64 0), 1, 8) := by kernel_rfl
theorem order_sort (l0 : List Int) (m : Nat) (hm : l0.length = m + 1) (hs : m < 19) (A0 : Option Addr) (c0 : Nat) (w wr : World) (v : Value) (hr0 : Kd.C (Kd.int .i64) w A0 l0.length l0)
    (HR : Kd.R (Kd.int .i64) 3 wr (w.heap.size + 1) (fun _ => True) v (idsI (m + 1))) (HB : Below (w.heap.size + 1) (w.alloc (.cells #[.slice A0 l0.length c0] 30)) wr) :
    Calls Try.prog 29 #[v, .func (.func 30) #[] #[.pointer (some ⟨w.heap.size, 0, none⟩)]] wr fun e w' => e = .returned (.tuple #[]) ∧ Kd.R (Kd.int .i64) 3 w' (w.heap.size) (fun _ => True) v ((sortedF l0 m).toList.map fun x => (x.val : Int)) ∧ Below w.heap.size w w' := by
  have hsz : w.heap.size + 1 ≤ wr.heap.size := by have := HB.size; rwa [World.size_alloc] at this
  have hrow := Kd.own_of_R HR
  rw [idsI_length] at hrow
  rcases hrow.2 with ⟨_, h0⟩ | ⟨g, cap, cur, rfl, hbase, hb, h1, h2, h3, h4⟩
  · cases h0
  have hg : g < wr.heap.size := (Array.getElem?_eq_some_iff.1 hb).1
  have hbox : wr.heap[w.heap.size]? = some (.cells #[.slice A0 l0.length c0] 30 (0, 0)) := by
    rw [HB.block w.heap.size (Nat.lt_succ_self _)]
    exact heap_alloc_new w _
  have hbel : Below w.heap.size w wr := below_then (below_alloc (Below.refl _ _) (.cells #[.slice A0 l0.length c0] 30)) (by rw [World.size_alloc]; omega) (by rw [World.size_alloc]; exact HB)
  have H : Held l0 A0 c0 w.heap.size g w wr := ⟨hr0, hbel, hbox, by omega, by omega, hg, by omega⟩
  have hc := sort_calls l0 hm A0 c0 w.heap.size g cap w wr H (idsF m) (idsF_size m) hs (holds_ids HR)
  rw [idsF_size] at hc
  refine hc.mono ?_
  rintro e w' ⟨rfl, n, rfl⟩
  refine ⟨rfl, ?_, ?_⟩
  · exact Kd.R_lower (R_sorted HR (idsI_length _) _ (sortedF_size l0 m) n) (by omega)
  · exact pw_below_grown hbel (some g) (by omega) (put_grown _) (fun k e => by cases e; omega)

set_option maxHeartbeats 4000000 in
set_option maxRecDepth 100000 in
theorem coll_Order.calls (k : Nat) (A0 : Option Addr) (c0 : Nat) (l0 : List Int) (r : List Int) (w : World) (hr0 : Kd.C (Kd.int .i64) w A0 l0.length l0) (hc0 : l0.length ≤ c0) (h : coll_Order.f k l0 = some r) :
    Calls Try.prog 17 #[.slice A0 l0.length c0] w fun e w' => ∃ v0_ : Value, e = .returned (v0_) ∧ Kd.R (Kd.int .i64) 3 w' w.heap.size (fun _ => True) v0_ r ∧ Below w.heap.size w w' := by
  unfold coll_Order.f at h
  split at h
  case isFalse => cases h
  rename_i hn
  obtain rfl := Option.some.inj h
  clear h
  obtain ⟨m, hm⟩ : ∃ m, l0.length = m + 1 := ⟨l0.length - 1, by omega⟩
  have hms : m < 19 := by omega
  have HS : ∀ wr v, Kd.R (Kd.int .i64) 3 wr (w.heap.size + 1) (fun _ => True) v (idsI (m + 1)) → Below (w.heap.size + 1) (w.alloc (.cells #[.slice A0 l0.length c0] 30)) wr → Calls Try.prog 29 #[v, .func (.func 30) #[] #[.pointer (some ⟨w.heap.size, 0, none⟩)]] wr fun e w' => e = .returned (.tuple #[]) ∧ Kd.R (Kd.int .i64) 3 w' (w.heap.size) (fun _ => True) v ((sortedF l0 m).toList.map fun x => (x.val : Int)) ∧ Below w.heap.size w w' := fun wr v a b => order_sort l0 m hm hms A0 c0 w wr v hr0 a b
  have HS := Lib.hid HS
  rw [hm, Nat.add_sub_cancel]
  generalize (sortedF l0 m).toList.map (fun x => (x.val : Int)) = X at *
  rw [hm] at HS
  clear hr0 hn hc0
  have hu30 := Try.underlying30
  go_enter Try.func17, Try.ntmps17
  go_wp2
  go_loopg [3, 4, 7] (m + 1) (fun gk v3 v4 v7 wr => ∃ i : Nat, v7 = .int .i64 (i : Int) ∧ i ≤ m + 1 ∧ m + 1 - i ≤ gk ∧ Aside0 (Kd.R (Kd.int .i64) 3 wr (w.heap.size + 1) (fun _ => True) v3 (idsI i)) ∧ Aside0 (Below (w.heap.size + 1) (w.alloc (.cells #[.slice A0 (m + 1) c0] 30)) wr))
  case atStart => exact ⟨0, rfl, by omega, by omega, ⟨Kd.R_nil _ _ _ _ _⟩, ⟨by have := Below.refl (w.heap.size + 1) (w.alloc (.cells #[.slice A0 (m + 1) c0] 30)); exact this⟩⟩
  case round =>
    obtain ⟨i, rfl, hi, hk, HR, HB⟩ := hrel
    by_cases hlt : i < m + 1
    · have hd : decide ((i : Int) < ((m + 1 : Nat) : Int)) = true := decide_eq_true (by omega)
      have hl : (idsI i).length < 17592186044416 := by rw [idsI_length]; omega
      obtain ⟨Ao3, co3, eo3⟩ := Kd.R_slice HR.out
      subst eo3
      go_wp2_with (first | ((with_reducible refine gate_builtin (b := .append) (xs := #[.tmp 10, .tmp 12]) rfl ?_); at_builtin; refine Kd.R_append (Kd.int .i64) (w0 := w.alloc (.cells #[.slice A0 (m + 1) c0] 30)) (w.heap.size + 1) rfl (.tmp 10) (.tmp 12) 30 3 (.int .i64 0) 8 rfl Try.underlying30 info3 rfl (by decide) (by omega) (.slice Ao3 (idsI i).length co3) (idsI i) (i : Int) [.int .i64 (i : Int)] (fun _ => True) (fun _ => False) rfl rfl ?aP (fun _ hk => hk.elim) ?aF ?aO ?aB ?aS ?aL ?_; (case aP => exact rfl); (case aB => exact HB.out); (case aF => exact (fun _ _ => trivial)); (case aO => exact (by (with_reducible repeat (first | apply Kd.R_alloc | apply Kd.R_drewN | apply Kd.R_drew)); exact HR.out)); (case aS => exact (by have := HB.out.size; rwa [World.size_alloc] at this)); (case aL => omega); intro v115 w8 ho hb hg hat; rw [← idsI_succ] at ho; have n0_ := Aside0.mk (hb); have n1_ := Aside0.mk (ho); clear HB; clear HR; clear ho hb hg hat))
      go_roundg (m + 1 - (i + 1))
      case measure => omega
      case rel => exact ⟨i + 1, by simp, by omega, by omega, n1_, n0_⟩
    · have hd : decide ((i : Int) < ((m + 1 : Nat) : Int)) = false := decide_eq_false (by omega)
      have hie : i = m + 1 := by omega
      subst hie
      have Hc := Lib.hid (HS.out wr u3 HR.out HB.out)
      clear HS HR HB
      go_wp2_with (first | (go_at_call 29; (with_reducible refine Hc.out.mono ?_); rintro e w' ⟨rfl, hR, hB⟩; have n0_ := Aside0.mk hR; have n1_ := Aside0.mk hB; clear hR hB))
      go_ret
      exact ⟨_, rfl, n0_.out, n1_.out⟩
end Go.Proofs.Ytlcghlcpngafgaa
