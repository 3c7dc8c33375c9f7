import Derived.Test.YtlnhhamfmnjapaaWa4
import Derived.Test.YtlnhhamfmnjapaaWa7
namespace Go.Proofs.Ytlnhhamfmnjapaa
open Go.RowKit Go.Proofs.YtlnhhamfmnjapaaW.PrintWords Go.Proofs.YtlnhhamfmnjapaaW.PrintLast Go.Proofs.YtlnhhamfmnjapaaW.PrintMore
open PParse
set_option linter.unusedVariables false
set_option linter.unusedSimpArgs false
def iniL : List Int := [1, 0, 0, 0, 3, 0, 0, 0, 0, 0, 0, 0, 0, 1, 0, 1, 0, 0, 0, 0, 0, 0, 0, 1, 0, 1, 0, 1, 0, 1, 0, 0, 0, 0, 0, 0, 0, 0, 0, 0, 1, 0, 1280]
theorem ini_sty : IsSty (styC iniL) (lstF iniL) := isSty_list _ rfl
theorem ini_sane : Sane (lstF iniL) := ⟨fun i _ => near_list _ (fun y hy => by simp [iniL] at hy; unfold Near; omega) i, .inl rfl⟩
theorem exec_build_ini (ρ : Operand → Value) (dst : Option Tmp) (x1 x2 x3 : Operand) (c0 c4 c20 c22 : Operand) (ty : TypeId) (pos : String) (after : Array Edge) (guard : Option (Nat × Bool)) (W : World)
    (h0 : ρ c0 = .int .i64 1) (h1 : ρ x1 = .agg #[.int .i64 1, .int .i64 0]) (h2 : ρ x2 = .agg #[.int .i64 1, .int .i64 0]) (h3 : ρ x3 = .agg #[.int .i64 1, .int .i64 0, .int .i64 1, .int .i64 0, .int .i64 1, .int .i64 0, .int .i64 1, .int .i64 0]) (h4 : ρ c20 = .int .i64 1) (h5 : ρ c4 = .int .i64 3) (h6 : ρ c22 = .int .i64 1280) :
    (execOp ρ { dst := dst, op := .build 27 #[(0, c0), (11, x1), (12, x2), (16, x3), (20, c20), (4, c4), (22, c22)], type := ty, pos := pos, after := after, guard := guard }).run Try.prog W = .ok (.value (.agg (styC iniL))) W :=
  exec_build_of ρ dst _ #[(0, ρ c0), (11, ρ x1), (12, ρ x2), (16, ρ x3), (20, ρ c20), (4, ρ c4), (22, ρ c22)] ty pos after guard W _ (by simp) (by rw [h0, h1, h2, h3, h4, h5, h6]; exact run_build W 27 _ _ (by kernel_rfl))
attribute [local go_sem ↓] exec_alloc27 exec_load27 exec_store27s exec_build_ini
attribute [local go_sem] sty_drew row_drew blkV_ptr cells_agg
theorem ini_boxes (W : World) (D : Array Value) : StyIn ((W.alloc (.cells z27 27)).alloc (.cells D 23)) W.heap.size z27 ∧
    ((W.alloc (.cells z27 27)).alloc (.cells D 23)).heap[W.heap.size + 1]? = some (.cells D 23 (0, 0)) ∧
    Below W.heap.size W ((W.alloc (.cells z27 27)).alloc (.cells D 23)) := by
  have s1 : (W.alloc (.cells z27 27)).heap.size = W.heap.size + 1 := alloc_size _ _
  have h1 : StyIn (W.alloc (.cells z27 27)) W.heap.size z27 := heap_alloc_new W _
  have h2 := heap_alloc_new (W.alloc (.cells z27 27)) (.cells D 23)
  rw [s1] at h2
  exact ⟨h1.alloc _, h2, below_alloc (below_alloc (Below.refl _ _) _) _⟩
set_option maxHeartbeats 4000000 in
set_option maxRecDepth 100000 in
theorem initial_calls (W : World) : Calls Try.prog 61 #[] W fun e W' => e = .returned (.agg (styC iniL)) ∧ Below W.heap.size W W' := by
  obtain ⟨h1, h2, h3⟩ := ini_boxes W #[.int .i64 1, .int .i64 0]
  go_enter Try.func61, Try.ntmps61
  go_upto_region 2 with (fail)
  generalize (W.alloc (.cells z27 27)).alloc (.cells #[.int .i64 1, .int .i64 0] 23) = w3 at *
  have d0 := (blk_cell h2 0).trans (show _ = some (Value.int .i64 1) from rfl)
  have d1 := (blk_cell h2 1).trans (show _ = some (Value.int .i64 0) from rfl)
  have hss := (sty_mk h1 z27_size).1
  have hok := okSty_of ini_sty
  have HS := Lib.hid h1
  have HB := Lib.hid h3
  clear h1 h2 h3
  go_wp2_with ((with_reducible refine gate_dst (N := 10) rfl ?_); refine Kd.event_run rfl (exec_build_ini _ _ _ _ _ _ _ _ _ _ _ _ _ _ rfl rfl rfl rfl rfl rfl rfl) ?_)
  refine bodyPost_ret (results_sty (p := 0) rfl _ _ W.heap.size rfl (sets_sty HS.out (z27_size.trans ini_sty.1.symm)) ini_sty.1) rfl ?_
  exact ⟨rfl, (only_sets _ _ 0 w3).below HB.out (Nat.le_refl _)⟩
set_option maxHeartbeats 4000000 in
set_option maxRecDepth 100000 in
theorem root_calls (A : Option Addr) (c : Nat) (xs : List S78) (W : World) (hc : k78.C W A xs.length xs) :
    Calls Try.prog 46 #[.slice A xs.length c] W fun e W' => ∃ CS' f', e = .returned (.agg CS') ∧ IsSty CS' f' ∧ Sane f' ∧ Below W.heap.size W W' := by
  have HC := Lib.hid hc
  clear hc
  have b1 := below_alloc (Below.refl W.heap.size W) (.cells z27 27)
  have h1 : StyIn (W.alloc (.cells z27 27)) W.heap.size z27 := heap_alloc_new W _
  have HB := Lib.hid b1
  have HR := Lib.hid h1
  clear b1 h1
  go_enter Try.func46, Try.ntmps46
  go_upto_region 1 with (fail)
  generalize W.alloc (.cells z27 27) = w1 at *
  go_upto_region 2 with (first | (go_at_call 61; (with_reducible refine (initial_calls _).mono ?_); rintro e w2 ⟨rfl, hb⟩; have HB2 := Lib.hid (below_step HB.out hb); have HR2 := Lib.hid (HR.out.below hb); clear hb) | (go_at_call 60; (with_reducible refine (style_calls _ _ ini_sty ini_sane A c xs _ (Kd.C_below HC.out HB2.out)).mono ?_); rintro e w3 ⟨CS, f, rfl, hi, hn, hb⟩; have HB3 := Lib.hid (below_step HB2.out hb); have HR3 := Lib.hid (HR2.out.below hb); have hok := okSty_of hi; have hss3 := (sty_mk (heap_alloc_new w3 (.cells z27 27)) z27_size).1; have H3 := Lib.hid (And.intro hi hn); clear hb hi hn))
  have hg : W.heap.size < w3.heap.size := blk_lt HR3.out
  have h4 := heap_alloc_new w3 (.cells z27 27)
  have hS4 : StyIn ((w3.alloc (.cells z27 27)).setCells w3.heap.size 0 CS.toList) w3.heap.size CS := sets_sty h4 (z27_size.trans H3.out.1.1.symm)
  have hO := only_sets w3.heap.size CS.toList 0 (w3.alloc (.cells z27 27))
  have hR4 : StyIn ((w3.alloc (.cells z27 27)).setCells w3.heap.size 0 CS.toList) W.heap.size z27 := (hO.block _ (by omega)).trans (HR3.out.alloc _)
  have hB4 := hO.below (below_alloc HB3.out (.cells z27 27)) (by omega)
  have hf0 := blk_frozen hS4 0
  have HS := Lib.hid hS4
  have HR4 := Lib.hid hR4
  have HB4 := Lib.hid hB4
  have HG := Lib.hid hg
  clear hS4 hO hR4 hB4 hg h4 hss3
  generalize (w3.alloc (.cells z27 27)).setCells w3.heap.size 0 CS.toList = w4 at *
  generalize w3.heap.size = g at *
  have c0 := HS.out.cell H3.out.1 0 (by decide)
  have hs3 := (sty_mk HS.out H3.out.1.1).1
  have hs4 := (sty_mk HS.out H3.out.1.1).2
  have hs5 := (sty_mk HR4.out z27_size).1
  cases e1 : (f 0 == 1)
  · cases e2 : (f 0 == 3)
    · go_wp2_with (fail)
      refine bodyPost_ret (results_sty (p := 2) rfl _ _ W.heap.size rfl (sets_sty HR4.out (z27_size.trans H3.out.1.1.symm)) H3.out.1.1) rfl ?_
      exact ⟨_, _, rfl, H3.out.1, H3.out.2, (only_sets _ _ 0 _).below HB4.out (Nat.le_refl _)⟩
    · have hz := HR4.out.far (p := ⟨g, 0, none⟩) (by show W.heap.size ≠ g; have := HG.out; omega) (.int .i64 0)
      have hi2 := H3.out.1.set 0 0
      have hn2 := H3.out.2.set 0 0 ⟨by decide, by decide⟩ (fun h => absurd h (by decide))
      have ht := HS.out.set 0 (.int .i64 0)
      generalize CS.setIfInBounds 0 (.int .i64 0) = CS2 at *
      have hs6 := (sty_mk ht hi2.1).1
      have hs7 := (sty_mk ht hi2.1).2
      have hs8 := (sty_mk hz z27_size).1
      have hok2 := okSty_of hi2
      have HZ := Lib.hid hz
      have H5 := Lib.hid (And.intro hi2 hn2)
      have HB5 := Lib.hid (below_set (j := 0) (v := .int .i64 0) HB4.out (by have := HG.out; omega : W.heap.size ≤ g))
      clear hz hi2 hn2 ht
      go_wp2_with (fail)
      refine bodyPost_ret (results_sty (p := 2) rfl _ _ W.heap.size rfl (sets_sty HZ.out (z27_size.trans H5.out.1.1.symm)) H5.out.1.1) rfl ?_
      exact ⟨_, _, rfl, H5.out.1, H5.out.2, (only_sets _ _ 0 _).below HB5.out (Nat.le_refl _)⟩
  · have hz := HR4.out.far (p := ⟨g, 0, none⟩) (by show W.heap.size ≠ g; have := HG.out; omega) (.int .i64 0)
    have hi2 := H3.out.1.set 0 0
    have hn2 := H3.out.2.set 0 0 ⟨by decide, by decide⟩ (fun h => absurd h (by decide))
    have ht := HS.out.set 0 (.int .i64 0)
    generalize CS.setIfInBounds 0 (.int .i64 0) = CS2 at *
    have hs6 := (sty_mk ht hi2.1).1
    have hs7 := (sty_mk ht hi2.1).2
    have hs8 := (sty_mk hz z27_size).1
    have hok2 := okSty_of hi2
    have HZ := Lib.hid hz
    have H5 := Lib.hid (And.intro hi2 hn2)
    have HB5 := Lib.hid (below_set (j := 0) (v := .int .i64 0) HB4.out (by have := HG.out; omega : W.heap.size ≤ g))
    clear hz hi2 hn2 ht
    go_wp2_with (fail)
    refine bodyPost_ret (results_sty (p := 2) rfl _ _ W.heap.size rfl (sets_sty HZ.out (z27_size.trans H5.out.1.1.symm)) H5.out.1.1) rfl ?_
    exact ⟨_, _, rfl, H5.out.1, H5.out.2, (only_sets _ _ 0 _).below HB5.out (Nat.le_refl _)⟩
end Go.Proofs.Ytlnhhamfmnjapaa
