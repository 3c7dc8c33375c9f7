import Derived.Test.YtlnhhamfmnjapaaWa5
namespace Go.Proofs.Ytlnhhamfmnjapaa
open Go.RowKit Go.Proofs.YtlnhhamfmnjapaaW.PrintWords Go.Proofs.YtlnhhamfmnjapaaW.PrintLast Go.Proofs.YtlnhhamfmnjapaaW.PrintMore
set_option linter.unusedVariables false
set_option linter.unusedSimpArgs false
attribute [local go_sem ↓] exec_alloc27
set_option maxHeartbeats 2000000 in
set_option maxRecDepth 100000 in
theorem laid_1 (CS : Array Value) (f : Nat → Int) (hs : IsSty CS f) (w q n : Int) (W : World) : Calls Try.prog 70 #[.agg CS, .agg #[.int .i64 1, .int .i64 w, .int .i64 q, .int .i64 n]] W fun e W' => e = .returned (.agg (CS.setIfInBounds 0 (.int .i64 w))) ∧ Below W.heap.size W W' := by
  obtain ⟨h1, h2, h3, h4⟩ := laid_boxes W CS #[.int .i64 1, .int .i64 w, .int .i64 q, .int .i64 n]
  go_enter Try.func70, Try.ntmps70
  go_upto_region 1 with (fail)
  generalize ((W.alloc (.cells CS 27)).alloc (.cells #[.int .i64 1, .int .i64 w, .int .i64 q, .int .i64 n] 78)).alloc (.cells z27 27) = w3 at *
  have HS := Lib.hid h1
  have HR := Lib.hid h3
  have HB := Lib.hid h4
  have d0 := (blk_cell h2 0).trans (show _ = some (Value.int .i64 1) from rfl)
  have d1 := (blk_cell h2 1).trans (show _ = some (Value.int .i64 w) from rfl)
  have d2 := (blk_cell h2 2).trans (show _ = some (Value.int .i64 q) from rfl)
  have d3 := (blk_cell h2 3).trans (show _ = some (Value.int .i64 n) from rfl)
  have c0 := HS.out.cell hs 0 (by decide)
  have fz0 := blk_frozen HS.out 0
  clear h1 h2 h3 h4
  go_wp2_with (first | ((with_reducible refine gate_dst (N := 146) rfl ?_); refine load27_ev (g := W.heap.size) rfl rfl rfl (HS.out.set 0 _) (hs.set 0 w).1 ?_) | ((with_reducible refine gate_store (t := 27) (p := 4) rfl ?_); refine store27_ev (g := W.heap.size + 1 + 1) rfl rfl rfl rfl (CS := (CS.setIfInBounds 0 (.int .i64 w))) (HR.out.far (p := ⟨W.heap.size, 0, none⟩) (by show W.heap.size + 1 + 1 ≠ W.heap.size; omega) _) z27_size (hs.set 0 w) ?_; intro w9 hR hO; have HR9 := Lib.hid hR; have HB9 := Lib.hid (hO.below (below_set HB.out (Nat.le_refl _)) (by omega)); clear hR hO))
  refine bodyPost_ret (results_sty (p := 4) rfl _ _ (W.heap.size + 1 + 1) rfl HR9.out (hs.set 0 w).1) rfl ?_
  exact ⟨rfl, HB9.out⟩
set_option maxHeartbeats 2000000 in
set_option maxRecDepth 100000 in
theorem laid_2 (CS : Array Value) (f : Nat → Int) (hs : IsSty CS f) (w q n : Int) (W : World) : Calls Try.prog 70 #[.agg CS, .agg #[.int .i64 2, .int .i64 w, .int .i64 q, .int .i64 n]] W fun e W' => e = .returned (.agg ((CS.setIfInBounds 9 (.int .i64 q)).setIfInBounds 10 (.int .i64 n))) ∧ Below W.heap.size W W' := by
  obtain ⟨h1, h2, h3, h4⟩ := laid_boxes W CS #[.int .i64 2, .int .i64 w, .int .i64 q, .int .i64 n]
  go_enter Try.func70, Try.ntmps70
  go_upto_region 1 with (fail)
  generalize ((W.alloc (.cells CS 27)).alloc (.cells #[.int .i64 2, .int .i64 w, .int .i64 q, .int .i64 n] 78)).alloc (.cells z27 27) = w3 at *
  have HS := Lib.hid h1
  have HR := Lib.hid h3
  have HB := Lib.hid h4
  have d0 := (blk_cell h2 0).trans (show _ = some (Value.int .i64 2) from rfl)
  have d1 := (blk_cell h2 1).trans (show _ = some (Value.int .i64 w) from rfl)
  have d2 := (blk_cell h2 2).trans (show _ = some (Value.int .i64 q) from rfl)
  have d3 := (blk_cell h2 3).trans (show _ = some (Value.int .i64 n) from rfl)
  have c9 := HS.out.cell hs 9 (by decide)
  have c10 := HS.out.cell hs 10 (by decide)
  have fz9 := blk_frozen HS.out 9
  have fz10 := blk_frozen HS.out 10
  clear h1 h2 h3 h4
  go_wp2_with (first | ((with_reducible refine gate_dst (N := 146) rfl ?_); refine load27_ev (g := W.heap.size) rfl rfl rfl ((HS.out.set 9 _).set 10 _) ((hs.set 9 q).set 10 n).1 ?_) | ((with_reducible refine gate_store (t := 27) (p := 4) rfl ?_); refine store27_ev (g := W.heap.size + 1 + 1) rfl rfl rfl rfl (CS := ((CS.setIfInBounds 9 (.int .i64 q)).setIfInBounds 10 (.int .i64 n))) ((HR.out.far (p := ⟨W.heap.size, 9, none⟩) (by show W.heap.size + 1 + 1 ≠ W.heap.size; omega) _).far (p := ⟨W.heap.size, 10, none⟩) (by show W.heap.size + 1 + 1 ≠ W.heap.size; omega) _) z27_size ((hs.set 9 q).set 10 n) ?_; intro w9 hR hO; have HR9 := Lib.hid hR; have HB9 := Lib.hid (hO.below (below_set (below_set HB.out (Nat.le_refl _)) (Nat.le_refl _)) (by omega)); clear hR hO))
  refine bodyPost_ret (results_sty (p := 4) rfl _ _ (W.heap.size + 1 + 1) rfl HR9.out ((hs.set 9 q).set 10 n).1) rfl ?_
  exact ⟨rfl, HB9.out⟩
set_option maxHeartbeats 2000000 in
set_option maxRecDepth 100000 in
theorem laid_3 (CS : Array Value) (f : Nat → Int) (hs : IsSty CS f) (w q n : Int) (W : World) : Calls Try.prog 70 #[.agg CS, .agg #[.int .i64 3, .int .i64 w, .int .i64 q, .int .i64 n]] W fun e W' => e = .returned (.agg ((CS.setIfInBounds 11 (.int .i64 q)).setIfInBounds 12 (.int .i64 n))) ∧ Below W.heap.size W W' := by
  obtain ⟨h1, h2, h3, h4⟩ := laid_boxes W CS #[.int .i64 3, .int .i64 w, .int .i64 q, .int .i64 n]
  go_enter Try.func70, Try.ntmps70
  go_upto_region 1 with (fail)
  generalize ((W.alloc (.cells CS 27)).alloc (.cells #[.int .i64 3, .int .i64 w, .int .i64 q, .int .i64 n] 78)).alloc (.cells z27 27) = w3 at *
  have HS := Lib.hid h1
  have HR := Lib.hid h3
  have HB := Lib.hid h4
  have d0 := (blk_cell h2 0).trans (show _ = some (Value.int .i64 3) from rfl)
  have d1 := (blk_cell h2 1).trans (show _ = some (Value.int .i64 w) from rfl)
  have d2 := (blk_cell h2 2).trans (show _ = some (Value.int .i64 q) from rfl)
  have d3 := (blk_cell h2 3).trans (show _ = some (Value.int .i64 n) from rfl)
  have c11 := HS.out.cell hs 11 (by decide)
  have c12 := HS.out.cell hs 12 (by decide)
  have fz11 := blk_frozen HS.out 11
  have fz12 := blk_frozen HS.out 12
  clear h1 h2 h3 h4
  go_wp2_with (first | ((with_reducible refine gate_dst (N := 146) rfl ?_); refine load27_ev (g := W.heap.size) rfl rfl rfl ((HS.out.set 11 _).set 12 _) ((hs.set 11 q).set 12 n).1 ?_) | ((with_reducible refine gate_store (t := 27) (p := 4) rfl ?_); refine store27_ev (g := W.heap.size + 1 + 1) rfl rfl rfl rfl (CS := ((CS.setIfInBounds 11 (.int .i64 q)).setIfInBounds 12 (.int .i64 n))) ((HR.out.far (p := ⟨W.heap.size, 11, none⟩) (by show W.heap.size + 1 + 1 ≠ W.heap.size; omega) _).far (p := ⟨W.heap.size, 12, none⟩) (by show W.heap.size + 1 + 1 ≠ W.heap.size; omega) _) z27_size ((hs.set 11 q).set 12 n) ?_; intro w9 hR hO; have HR9 := Lib.hid hR; have HB9 := Lib.hid (hO.below (below_set (below_set HB.out (Nat.le_refl _)) (Nat.le_refl _)) (by omega)); clear hR hO))
  refine bodyPost_ret (results_sty (p := 4) rfl _ _ (W.heap.size + 1 + 1) rfl HR9.out ((hs.set 11 q).set 12 n).1) rfl ?_
  exact ⟨rfl, HB9.out⟩
set_option maxHeartbeats 2000000 in
set_option maxRecDepth 100000 in
theorem laid_4 (CS : Array Value) (f : Nat → Int) (hs : IsSty CS f) (w q n : Int) (W : World) : Calls Try.prog 70 #[.agg CS, .agg #[.int .i64 4, .int .i64 w, .int .i64 q, .int .i64 n]] W fun e W' => e = .returned (.agg ((CS.setIfInBounds 13 (.int .i64 q)).setIfInBounds 14 (.int .i64 n))) ∧ Below W.heap.size W W' := by
  obtain ⟨h1, h2, h3, h4⟩ := laid_boxes W CS #[.int .i64 4, .int .i64 w, .int .i64 q, .int .i64 n]
  go_enter Try.func70, Try.ntmps70
  go_upto_region 1 with (fail)
  generalize ((W.alloc (.cells CS 27)).alloc (.cells #[.int .i64 4, .int .i64 w, .int .i64 q, .int .i64 n] 78)).alloc (.cells z27 27) = w3 at *
  have HS := Lib.hid h1
  have HR := Lib.hid h3
  have HB := Lib.hid h4
  have d0 := (blk_cell h2 0).trans (show _ = some (Value.int .i64 4) from rfl)
  have d1 := (blk_cell h2 1).trans (show _ = some (Value.int .i64 w) from rfl)
  have d2 := (blk_cell h2 2).trans (show _ = some (Value.int .i64 q) from rfl)
  have d3 := (blk_cell h2 3).trans (show _ = some (Value.int .i64 n) from rfl)
  have c13 := HS.out.cell hs 13 (by decide)
  have c14 := HS.out.cell hs 14 (by decide)
  have fz13 := blk_frozen HS.out 13
  have fz14 := blk_frozen HS.out 14
  clear h1 h2 h3 h4
  go_wp2_with (first | ((with_reducible refine gate_dst (N := 146) rfl ?_); refine load27_ev (g := W.heap.size) rfl rfl rfl ((HS.out.set 13 _).set 14 _) ((hs.set 13 q).set 14 n).1 ?_) | ((with_reducible refine gate_store (t := 27) (p := 4) rfl ?_); refine store27_ev (g := W.heap.size + 1 + 1) rfl rfl rfl rfl (CS := ((CS.setIfInBounds 13 (.int .i64 q)).setIfInBounds 14 (.int .i64 n))) ((HR.out.far (p := ⟨W.heap.size, 13, none⟩) (by show W.heap.size + 1 + 1 ≠ W.heap.size; omega) _).far (p := ⟨W.heap.size, 14, none⟩) (by show W.heap.size + 1 + 1 ≠ W.heap.size; omega) _) z27_size ((hs.set 13 q).set 14 n) ?_; intro w9 hR hO; have HR9 := Lib.hid hR; have HB9 := Lib.hid (hO.below (below_set (below_set HB.out (Nat.le_refl _)) (Nat.le_refl _)) (by omega)); clear hR hO))
  refine bodyPost_ret (results_sty (p := 4) rfl _ _ (W.heap.size + 1 + 1) rfl HR9.out ((hs.set 13 q).set 14 n).1) rfl ?_
  exact ⟨rfl, HB9.out⟩
set_option maxHeartbeats 2000000 in
set_option maxRecDepth 100000 in
theorem laid_5 (CS : Array Value) (f : Nat → Int) (hs : IsSty CS f) (w q n : Int) (W : World) : Calls Try.prog 70 #[.agg CS, .agg #[.int .i64 5, .int .i64 w, .int .i64 q, .int .i64 n]] W fun e W' => e = .returned (.agg ((CS.setIfInBounds 15 (.int .i64 q)).setIfInBounds 16 (.int .i64 n))) ∧ Below W.heap.size W W' := by
  obtain ⟨h1, h2, h3, h4⟩ := laid_boxes W CS #[.int .i64 5, .int .i64 w, .int .i64 q, .int .i64 n]
  go_enter Try.func70, Try.ntmps70
  go_upto_region 1 with (fail)
  generalize ((W.alloc (.cells CS 27)).alloc (.cells #[.int .i64 5, .int .i64 w, .int .i64 q, .int .i64 n] 78)).alloc (.cells z27 27) = w3 at *
  have HS := Lib.hid h1
  have HR := Lib.hid h3
  have HB := Lib.hid h4
  have d0 := (blk_cell h2 0).trans (show _ = some (Value.int .i64 5) from rfl)
  have d1 := (blk_cell h2 1).trans (show _ = some (Value.int .i64 w) from rfl)
  have d2 := (blk_cell h2 2).trans (show _ = some (Value.int .i64 q) from rfl)
  have d3 := (blk_cell h2 3).trans (show _ = some (Value.int .i64 n) from rfl)
  have c15 := HS.out.cell hs 15 (by decide)
  have c16 := HS.out.cell hs 16 (by decide)
  have fz15 := blk_frozen HS.out 15
  have fz16 := blk_frozen HS.out 16
  clear h1 h2 h3 h4
  go_wp2_with (first | ((with_reducible refine gate_dst (N := 146) rfl ?_); refine load27_ev (g := W.heap.size) rfl rfl rfl ((HS.out.set 15 _).set 16 _) ((hs.set 15 q).set 16 n).1 ?_) | ((with_reducible refine gate_store (t := 27) (p := 4) rfl ?_); refine store27_ev (g := W.heap.size + 1 + 1) rfl rfl rfl rfl (CS := ((CS.setIfInBounds 15 (.int .i64 q)).setIfInBounds 16 (.int .i64 n))) ((HR.out.far (p := ⟨W.heap.size, 15, none⟩) (by show W.heap.size + 1 + 1 ≠ W.heap.size; omega) _).far (p := ⟨W.heap.size, 16, none⟩) (by show W.heap.size + 1 + 1 ≠ W.heap.size; omega) _) z27_size ((hs.set 15 q).set 16 n) ?_; intro w9 hR hO; have HR9 := Lib.hid hR; have HB9 := Lib.hid (hO.below (below_set (below_set HB.out (Nat.le_refl _)) (Nat.le_refl _)) (by omega)); clear hR hO))
  refine bodyPost_ret (results_sty (p := 4) rfl _ _ (W.heap.size + 1 + 1) rfl HR9.out ((hs.set 15 q).set 16 n).1) rfl ?_
  exact ⟨rfl, HB9.out⟩
set_option maxHeartbeats 2000000 in
set_option maxRecDepth 100000 in
theorem laid_6 (CS : Array Value) (f : Nat → Int) (hs : IsSty CS f) (w q n : Int) (W : World) : Calls Try.prog 70 #[.agg CS, .agg #[.int .i64 6, .int .i64 w, .int .i64 q, .int .i64 n]] W fun e W' => e = .returned (.agg ((CS.setIfInBounds 17 (.int .i64 q)).setIfInBounds 18 (.int .i64 n))) ∧ Below W.heap.size W W' := by
  obtain ⟨h1, h2, h3, h4⟩ := laid_boxes W CS #[.int .i64 6, .int .i64 w, .int .i64 q, .int .i64 n]
  go_enter Try.func70, Try.ntmps70
  go_upto_region 1 with (fail)
  generalize ((W.alloc (.cells CS 27)).alloc (.cells #[.int .i64 6, .int .i64 w, .int .i64 q, .int .i64 n] 78)).alloc (.cells z27 27) = w3 at *
  have HS := Lib.hid h1
  have HR := Lib.hid h3
  have HB := Lib.hid h4
  have d0 := (blk_cell h2 0).trans (show _ = some (Value.int .i64 6) from rfl)
  have d1 := (blk_cell h2 1).trans (show _ = some (Value.int .i64 w) from rfl)
  have d2 := (blk_cell h2 2).trans (show _ = some (Value.int .i64 q) from rfl)
  have d3 := (blk_cell h2 3).trans (show _ = some (Value.int .i64 n) from rfl)
  have c17 := HS.out.cell hs 17 (by decide)
  have c18 := HS.out.cell hs 18 (by decide)
  have fz17 := blk_frozen HS.out 17
  have fz18 := blk_frozen HS.out 18
  clear h1 h2 h3 h4
  go_wp2_with (first | ((with_reducible refine gate_dst (N := 146) rfl ?_); refine load27_ev (g := W.heap.size) rfl rfl rfl ((HS.out.set 17 _).set 18 _) ((hs.set 17 q).set 18 n).1 ?_) | ((with_reducible refine gate_store (t := 27) (p := 4) rfl ?_); refine store27_ev (g := W.heap.size + 1 + 1) rfl rfl rfl rfl (CS := ((CS.setIfInBounds 17 (.int .i64 q)).setIfInBounds 18 (.int .i64 n))) ((HR.out.far (p := ⟨W.heap.size, 17, none⟩) (by show W.heap.size + 1 + 1 ≠ W.heap.size; omega) _).far (p := ⟨W.heap.size, 18, none⟩) (by show W.heap.size + 1 + 1 ≠ W.heap.size; omega) _) z27_size ((hs.set 17 q).set 18 n) ?_; intro w9 hR hO; have HR9 := Lib.hid hR; have HB9 := Lib.hid (hO.below (below_set (below_set HB.out (Nat.le_refl _)) (Nat.le_refl _)) (by omega)); clear hR hO))
  refine bodyPost_ret (results_sty (p := 4) rfl _ _ (W.heap.size + 1 + 1) rfl HR9.out ((hs.set 17 q).set 18 n).1) rfl ?_
  exact ⟨rfl, HB9.out⟩
set_option maxHeartbeats 2000000 in
set_option maxRecDepth 100000 in
theorem laid_7 (CS : Array Value) (f : Nat → Int) (hs : IsSty CS f) (w q n : Int) (W : World) : Calls Try.prog 70 #[.agg CS, .agg #[.int .i64 7, .int .i64 w, .int .i64 q, .int .i64 n]] W fun e W' => e = .returned (.agg ((CS.setIfInBounds 19 (.int .i64 q)).setIfInBounds 20 (.int .i64 n))) ∧ Below W.heap.size W W' := by
  obtain ⟨h1, h2, h3, h4⟩ := laid_boxes W CS #[.int .i64 7, .int .i64 w, .int .i64 q, .int .i64 n]
  go_enter Try.func70, Try.ntmps70
  go_upto_region 1 with (fail)
  generalize ((W.alloc (.cells CS 27)).alloc (.cells #[.int .i64 7, .int .i64 w, .int .i64 q, .int .i64 n] 78)).alloc (.cells z27 27) = w3 at *
  have HS := Lib.hid h1
  have HR := Lib.hid h3
  have HB := Lib.hid h4
  have d0 := (blk_cell h2 0).trans (show _ = some (Value.int .i64 7) from rfl)
  have d1 := (blk_cell h2 1).trans (show _ = some (Value.int .i64 w) from rfl)
  have d2 := (blk_cell h2 2).trans (show _ = some (Value.int .i64 q) from rfl)
  have d3 := (blk_cell h2 3).trans (show _ = some (Value.int .i64 n) from rfl)
  have c19 := HS.out.cell hs 19 (by decide)
  have c20 := HS.out.cell hs 20 (by decide)
  have fz19 := blk_frozen HS.out 19
  have fz20 := blk_frozen HS.out 20
  clear h1 h2 h3 h4
  go_wp2_with (first | ((with_reducible refine gate_dst (N := 146) rfl ?_); refine load27_ev (g := W.heap.size) rfl rfl rfl ((HS.out.set 19 _).set 20 _) ((hs.set 19 q).set 20 n).1 ?_) | ((with_reducible refine gate_store (t := 27) (p := 4) rfl ?_); refine store27_ev (g := W.heap.size + 1 + 1) rfl rfl rfl rfl (CS := ((CS.setIfInBounds 19 (.int .i64 q)).setIfInBounds 20 (.int .i64 n))) ((HR.out.far (p := ⟨W.heap.size, 19, none⟩) (by show W.heap.size + 1 + 1 ≠ W.heap.size; omega) _).far (p := ⟨W.heap.size, 20, none⟩) (by show W.heap.size + 1 + 1 ≠ W.heap.size; omega) _) z27_size ((hs.set 19 q).set 20 n) ?_; intro w9 hR hO; have HR9 := Lib.hid hR; have HB9 := Lib.hid (hO.below (below_set (below_set HB.out (Nat.le_refl _)) (Nat.le_refl _)) (by omega)); clear hR hO))
  refine bodyPost_ret (results_sty (p := 4) rfl _ _ (W.heap.size + 1 + 1) rfl HR9.out ((hs.set 19 q).set 20 n).1) rfl ?_
  exact ⟨rfl, HB9.out⟩
set_option maxHeartbeats 2000000 in
set_option maxRecDepth 100000 in
theorem laid_8 (CS : Array Value) (f : Nat → Int) (hs : IsSty CS f) (w q n : Int) (W : World) : Calls Try.prog 70 #[.agg CS, .agg #[.int .i64 8, .int .i64 w, .int .i64 q, .int .i64 n]] W fun e W' => e = .returned (.agg ((CS.setIfInBounds 23 (.int .i64 q)).setIfInBounds 24 (.int .i64 n))) ∧ Below W.heap.size W W' := by
  obtain ⟨h1, h2, h3, h4⟩ := laid_boxes W CS #[.int .i64 8, .int .i64 w, .int .i64 q, .int .i64 n]
  go_enter Try.func70, Try.ntmps70
  go_upto_region 1 with (fail)
  generalize ((W.alloc (.cells CS 27)).alloc (.cells #[.int .i64 8, .int .i64 w, .int .i64 q, .int .i64 n] 78)).alloc (.cells z27 27) = w3 at *
  have HS := Lib.hid h1
  have HR := Lib.hid h3
  have HB := Lib.hid h4
  have d0 := (blk_cell h2 0).trans (show _ = some (Value.int .i64 8) from rfl)
  have d1 := (blk_cell h2 1).trans (show _ = some (Value.int .i64 w) from rfl)
  have d2 := (blk_cell h2 2).trans (show _ = some (Value.int .i64 q) from rfl)
  have d3 := (blk_cell h2 3).trans (show _ = some (Value.int .i64 n) from rfl)
  have c23 := HS.out.cell hs 23 (by decide)
  have c24 := HS.out.cell hs 24 (by decide)
  have fz23 := blk_frozen HS.out 23
  have fz24 := blk_frozen HS.out 24
  clear h1 h2 h3 h4
  go_wp2_with (first | ((with_reducible refine gate_dst (N := 146) rfl ?_); refine load27_ev (g := W.heap.size) rfl rfl rfl ((HS.out.set 23 _).set 24 _) ((hs.set 23 q).set 24 n).1 ?_) | ((with_reducible refine gate_store (t := 27) (p := 4) rfl ?_); refine store27_ev (g := W.heap.size + 1 + 1) rfl rfl rfl rfl (CS := ((CS.setIfInBounds 23 (.int .i64 q)).setIfInBounds 24 (.int .i64 n))) ((HR.out.far (p := ⟨W.heap.size, 23, none⟩) (by show W.heap.size + 1 + 1 ≠ W.heap.size; omega) _).far (p := ⟨W.heap.size, 24, none⟩) (by show W.heap.size + 1 + 1 ≠ W.heap.size; omega) _) z27_size ((hs.set 23 q).set 24 n) ?_; intro w9 hR hO; have HR9 := Lib.hid hR; have HB9 := Lib.hid (hO.below (below_set (below_set HB.out (Nat.le_refl _)) (Nat.le_refl _)) (by omega)); clear hR hO))
  refine bodyPost_ret (results_sty (p := 4) rfl _ _ (W.heap.size + 1 + 1) rfl HR9.out ((hs.set 23 q).set 24 n).1) rfl ?_
  exact ⟨rfl, HB9.out⟩
set_option maxHeartbeats 2000000 in
set_option maxRecDepth 100000 in
theorem laid_9 (CS : Array Value) (f : Nat → Int) (hs : IsSty CS f) (w q n : Int) (W : World) : Calls Try.prog 70 #[.agg CS, .agg #[.int .i64 9, .int .i64 w, .int .i64 q, .int .i64 n]] W fun e W' => e = .returned (.agg ((CS.setIfInBounds 25 (.int .i64 q)).setIfInBounds 26 (.int .i64 n))) ∧ Below W.heap.size W W' := by
  obtain ⟨h1, h2, h3, h4⟩ := laid_boxes W CS #[.int .i64 9, .int .i64 w, .int .i64 q, .int .i64 n]
  go_enter Try.func70, Try.ntmps70
  go_upto_region 1 with (fail)
  generalize ((W.alloc (.cells CS 27)).alloc (.cells #[.int .i64 9, .int .i64 w, .int .i64 q, .int .i64 n] 78)).alloc (.cells z27 27) = w3 at *
  have HS := Lib.hid h1
  have HR := Lib.hid h3
  have HB := Lib.hid h4
  have d0 := (blk_cell h2 0).trans (show _ = some (Value.int .i64 9) from rfl)
  have d1 := (blk_cell h2 1).trans (show _ = some (Value.int .i64 w) from rfl)
  have d2 := (blk_cell h2 2).trans (show _ = some (Value.int .i64 q) from rfl)
  have d3 := (blk_cell h2 3).trans (show _ = some (Value.int .i64 n) from rfl)
  have c25 := HS.out.cell hs 25 (by decide)
  have c26 := HS.out.cell hs 26 (by decide)
  have fz25 := blk_frozen HS.out 25
  have fz26 := blk_frozen HS.out 26
  clear h1 h2 h3 h4
  go_wp2_with (first | ((with_reducible refine gate_dst (N := 146) rfl ?_); refine load27_ev (g := W.heap.size) rfl rfl rfl ((HS.out.set 25 _).set 26 _) ((hs.set 25 q).set 26 n).1 ?_) | ((with_reducible refine gate_store (t := 27) (p := 4) rfl ?_); refine store27_ev (g := W.heap.size + 1 + 1) rfl rfl rfl rfl (CS := ((CS.setIfInBounds 25 (.int .i64 q)).setIfInBounds 26 (.int .i64 n))) ((HR.out.far (p := ⟨W.heap.size, 25, none⟩) (by show W.heap.size + 1 + 1 ≠ W.heap.size; omega) _).far (p := ⟨W.heap.size, 26, none⟩) (by show W.heap.size + 1 + 1 ≠ W.heap.size; omega) _) z27_size ((hs.set 25 q).set 26 n) ?_; intro w9 hR hO; have HR9 := Lib.hid hR; have HB9 := Lib.hid (hO.below (below_set (below_set HB.out (Nat.le_refl _)) (Nat.le_refl _)) (by omega)); clear hR hO))
  refine bodyPost_ret (results_sty (p := 4) rfl _ _ (W.heap.size + 1 + 1) rfl HR9.out ((hs.set 25 q).set 26 n).1) rfl ?_
  exact ⟨rfl, HB9.out⟩
set_option maxHeartbeats 2000000 in
set_option maxRecDepth 100000 in
theorem laid_10 (CS : Array Value) (f : Nat → Int) (hs : IsSty CS f) (w q n : Int) (W : World) : Calls Try.prog 70 #[.agg CS, .agg #[.int .i64 10, .int .i64 w, .int .i64 q, .int .i64 n]] W fun e W' => e = .returned (.agg ((CS.setIfInBounds 27 (.int .i64 q)).setIfInBounds 28 (.int .i64 n))) ∧ Below W.heap.size W W' := by
  obtain ⟨h1, h2, h3, h4⟩ := laid_boxes W CS #[.int .i64 10, .int .i64 w, .int .i64 q, .int .i64 n]
  go_enter Try.func70, Try.ntmps70
  go_upto_region 1 with (fail)
  generalize ((W.alloc (.cells CS 27)).alloc (.cells #[.int .i64 10, .int .i64 w, .int .i64 q, .int .i64 n] 78)).alloc (.cells z27 27) = w3 at *
  have HS := Lib.hid h1
  have HR := Lib.hid h3
  have HB := Lib.hid h4
  have d0 := (blk_cell h2 0).trans (show _ = some (Value.int .i64 10) from rfl)
  have d1 := (blk_cell h2 1).trans (show _ = some (Value.int .i64 w) from rfl)
  have d2 := (blk_cell h2 2).trans (show _ = some (Value.int .i64 q) from rfl)
  have d3 := (blk_cell h2 3).trans (show _ = some (Value.int .i64 n) from rfl)
  have c27 := HS.out.cell hs 27 (by decide)
  have c28 := HS.out.cell hs 28 (by decide)
  have fz27 := blk_frozen HS.out 27
  have fz28 := blk_frozen HS.out 28
  clear h1 h2 h3 h4
  go_wp2_with (first | ((with_reducible refine gate_dst (N := 146) rfl ?_); refine load27_ev (g := W.heap.size) rfl rfl rfl ((HS.out.set 27 _).set 28 _) ((hs.set 27 q).set 28 n).1 ?_) | ((with_reducible refine gate_store (t := 27) (p := 4) rfl ?_); refine store27_ev (g := W.heap.size + 1 + 1) rfl rfl rfl rfl (CS := ((CS.setIfInBounds 27 (.int .i64 q)).setIfInBounds 28 (.int .i64 n))) ((HR.out.far (p := ⟨W.heap.size, 27, none⟩) (by show W.heap.size + 1 + 1 ≠ W.heap.size; omega) _).far (p := ⟨W.heap.size, 28, none⟩) (by show W.heap.size + 1 + 1 ≠ W.heap.size; omega) _) z27_size ((hs.set 27 q).set 28 n) ?_; intro w9 hR hO; have HR9 := Lib.hid hR; have HB9 := Lib.hid (hO.below (below_set (below_set HB.out (Nat.le_refl _)) (Nat.le_refl _)) (by omega)); clear hR hO))
  refine bodyPost_ret (results_sty (p := 4) rfl _ _ (W.heap.size + 1 + 1) rfl HR9.out ((hs.set 27 q).set 28 n).1) rfl ?_
  exact ⟨rfl, HB9.out⟩
set_option maxHeartbeats 2000000 in
set_option maxRecDepth 100000 in
theorem laid_11 (CS : Array Value) (f : Nat → Int) (hs : IsSty CS f) (w q n : Int) (W : World) : Calls Try.prog 70 #[.agg CS, .agg #[.int .i64 11, .int .i64 w, .int .i64 q, .int .i64 n]] W fun e W' => e = .returned (.agg ((CS.setIfInBounds 29 (.int .i64 q)).setIfInBounds 30 (.int .i64 n))) ∧ Below W.heap.size W W' := by
  obtain ⟨h1, h2, h3, h4⟩ := laid_boxes W CS #[.int .i64 11, .int .i64 w, .int .i64 q, .int .i64 n]
  go_enter Try.func70, Try.ntmps70
  go_upto_region 1 with (fail)
  generalize ((W.alloc (.cells CS 27)).alloc (.cells #[.int .i64 11, .int .i64 w, .int .i64 q, .int .i64 n] 78)).alloc (.cells z27 27) = w3 at *
  have HS := Lib.hid h1
  have HR := Lib.hid h3
  have HB := Lib.hid h4
  have d0 := (blk_cell h2 0).trans (show _ = some (Value.int .i64 11) from rfl)
  have d1 := (blk_cell h2 1).trans (show _ = some (Value.int .i64 w) from rfl)
  have d2 := (blk_cell h2 2).trans (show _ = some (Value.int .i64 q) from rfl)
  have d3 := (blk_cell h2 3).trans (show _ = some (Value.int .i64 n) from rfl)
  have c29 := HS.out.cell hs 29 (by decide)
  have c30 := HS.out.cell hs 30 (by decide)
  have fz29 := blk_frozen HS.out 29
  have fz30 := blk_frozen HS.out 30
  clear h1 h2 h3 h4
  go_wp2_with (first | ((with_reducible refine gate_dst (N := 146) rfl ?_); refine load27_ev (g := W.heap.size) rfl rfl rfl ((HS.out.set 29 _).set 30 _) ((hs.set 29 q).set 30 n).1 ?_) | ((with_reducible refine gate_store (t := 27) (p := 4) rfl ?_); refine store27_ev (g := W.heap.size + 1 + 1) rfl rfl rfl rfl (CS := ((CS.setIfInBounds 29 (.int .i64 q)).setIfInBounds 30 (.int .i64 n))) ((HR.out.far (p := ⟨W.heap.size, 29, none⟩) (by show W.heap.size + 1 + 1 ≠ W.heap.size; omega) _).far (p := ⟨W.heap.size, 30, none⟩) (by show W.heap.size + 1 + 1 ≠ W.heap.size; omega) _) z27_size ((hs.set 29 q).set 30 n) ?_; intro w9 hR hO; have HR9 := Lib.hid hR; have HB9 := Lib.hid (hO.below (below_set (below_set HB.out (Nat.le_refl _)) (Nat.le_refl _)) (by omega)); clear hR hO))
  refine bodyPost_ret (results_sty (p := 4) rfl _ _ (W.heap.size + 1 + 1) rfl HR9.out ((hs.set 29 q).set 30 n).1) rfl ?_
  exact ⟨rfl, HB9.out⟩
set_option maxHeartbeats 2000000 in
set_option maxRecDepth 100000 in
theorem laid_12 (CS : Array Value) (f : Nat → Int) (hs : IsSty CS f) (w q n : Int) (W : World) : Calls Try.prog 70 #[.agg CS, .agg #[.int .i64 12, .int .i64 w, .int .i64 q, .int .i64 n]] W fun e W' => e = .returned (.agg (CS.setIfInBounds 31 (.int .i64 n))) ∧ Below W.heap.size W W' := by
  obtain ⟨h1, h2, h3, h4⟩ := laid_boxes W CS #[.int .i64 12, .int .i64 w, .int .i64 q, .int .i64 n]
  go_enter Try.func70, Try.ntmps70
  go_upto_region 1 with (fail)
  generalize ((W.alloc (.cells CS 27)).alloc (.cells #[.int .i64 12, .int .i64 w, .int .i64 q, .int .i64 n] 78)).alloc (.cells z27 27) = w3 at *
  have HS := Lib.hid h1
  have HR := Lib.hid h3
  have HB := Lib.hid h4
  have d0 := (blk_cell h2 0).trans (show _ = some (Value.int .i64 12) from rfl)
  have d1 := (blk_cell h2 1).trans (show _ = some (Value.int .i64 w) from rfl)
  have d2 := (blk_cell h2 2).trans (show _ = some (Value.int .i64 q) from rfl)
  have d3 := (blk_cell h2 3).trans (show _ = some (Value.int .i64 n) from rfl)
  have c31 := HS.out.cell hs 31 (by decide)
  have fz31 := blk_frozen HS.out 31
  clear h1 h2 h3 h4
  go_wp2_with (first | ((with_reducible refine gate_dst (N := 146) rfl ?_); refine load27_ev (g := W.heap.size) rfl rfl rfl (HS.out.set 31 _) (hs.set 31 n).1 ?_) | ((with_reducible refine gate_store (t := 27) (p := 4) rfl ?_); refine store27_ev (g := W.heap.size + 1 + 1) rfl rfl rfl rfl (CS := (CS.setIfInBounds 31 (.int .i64 n))) (HR.out.far (p := ⟨W.heap.size, 31, none⟩) (by show W.heap.size + 1 + 1 ≠ W.heap.size; omega) _) z27_size (hs.set 31 n) ?_; intro w9 hR hO; have HR9 := Lib.hid hR; have HB9 := Lib.hid (hO.below (below_set HB.out (Nat.le_refl _)) (by omega)); clear hR hO))
  refine bodyPost_ret (results_sty (p := 4) rfl _ _ (W.heap.size + 1 + 1) rfl HR9.out (hs.set 31 n).1) rfl ?_
  exact ⟨rfl, HB9.out⟩
set_option maxHeartbeats 2000000 in
set_option maxRecDepth 100000 in
theorem laid_13 (CS : Array Value) (f : Nat → Int) (hs : IsSty CS f) (w q n : Int) (W : World) : Calls Try.prog 70 #[.agg CS, .agg #[.int .i64 13, .int .i64 w, .int .i64 q, .int .i64 n]] W fun e W' => e = .returned (.agg (CS.setIfInBounds 32 (.int .i64 n))) ∧ Below W.heap.size W W' := by
  obtain ⟨h1, h2, h3, h4⟩ := laid_boxes W CS #[.int .i64 13, .int .i64 w, .int .i64 q, .int .i64 n]
  go_enter Try.func70, Try.ntmps70
  go_upto_region 1 with (fail)
  generalize ((W.alloc (.cells CS 27)).alloc (.cells #[.int .i64 13, .int .i64 w, .int .i64 q, .int .i64 n] 78)).alloc (.cells z27 27) = w3 at *
  have HS := Lib.hid h1
  have HR := Lib.hid h3
  have HB := Lib.hid h4
  have d0 := (blk_cell h2 0).trans (show _ = some (Value.int .i64 13) from rfl)
  have d1 := (blk_cell h2 1).trans (show _ = some (Value.int .i64 w) from rfl)
  have d2 := (blk_cell h2 2).trans (show _ = some (Value.int .i64 q) from rfl)
  have d3 := (blk_cell h2 3).trans (show _ = some (Value.int .i64 n) from rfl)
  have c32 := HS.out.cell hs 32 (by decide)
  have fz32 := blk_frozen HS.out 32
  clear h1 h2 h3 h4
  go_wp2_with (first | ((with_reducible refine gate_dst (N := 146) rfl ?_); refine load27_ev (g := W.heap.size) rfl rfl rfl (HS.out.set 32 _) (hs.set 32 n).1 ?_) | ((with_reducible refine gate_store (t := 27) (p := 4) rfl ?_); refine store27_ev (g := W.heap.size + 1 + 1) rfl rfl rfl rfl (CS := (CS.setIfInBounds 32 (.int .i64 n))) (HR.out.far (p := ⟨W.heap.size, 32, none⟩) (by show W.heap.size + 1 + 1 ≠ W.heap.size; omega) _) z27_size (hs.set 32 n) ?_; intro w9 hR hO; have HR9 := Lib.hid hR; have HB9 := Lib.hid (hO.below (below_set HB.out (Nat.le_refl _)) (by omega)); clear hR hO))
  refine bodyPost_ret (results_sty (p := 4) rfl _ _ (W.heap.size + 1 + 1) rfl HR9.out (hs.set 32 n).1) rfl ?_
  exact ⟨rfl, HB9.out⟩
set_option maxHeartbeats 2000000 in
set_option maxRecDepth 100000 in
theorem laid_14 (CS : Array Value) (f : Nat → Int) (hs : IsSty CS f) (w q n : Int) (W : World) : Calls Try.prog 70 #[.agg CS, .agg #[.int .i64 14, .int .i64 w, .int .i64 q, .int .i64 n]] W fun e W' => e = .returned (.agg (CS.setIfInBounds 33 (.int .i64 n))) ∧ Below W.heap.size W W' := by
  obtain ⟨h1, h2, h3, h4⟩ := laid_boxes W CS #[.int .i64 14, .int .i64 w, .int .i64 q, .int .i64 n]
  go_enter Try.func70, Try.ntmps70
  go_upto_region 1 with (fail)
  generalize ((W.alloc (.cells CS 27)).alloc (.cells #[.int .i64 14, .int .i64 w, .int .i64 q, .int .i64 n] 78)).alloc (.cells z27 27) = w3 at *
  have HS := Lib.hid h1
  have HR := Lib.hid h3
  have HB := Lib.hid h4
  have d0 := (blk_cell h2 0).trans (show _ = some (Value.int .i64 14) from rfl)
  have d1 := (blk_cell h2 1).trans (show _ = some (Value.int .i64 w) from rfl)
  have d2 := (blk_cell h2 2).trans (show _ = some (Value.int .i64 q) from rfl)
  have d3 := (blk_cell h2 3).trans (show _ = some (Value.int .i64 n) from rfl)
  have c33 := HS.out.cell hs 33 (by decide)
  have fz33 := blk_frozen HS.out 33
  clear h1 h2 h3 h4
  go_wp2_with (first | ((with_reducible refine gate_dst (N := 146) rfl ?_); refine load27_ev (g := W.heap.size) rfl rfl rfl (HS.out.set 33 _) (hs.set 33 n).1 ?_) | ((with_reducible refine gate_store (t := 27) (p := 4) rfl ?_); refine store27_ev (g := W.heap.size + 1 + 1) rfl rfl rfl rfl (CS := (CS.setIfInBounds 33 (.int .i64 n))) (HR.out.far (p := ⟨W.heap.size, 33, none⟩) (by show W.heap.size + 1 + 1 ≠ W.heap.size; omega) _) z27_size (hs.set 33 n) ?_; intro w9 hR hO; have HR9 := Lib.hid hR; have HB9 := Lib.hid (hO.below (below_set HB.out (Nat.le_refl _)) (by omega)); clear hR hO))
  refine bodyPost_ret (results_sty (p := 4) rfl _ _ (W.heap.size + 1 + 1) rfl HR9.out (hs.set 33 n).1) rfl ?_
  exact ⟨rfl, HB9.out⟩
set_option maxHeartbeats 2000000 in
set_option maxRecDepth 100000 in
theorem laid_15 (CS : Array Value) (f : Nat → Int) (hs : IsSty CS f) (w q n : Int) (W : World) : Calls Try.prog 70 #[.agg CS, .agg #[.int .i64 15, .int .i64 w, .int .i64 q, .int .i64 n]] W fun e W' => e = .returned (.agg (CS.setIfInBounds 34 (.int .i64 n))) ∧ Below W.heap.size W W' := by
  obtain ⟨h1, h2, h3, h4⟩ := laid_boxes W CS #[.int .i64 15, .int .i64 w, .int .i64 q, .int .i64 n]
  go_enter Try.func70, Try.ntmps70
  go_upto_region 1 with (fail)
  generalize ((W.alloc (.cells CS 27)).alloc (.cells #[.int .i64 15, .int .i64 w, .int .i64 q, .int .i64 n] 78)).alloc (.cells z27 27) = w3 at *
  have HS := Lib.hid h1
  have HR := Lib.hid h3
  have HB := Lib.hid h4
  have d0 := (blk_cell h2 0).trans (show _ = some (Value.int .i64 15) from rfl)
  have d1 := (blk_cell h2 1).trans (show _ = some (Value.int .i64 w) from rfl)
  have d2 := (blk_cell h2 2).trans (show _ = some (Value.int .i64 q) from rfl)
  have d3 := (blk_cell h2 3).trans (show _ = some (Value.int .i64 n) from rfl)
  have c34 := HS.out.cell hs 34 (by decide)
  have fz34 := blk_frozen HS.out 34
  clear h1 h2 h3 h4
  go_wp2_with (first | ((with_reducible refine gate_dst (N := 146) rfl ?_); refine load27_ev (g := W.heap.size) rfl rfl rfl (HS.out.set 34 _) (hs.set 34 n).1 ?_) | ((with_reducible refine gate_store (t := 27) (p := 4) rfl ?_); refine store27_ev (g := W.heap.size + 1 + 1) rfl rfl rfl rfl (CS := (CS.setIfInBounds 34 (.int .i64 n))) (HR.out.far (p := ⟨W.heap.size, 34, none⟩) (by show W.heap.size + 1 + 1 ≠ W.heap.size; omega) _) z27_size (hs.set 34 n) ?_; intro w9 hR hO; have HR9 := Lib.hid hR; have HB9 := Lib.hid (hO.below (below_set HB.out (Nat.le_refl _)) (by omega)); clear hR hO))
  refine bodyPost_ret (results_sty (p := 4) rfl _ _ (W.heap.size + 1 + 1) rfl HR9.out (hs.set 34 n).1) rfl ?_
  exact ⟨rfl, HB9.out⟩
set_option maxHeartbeats 2000000 in
set_option maxRecDepth 100000 in
theorem laid_16 (CS : Array Value) (f : Nat → Int) (hs : IsSty CS f) (w q n : Int) (W : World) : Calls Try.prog 70 #[.agg CS, .agg #[.int .i64 16, .int .i64 w, .int .i64 q, .int .i64 n]] W fun e W' => e = .returned (.agg (CS.setIfInBounds 35 (.int .i64 n))) ∧ Below W.heap.size W W' := by
  obtain ⟨h1, h2, h3, h4⟩ := laid_boxes W CS #[.int .i64 16, .int .i64 w, .int .i64 q, .int .i64 n]
  go_enter Try.func70, Try.ntmps70
  go_upto_region 1 with (fail)
  generalize ((W.alloc (.cells CS 27)).alloc (.cells #[.int .i64 16, .int .i64 w, .int .i64 q, .int .i64 n] 78)).alloc (.cells z27 27) = w3 at *
  have HS := Lib.hid h1
  have HR := Lib.hid h3
  have HB := Lib.hid h4
  have d0 := (blk_cell h2 0).trans (show _ = some (Value.int .i64 16) from rfl)
  have d1 := (blk_cell h2 1).trans (show _ = some (Value.int .i64 w) from rfl)
  have d2 := (blk_cell h2 2).trans (show _ = some (Value.int .i64 q) from rfl)
  have d3 := (blk_cell h2 3).trans (show _ = some (Value.int .i64 n) from rfl)
  have c35 := HS.out.cell hs 35 (by decide)
  have fz35 := blk_frozen HS.out 35
  clear h1 h2 h3 h4
  go_wp2_with (first | ((with_reducible refine gate_dst (N := 146) rfl ?_); refine load27_ev (g := W.heap.size) rfl rfl rfl (HS.out.set 35 _) (hs.set 35 n).1 ?_) | ((with_reducible refine gate_store (t := 27) (p := 4) rfl ?_); refine store27_ev (g := W.heap.size + 1 + 1) rfl rfl rfl rfl (CS := (CS.setIfInBounds 35 (.int .i64 n))) (HR.out.far (p := ⟨W.heap.size, 35, none⟩) (by show W.heap.size + 1 + 1 ≠ W.heap.size; omega) _) z27_size (hs.set 35 n) ?_; intro w9 hR hO; have HR9 := Lib.hid hR; have HB9 := Lib.hid (hO.below (below_set HB.out (Nat.le_refl _)) (by omega)); clear hR hO))
  refine bodyPost_ret (results_sty (p := 4) rfl _ _ (W.heap.size + 1 + 1) rfl HR9.out (hs.set 35 n).1) rfl ?_
  exact ⟨rfl, HB9.out⟩
set_option maxHeartbeats 2000000 in
set_option maxRecDepth 100000 in
theorem laid_17 (CS : Array Value) (f : Nat → Int) (hs : IsSty CS f) (w q n : Int) (W : World) : Calls Try.prog 70 #[.agg CS, .agg #[.int .i64 17, .int .i64 w, .int .i64 q, .int .i64 n]] W fun e W' => e = .returned (.agg (CS.setIfInBounds 36 (.int .i64 n))) ∧ Below W.heap.size W W' := by
  obtain ⟨h1, h2, h3, h4⟩ := laid_boxes W CS #[.int .i64 17, .int .i64 w, .int .i64 q, .int .i64 n]
  go_enter Try.func70, Try.ntmps70
  go_upto_region 1 with (fail)
  generalize ((W.alloc (.cells CS 27)).alloc (.cells #[.int .i64 17, .int .i64 w, .int .i64 q, .int .i64 n] 78)).alloc (.cells z27 27) = w3 at *
  have HS := Lib.hid h1
  have HR := Lib.hid h3
  have HB := Lib.hid h4
  have d0 := (blk_cell h2 0).trans (show _ = some (Value.int .i64 17) from rfl)
  have d1 := (blk_cell h2 1).trans (show _ = some (Value.int .i64 w) from rfl)
  have d2 := (blk_cell h2 2).trans (show _ = some (Value.int .i64 q) from rfl)
  have d3 := (blk_cell h2 3).trans (show _ = some (Value.int .i64 n) from rfl)
  have c36 := HS.out.cell hs 36 (by decide)
  have fz36 := blk_frozen HS.out 36
  clear h1 h2 h3 h4
  go_wp2_with (first | ((with_reducible refine gate_dst (N := 146) rfl ?_); refine load27_ev (g := W.heap.size) rfl rfl rfl (HS.out.set 36 _) (hs.set 36 n).1 ?_) | ((with_reducible refine gate_store (t := 27) (p := 4) rfl ?_); refine store27_ev (g := W.heap.size + 1 + 1) rfl rfl rfl rfl (CS := (CS.setIfInBounds 36 (.int .i64 n))) (HR.out.far (p := ⟨W.heap.size, 36, none⟩) (by show W.heap.size + 1 + 1 ≠ W.heap.size; omega) _) z27_size (hs.set 36 n) ?_; intro w9 hR hO; have HR9 := Lib.hid hR; have HB9 := Lib.hid (hO.below (below_set HB.out (Nat.le_refl _)) (by omega)); clear hR hO))
  refine bodyPost_ret (results_sty (p := 4) rfl _ _ (W.heap.size + 1 + 1) rfl HR9.out (hs.set 36 n).1) rfl ?_
  exact ⟨rfl, HB9.out⟩
set_option maxHeartbeats 2000000 in
set_option maxRecDepth 100000 in
theorem laid_18 (CS : Array Value) (f : Nat → Int) (hs : IsSty CS f) (w q n : Int) (W : World) : Calls Try.prog 70 #[.agg CS, .agg #[.int .i64 18, .int .i64 w, .int .i64 q, .int .i64 n]] W fun e W' => e = .returned (.agg (CS.setIfInBounds 37 (.int .i64 n))) ∧ Below W.heap.size W W' := by
  obtain ⟨h1, h2, h3, h4⟩ := laid_boxes W CS #[.int .i64 18, .int .i64 w, .int .i64 q, .int .i64 n]
  go_enter Try.func70, Try.ntmps70
  go_upto_region 1 with (fail)
  generalize ((W.alloc (.cells CS 27)).alloc (.cells #[.int .i64 18, .int .i64 w, .int .i64 q, .int .i64 n] 78)).alloc (.cells z27 27) = w3 at *
  have HS := Lib.hid h1
  have HR := Lib.hid h3
  have HB := Lib.hid h4
  have d0 := (blk_cell h2 0).trans (show _ = some (Value.int .i64 18) from rfl)
  have d1 := (blk_cell h2 1).trans (show _ = some (Value.int .i64 w) from rfl)
  have d2 := (blk_cell h2 2).trans (show _ = some (Value.int .i64 q) from rfl)
  have d3 := (blk_cell h2 3).trans (show _ = some (Value.int .i64 n) from rfl)
  have c37 := HS.out.cell hs 37 (by decide)
  have fz37 := blk_frozen HS.out 37
  clear h1 h2 h3 h4
  go_wp2_with (first | ((with_reducible refine gate_dst (N := 146) rfl ?_); refine load27_ev (g := W.heap.size) rfl rfl rfl (HS.out.set 37 _) (hs.set 37 n).1 ?_) | ((with_reducible refine gate_store (t := 27) (p := 4) rfl ?_); refine store27_ev (g := W.heap.size + 1 + 1) rfl rfl rfl rfl (CS := (CS.setIfInBounds 37 (.int .i64 n))) (HR.out.far (p := ⟨W.heap.size, 37, none⟩) (by show W.heap.size + 1 + 1 ≠ W.heap.size; omega) _) z27_size (hs.set 37 n) ?_; intro w9 hR hO; have HR9 := Lib.hid hR; have HB9 := Lib.hid (hO.below (below_set HB.out (Nat.le_refl _)) (by omega)); clear hR hO))
  refine bodyPost_ret (results_sty (p := 4) rfl _ _ (W.heap.size + 1 + 1) rfl HR9.out (hs.set 37 n).1) rfl ?_
  exact ⟨rfl, HB9.out⟩
set_option maxHeartbeats 2000000 in
set_option maxRecDepth 100000 in
theorem laid_19 (CS : Array Value) (f : Nat → Int) (hs : IsSty CS f) (w q n : Int) (W : World) : Calls Try.prog 70 #[.agg CS, .agg #[.int .i64 19, .int .i64 w, .int .i64 q, .int .i64 n]] W fun e W' => e = .returned (.agg (CS.setIfInBounds 38 (.int .i64 n))) ∧ Below W.heap.size W W' := by
  obtain ⟨h1, h2, h3, h4⟩ := laid_boxes W CS #[.int .i64 19, .int .i64 w, .int .i64 q, .int .i64 n]
  go_enter Try.func70, Try.ntmps70
  go_upto_region 1 with (fail)
  generalize ((W.alloc (.cells CS 27)).alloc (.cells #[.int .i64 19, .int .i64 w, .int .i64 q, .int .i64 n] 78)).alloc (.cells z27 27) = w3 at *
  have HS := Lib.hid h1
  have HR := Lib.hid h3
  have HB := Lib.hid h4
  have d0 := (blk_cell h2 0).trans (show _ = some (Value.int .i64 19) from rfl)
  have d1 := (blk_cell h2 1).trans (show _ = some (Value.int .i64 w) from rfl)
  have d2 := (blk_cell h2 2).trans (show _ = some (Value.int .i64 q) from rfl)
  have d3 := (blk_cell h2 3).trans (show _ = some (Value.int .i64 n) from rfl)
  have c38 := HS.out.cell hs 38 (by decide)
  have fz38 := blk_frozen HS.out 38
  clear h1 h2 h3 h4
  go_wp2_with (first | ((with_reducible refine gate_dst (N := 146) rfl ?_); refine load27_ev (g := W.heap.size) rfl rfl rfl (HS.out.set 38 _) (hs.set 38 n).1 ?_) | ((with_reducible refine gate_store (t := 27) (p := 4) rfl ?_); refine store27_ev (g := W.heap.size + 1 + 1) rfl rfl rfl rfl (CS := (CS.setIfInBounds 38 (.int .i64 n))) (HR.out.far (p := ⟨W.heap.size, 38, none⟩) (by show W.heap.size + 1 + 1 ≠ W.heap.size; omega) _) z27_size (hs.set 38 n) ?_; intro w9 hR hO; have HR9 := Lib.hid hR; have HB9 := Lib.hid (hO.below (below_set HB.out (Nat.le_refl _)) (by omega)); clear hR hO))
  refine bodyPost_ret (results_sty (p := 4) rfl _ _ (W.heap.size + 1 + 1) rfl HR9.out (hs.set 38 n).1) rfl ?_
  exact ⟨rfl, HB9.out⟩
set_option maxHeartbeats 2000000 in
set_option maxRecDepth 100000 in
theorem laid_20 (CS : Array Value) (f : Nat → Int) (hs : IsSty CS f) (w q n : Int) (W : World) : Calls Try.prog 70 #[.agg CS, .agg #[.int .i64 20, .int .i64 w, .int .i64 q, .int .i64 n]] W fun e W' => e = .returned (.agg (CS.setIfInBounds 1 (.int .i64 w))) ∧ Below W.heap.size W W' := by
  obtain ⟨h1, h2, h3, h4⟩ := laid_boxes W CS #[.int .i64 20, .int .i64 w, .int .i64 q, .int .i64 n]
  go_enter Try.func70, Try.ntmps70
  go_upto_region 1 with (fail)
  generalize ((W.alloc (.cells CS 27)).alloc (.cells #[.int .i64 20, .int .i64 w, .int .i64 q, .int .i64 n] 78)).alloc (.cells z27 27) = w3 at *
  have HS := Lib.hid h1
  have HR := Lib.hid h3
  have HB := Lib.hid h4
  have d0 := (blk_cell h2 0).trans (show _ = some (Value.int .i64 20) from rfl)
  have d1 := (blk_cell h2 1).trans (show _ = some (Value.int .i64 w) from rfl)
  have d2 := (blk_cell h2 2).trans (show _ = some (Value.int .i64 q) from rfl)
  have d3 := (blk_cell h2 3).trans (show _ = some (Value.int .i64 n) from rfl)
  have c1 := HS.out.cell hs 1 (by decide)
  have fz1 := blk_frozen HS.out 1
  clear h1 h2 h3 h4
  go_wp2_with (first | ((with_reducible refine gate_dst (N := 146) rfl ?_); refine load27_ev (g := W.heap.size) rfl rfl rfl (HS.out.set 1 _) (hs.set 1 w).1 ?_) | ((with_reducible refine gate_store (t := 27) (p := 4) rfl ?_); refine store27_ev (g := W.heap.size + 1 + 1) rfl rfl rfl rfl (CS := (CS.setIfInBounds 1 (.int .i64 w))) (HR.out.far (p := ⟨W.heap.size, 1, none⟩) (by show W.heap.size + 1 + 1 ≠ W.heap.size; omega) _) z27_size (hs.set 1 w) ?_; intro w9 hR hO; have HR9 := Lib.hid hR; have HB9 := Lib.hid (hO.below (below_set HB.out (Nat.le_refl _)) (by omega)); clear hR hO))
  refine bodyPost_ret (results_sty (p := 4) rfl _ _ (W.heap.size + 1 + 1) rfl HR9.out (hs.set 1 w).1) rfl ?_
  exact ⟨rfl, HB9.out⟩
set_option maxHeartbeats 2000000 in
set_option maxRecDepth 100000 in
theorem laid_21 (CS : Array Value) (f : Nat → Int) (hs : IsSty CS f) (w q n : Int) (W : World) : Calls Try.prog 70 #[.agg CS, .agg #[.int .i64 21, .int .i64 w, .int .i64 q, .int .i64 n]] W fun e W' => e = .returned (.agg (CS.setIfInBounds 2 (.int .i64 w))) ∧ Below W.heap.size W W' := by
  obtain ⟨h1, h2, h3, h4⟩ := laid_boxes W CS #[.int .i64 21, .int .i64 w, .int .i64 q, .int .i64 n]
  go_enter Try.func70, Try.ntmps70
  go_upto_region 1 with (fail)
  generalize ((W.alloc (.cells CS 27)).alloc (.cells #[.int .i64 21, .int .i64 w, .int .i64 q, .int .i64 n] 78)).alloc (.cells z27 27) = w3 at *
  have HS := Lib.hid h1
  have HR := Lib.hid h3
  have HB := Lib.hid h4
  have d0 := (blk_cell h2 0).trans (show _ = some (Value.int .i64 21) from rfl)
  have d1 := (blk_cell h2 1).trans (show _ = some (Value.int .i64 w) from rfl)
  have d2 := (blk_cell h2 2).trans (show _ = some (Value.int .i64 q) from rfl)
  have d3 := (blk_cell h2 3).trans (show _ = some (Value.int .i64 n) from rfl)
  have c2 := HS.out.cell hs 2 (by decide)
  have fz2 := blk_frozen HS.out 2
  clear h1 h2 h3 h4
  go_wp2_with (first | ((with_reducible refine gate_dst (N := 146) rfl ?_); refine load27_ev (g := W.heap.size) rfl rfl rfl (HS.out.set 2 _) (hs.set 2 w).1 ?_) | ((with_reducible refine gate_store (t := 27) (p := 4) rfl ?_); refine store27_ev (g := W.heap.size + 1 + 1) rfl rfl rfl rfl (CS := (CS.setIfInBounds 2 (.int .i64 w))) (HR.out.far (p := ⟨W.heap.size, 2, none⟩) (by show W.heap.size + 1 + 1 ≠ W.heap.size; omega) _) z27_size (hs.set 2 w) ?_; intro w9 hR hO; have HR9 := Lib.hid hR; have HB9 := Lib.hid (hO.below (below_set HB.out (Nat.le_refl _)) (by omega)); clear hR hO))
  refine bodyPost_ret (results_sty (p := 4) rfl _ _ (W.heap.size + 1 + 1) rfl HR9.out (hs.set 2 w).1) rfl ?_
  exact ⟨rfl, HB9.out⟩
set_option maxHeartbeats 2000000 in
set_option maxRecDepth 100000 in
theorem laid_22 (CS : Array Value) (f : Nat → Int) (hs : IsSty CS f) (w q n : Int) (W : World) : Calls Try.prog 70 #[.agg CS, .agg #[.int .i64 22, .int .i64 w, .int .i64 q, .int .i64 n]] W fun e W' => e = .returned (.agg ((CS.setIfInBounds 21 (.int .i64 q)).setIfInBounds 22 (.int .i64 n))) ∧ Below W.heap.size W W' := by
  obtain ⟨h1, h2, h3, h4⟩ := laid_boxes W CS #[.int .i64 22, .int .i64 w, .int .i64 q, .int .i64 n]
  go_enter Try.func70, Try.ntmps70
  go_upto_region 1 with (fail)
  generalize ((W.alloc (.cells CS 27)).alloc (.cells #[.int .i64 22, .int .i64 w, .int .i64 q, .int .i64 n] 78)).alloc (.cells z27 27) = w3 at *
  have HS := Lib.hid h1
  have HR := Lib.hid h3
  have HB := Lib.hid h4
  have d0 := (blk_cell h2 0).trans (show _ = some (Value.int .i64 22) from rfl)
  have d1 := (blk_cell h2 1).trans (show _ = some (Value.int .i64 w) from rfl)
  have d2 := (blk_cell h2 2).trans (show _ = some (Value.int .i64 q) from rfl)
  have d3 := (blk_cell h2 3).trans (show _ = some (Value.int .i64 n) from rfl)
  have c21 := HS.out.cell hs 21 (by decide)
  have c22 := HS.out.cell hs 22 (by decide)
  have fz21 := blk_frozen HS.out 21
  have fz22 := blk_frozen HS.out 22
  clear h1 h2 h3 h4
  go_wp2_with (first | ((with_reducible refine gate_dst (N := 146) rfl ?_); refine load27_ev (g := W.heap.size) rfl rfl rfl ((HS.out.set 21 _).set 22 _) ((hs.set 21 q).set 22 n).1 ?_) | ((with_reducible refine gate_store (t := 27) (p := 4) rfl ?_); refine store27_ev (g := W.heap.size + 1 + 1) rfl rfl rfl rfl (CS := ((CS.setIfInBounds 21 (.int .i64 q)).setIfInBounds 22 (.int .i64 n))) ((HR.out.far (p := ⟨W.heap.size, 21, none⟩) (by show W.heap.size + 1 + 1 ≠ W.heap.size; omega) _).far (p := ⟨W.heap.size, 22, none⟩) (by show W.heap.size + 1 + 1 ≠ W.heap.size; omega) _) z27_size ((hs.set 21 q).set 22 n) ?_; intro w9 hR hO; have HR9 := Lib.hid hR; have HB9 := Lib.hid (hO.below (below_set (below_set HB.out (Nat.le_refl _)) (Nat.le_refl _)) (by omega)); clear hR hO))
  refine bodyPost_ret (results_sty (p := 4) rfl _ _ (W.heap.size + 1 + 1) rfl HR9.out ((hs.set 21 q).set 22 n).1) rfl ?_
  exact ⟨rfl, HB9.out⟩
set_option maxHeartbeats 2000000 in
set_option maxRecDepth 100000 in
theorem laid_23 (CS : Array Value) (f : Nat → Int) (hs : IsSty CS f) (w q n : Int) (W : World) : Calls Try.prog 70 #[.agg CS, .agg #[.int .i64 23, .int .i64 w, .int .i64 q, .int .i64 n]] W fun e W' => e = .returned (.agg (CS.setIfInBounds 39 (.int .i64 w))) ∧ Below W.heap.size W W' := by
  obtain ⟨h1, h2, h3, h4⟩ := laid_boxes W CS #[.int .i64 23, .int .i64 w, .int .i64 q, .int .i64 n]
  go_enter Try.func70, Try.ntmps70
  go_upto_region 1 with (fail)
  generalize ((W.alloc (.cells CS 27)).alloc (.cells #[.int .i64 23, .int .i64 w, .int .i64 q, .int .i64 n] 78)).alloc (.cells z27 27) = w3 at *
  have HS := Lib.hid h1
  have HR := Lib.hid h3
  have HB := Lib.hid h4
  have d0 := (blk_cell h2 0).trans (show _ = some (Value.int .i64 23) from rfl)
  have d1 := (blk_cell h2 1).trans (show _ = some (Value.int .i64 w) from rfl)
  have d2 := (blk_cell h2 2).trans (show _ = some (Value.int .i64 q) from rfl)
  have d3 := (blk_cell h2 3).trans (show _ = some (Value.int .i64 n) from rfl)
  have c39 := HS.out.cell hs 39 (by decide)
  have fz39 := blk_frozen HS.out 39
  clear h1 h2 h3 h4
  go_wp2_with (first | ((with_reducible refine gate_dst (N := 146) rfl ?_); refine load27_ev (g := W.heap.size) rfl rfl rfl (HS.out.set 39 _) (hs.set 39 w).1 ?_) | ((with_reducible refine gate_store (t := 27) (p := 4) rfl ?_); refine store27_ev (g := W.heap.size + 1 + 1) rfl rfl rfl rfl (CS := (CS.setIfInBounds 39 (.int .i64 w))) (HR.out.far (p := ⟨W.heap.size, 39, none⟩) (by show W.heap.size + 1 + 1 ≠ W.heap.size; omega) _) z27_size (hs.set 39 w) ?_; intro w9 hR hO; have HR9 := Lib.hid hR; have HB9 := Lib.hid (hO.below (below_set HB.out (Nat.le_refl _)) (by omega)); clear hR hO))
  refine bodyPost_ret (results_sty (p := 4) rfl _ _ (W.heap.size + 1 + 1) rfl HR9.out (hs.set 39 w).1) rfl ?_
  exact ⟨rfl, HB9.out⟩
set_option maxHeartbeats 2000000 in
set_option maxRecDepth 100000 in
theorem laid_24 (CS : Array Value) (f : Nat → Int) (hs : IsSty CS f) (w q n : Int) (W : World) : Calls Try.prog 70 #[.agg CS, .agg #[.int .i64 24, .int .i64 w, .int .i64 q, .int .i64 n]] W fun e W' => e = .returned (.agg (CS.setIfInBounds 40 (.int .i64 w))) ∧ Below W.heap.size W W' := by
  obtain ⟨h1, h2, h3, h4⟩ := laid_boxes W CS #[.int .i64 24, .int .i64 w, .int .i64 q, .int .i64 n]
  go_enter Try.func70, Try.ntmps70
  go_upto_region 1 with (fail)
  generalize ((W.alloc (.cells CS 27)).alloc (.cells #[.int .i64 24, .int .i64 w, .int .i64 q, .int .i64 n] 78)).alloc (.cells z27 27) = w3 at *
  have HS := Lib.hid h1
  have HR := Lib.hid h3
  have HB := Lib.hid h4
  have d0 := (blk_cell h2 0).trans (show _ = some (Value.int .i64 24) from rfl)
  have d1 := (blk_cell h2 1).trans (show _ = some (Value.int .i64 w) from rfl)
  have d2 := (blk_cell h2 2).trans (show _ = some (Value.int .i64 q) from rfl)
  have d3 := (blk_cell h2 3).trans (show _ = some (Value.int .i64 n) from rfl)
  have c40 := HS.out.cell hs 40 (by decide)
  have fz40 := blk_frozen HS.out 40
  clear h1 h2 h3 h4
  go_wp2_with (first | ((with_reducible refine gate_dst (N := 146) rfl ?_); refine load27_ev (g := W.heap.size) rfl rfl rfl (HS.out.set 40 _) (hs.set 40 w).1 ?_) | ((with_reducible refine gate_store (t := 27) (p := 4) rfl ?_); refine store27_ev (g := W.heap.size + 1 + 1) rfl rfl rfl rfl (CS := (CS.setIfInBounds 40 (.int .i64 w))) (HR.out.far (p := ⟨W.heap.size, 40, none⟩) (by show W.heap.size + 1 + 1 ≠ W.heap.size; omega) _) z27_size (hs.set 40 w) ?_; intro w9 hR hO; have HR9 := Lib.hid hR; have HB9 := Lib.hid (hO.below (below_set HB.out (Nat.le_refl _)) (by omega)); clear hR hO))
  refine bodyPost_ret (results_sty (p := 4) rfl _ _ (W.heap.size + 1 + 1) rfl HR9.out (hs.set 40 w).1) rfl ?_
  exact ⟨rfl, HB9.out⟩
set_option maxHeartbeats 2000000 in
set_option maxRecDepth 100000 in
theorem laid_25 (CS : Array Value) (f : Nat → Int) (hs : IsSty CS f) (w q n : Int) (W : World) : Calls Try.prog 70 #[.agg CS, .agg #[.int .i64 25, .int .i64 w, .int .i64 q, .int .i64 n]] W fun e W' => e = .returned (.agg (CS.setIfInBounds 41 (.int .i64 w))) ∧ Below W.heap.size W W' := by
  obtain ⟨h1, h2, h3, h4⟩ := laid_boxes W CS #[.int .i64 25, .int .i64 w, .int .i64 q, .int .i64 n]
  go_enter Try.func70, Try.ntmps70
  go_upto_region 1 with (fail)
  generalize ((W.alloc (.cells CS 27)).alloc (.cells #[.int .i64 25, .int .i64 w, .int .i64 q, .int .i64 n] 78)).alloc (.cells z27 27) = w3 at *
  have HS := Lib.hid h1
  have HR := Lib.hid h3
  have HB := Lib.hid h4
  have d0 := (blk_cell h2 0).trans (show _ = some (Value.int .i64 25) from rfl)
  have d1 := (blk_cell h2 1).trans (show _ = some (Value.int .i64 w) from rfl)
  have d2 := (blk_cell h2 2).trans (show _ = some (Value.int .i64 q) from rfl)
  have d3 := (blk_cell h2 3).trans (show _ = some (Value.int .i64 n) from rfl)
  have c41 := HS.out.cell hs 41 (by decide)
  have fz41 := blk_frozen HS.out 41
  clear h1 h2 h3 h4
  go_wp2_with (first | ((with_reducible refine gate_dst (N := 146) rfl ?_); refine load27_ev (g := W.heap.size) rfl rfl rfl (HS.out.set 41 _) (hs.set 41 w).1 ?_) | ((with_reducible refine gate_store (t := 27) (p := 4) rfl ?_); refine store27_ev (g := W.heap.size + 1 + 1) rfl rfl rfl rfl (CS := (CS.setIfInBounds 41 (.int .i64 w))) (HR.out.far (p := ⟨W.heap.size, 41, none⟩) (by show W.heap.size + 1 + 1 ≠ W.heap.size; omega) _) z27_size (hs.set 41 w) ?_; intro w9 hR hO; have HR9 := Lib.hid hR; have HB9 := Lib.hid (hO.below (below_set HB.out (Nat.le_refl _)) (by omega)); clear hR hO))
  refine bodyPost_ret (results_sty (p := 4) rfl _ _ (W.heap.size + 1 + 1) rfl HR9.out (hs.set 41 w).1) rfl ?_
  exact ⟨rfl, HB9.out⟩
set_option maxHeartbeats 2000000 in
set_option maxRecDepth 100000 in
theorem laid_26 (CS : Array Value) (f : Nat → Int) (hs : IsSty CS f) (w q n : Int) (W : World) : Calls Try.prog 70 #[.agg CS, .agg #[.int .i64 26, .int .i64 w, .int .i64 q, .int .i64 n]] W fun e W' => e = .returned (.agg (CS.setIfInBounds 3 (.int .i64 w))) ∧ Below W.heap.size W W' := by
  obtain ⟨h1, h2, h3, h4⟩ := laid_boxes W CS #[.int .i64 26, .int .i64 w, .int .i64 q, .int .i64 n]
  go_enter Try.func70, Try.ntmps70
  go_upto_region 1 with (fail)
  generalize ((W.alloc (.cells CS 27)).alloc (.cells #[.int .i64 26, .int .i64 w, .int .i64 q, .int .i64 n] 78)).alloc (.cells z27 27) = w3 at *
  have HS := Lib.hid h1
  have HR := Lib.hid h3
  have HB := Lib.hid h4
  have d0 := (blk_cell h2 0).trans (show _ = some (Value.int .i64 26) from rfl)
  have d1 := (blk_cell h2 1).trans (show _ = some (Value.int .i64 w) from rfl)
  have d2 := (blk_cell h2 2).trans (show _ = some (Value.int .i64 q) from rfl)
  have d3 := (blk_cell h2 3).trans (show _ = some (Value.int .i64 n) from rfl)
  have c3 := HS.out.cell hs 3 (by decide)
  have fz3 := blk_frozen HS.out 3
  clear h1 h2 h3 h4
  go_wp2_with (first | ((with_reducible refine gate_dst (N := 146) rfl ?_); refine load27_ev (g := W.heap.size) rfl rfl rfl (HS.out.set 3 _) (hs.set 3 w).1 ?_) | ((with_reducible refine gate_store (t := 27) (p := 4) rfl ?_); refine store27_ev (g := W.heap.size + 1 + 1) rfl rfl rfl rfl (CS := (CS.setIfInBounds 3 (.int .i64 w))) (HR.out.far (p := ⟨W.heap.size, 3, none⟩) (by show W.heap.size + 1 + 1 ≠ W.heap.size; omega) _) z27_size (hs.set 3 w) ?_; intro w9 hR hO; have HR9 := Lib.hid hR; have HB9 := Lib.hid (hO.below (below_set HB.out (Nat.le_refl _)) (by omega)); clear hR hO))
  refine bodyPost_ret (results_sty (p := 4) rfl _ _ (W.heap.size + 1 + 1) rfl HR9.out (hs.set 3 w).1) rfl ?_
  exact ⟨rfl, HB9.out⟩
set_option maxHeartbeats 2000000 in
set_option maxRecDepth 100000 in
theorem laid_27 (CS : Array Value) (f : Nat → Int) (hs : IsSty CS f) (w q n : Int) (W : World) : Calls Try.prog 70 #[.agg CS, .agg #[.int .i64 27, .int .i64 w, .int .i64 q, .int .i64 n]] W fun e W' => e = .returned (.agg (CS.setIfInBounds 4 (.int .i64 w))) ∧ Below W.heap.size W W' := by
  obtain ⟨h1, h2, h3, h4⟩ := laid_boxes W CS #[.int .i64 27, .int .i64 w, .int .i64 q, .int .i64 n]
  go_enter Try.func70, Try.ntmps70
  go_upto_region 1 with (fail)
  generalize ((W.alloc (.cells CS 27)).alloc (.cells #[.int .i64 27, .int .i64 w, .int .i64 q, .int .i64 n] 78)).alloc (.cells z27 27) = w3 at *
  have HS := Lib.hid h1
  have HR := Lib.hid h3
  have HB := Lib.hid h4
  have d0 := (blk_cell h2 0).trans (show _ = some (Value.int .i64 27) from rfl)
  have d1 := (blk_cell h2 1).trans (show _ = some (Value.int .i64 w) from rfl)
  have d2 := (blk_cell h2 2).trans (show _ = some (Value.int .i64 q) from rfl)
  have d3 := (blk_cell h2 3).trans (show _ = some (Value.int .i64 n) from rfl)
  have c4 := HS.out.cell hs 4 (by decide)
  have fz4 := blk_frozen HS.out 4
  clear h1 h2 h3 h4
  go_wp2_with (first | ((with_reducible refine gate_dst (N := 146) rfl ?_); refine load27_ev (g := W.heap.size) rfl rfl rfl (HS.out.set 4 _) (hs.set 4 w).1 ?_) | ((with_reducible refine gate_store (t := 27) (p := 4) rfl ?_); refine store27_ev (g := W.heap.size + 1 + 1) rfl rfl rfl rfl (CS := (CS.setIfInBounds 4 (.int .i64 w))) (HR.out.far (p := ⟨W.heap.size, 4, none⟩) (by show W.heap.size + 1 + 1 ≠ W.heap.size; omega) _) z27_size (hs.set 4 w) ?_; intro w9 hR hO; have HR9 := Lib.hid hR; have HB9 := Lib.hid (hO.below (below_set HB.out (Nat.le_refl _)) (by omega)); clear hR hO))
  refine bodyPost_ret (results_sty (p := 4) rfl _ _ (W.heap.size + 1 + 1) rfl HR9.out (hs.set 4 w).1) rfl ?_
  exact ⟨rfl, HB9.out⟩
set_option maxHeartbeats 2000000 in
set_option maxRecDepth 100000 in
theorem laid_28 (CS : Array Value) (f : Nat → Int) (hs : IsSty CS f) (w q n : Int) (W : World) : Calls Try.prog 70 #[.agg CS, .agg #[.int .i64 28, .int .i64 w, .int .i64 q, .int .i64 n]] W fun e W' => e = .returned (.agg (CS.setIfInBounds 5 (.int .i64 w))) ∧ Below W.heap.size W W' := by
  obtain ⟨h1, h2, h3, h4⟩ := laid_boxes W CS #[.int .i64 28, .int .i64 w, .int .i64 q, .int .i64 n]
  go_enter Try.func70, Try.ntmps70
  go_upto_region 1 with (fail)
  generalize ((W.alloc (.cells CS 27)).alloc (.cells #[.int .i64 28, .int .i64 w, .int .i64 q, .int .i64 n] 78)).alloc (.cells z27 27) = w3 at *
  have HS := Lib.hid h1
  have HR := Lib.hid h3
  have HB := Lib.hid h4
  have d0 := (blk_cell h2 0).trans (show _ = some (Value.int .i64 28) from rfl)
  have d1 := (blk_cell h2 1).trans (show _ = some (Value.int .i64 w) from rfl)
  have d2 := (blk_cell h2 2).trans (show _ = some (Value.int .i64 q) from rfl)
  have d3 := (blk_cell h2 3).trans (show _ = some (Value.int .i64 n) from rfl)
  have c5 := HS.out.cell hs 5 (by decide)
  have fz5 := blk_frozen HS.out 5
  clear h1 h2 h3 h4
  go_wp2_with (first | ((with_reducible refine gate_dst (N := 146) rfl ?_); refine load27_ev (g := W.heap.size) rfl rfl rfl (HS.out.set 5 _) (hs.set 5 w).1 ?_) | ((with_reducible refine gate_store (t := 27) (p := 4) rfl ?_); refine store27_ev (g := W.heap.size + 1 + 1) rfl rfl rfl rfl (CS := (CS.setIfInBounds 5 (.int .i64 w))) (HR.out.far (p := ⟨W.heap.size, 5, none⟩) (by show W.heap.size + 1 + 1 ≠ W.heap.size; omega) _) z27_size (hs.set 5 w) ?_; intro w9 hR hO; have HR9 := Lib.hid hR; have HB9 := Lib.hid (hO.below (below_set HB.out (Nat.le_refl _)) (by omega)); clear hR hO))
  refine bodyPost_ret (results_sty (p := 4) rfl _ _ (W.heap.size + 1 + 1) rfl HR9.out (hs.set 5 w).1) rfl ?_
  exact ⟨rfl, HB9.out⟩
set_option maxHeartbeats 2000000 in
set_option maxRecDepth 100000 in
theorem laid_29 (CS : Array Value) (f : Nat → Int) (hs : IsSty CS f) (w q n : Int) (W : World) : Calls Try.prog 70 #[.agg CS, .agg #[.int .i64 29, .int .i64 w, .int .i64 q, .int .i64 n]] W fun e W' => e = .returned (.agg (CS.setIfInBounds 6 (.int .i64 w))) ∧ Below W.heap.size W W' := by
  obtain ⟨h1, h2, h3, h4⟩ := laid_boxes W CS #[.int .i64 29, .int .i64 w, .int .i64 q, .int .i64 n]
  go_enter Try.func70, Try.ntmps70
  go_upto_region 1 with (fail)
  generalize ((W.alloc (.cells CS 27)).alloc (.cells #[.int .i64 29, .int .i64 w, .int .i64 q, .int .i64 n] 78)).alloc (.cells z27 27) = w3 at *
  have HS := Lib.hid h1
  have HR := Lib.hid h3
  have HB := Lib.hid h4
  have d0 := (blk_cell h2 0).trans (show _ = some (Value.int .i64 29) from rfl)
  have d1 := (blk_cell h2 1).trans (show _ = some (Value.int .i64 w) from rfl)
  have d2 := (blk_cell h2 2).trans (show _ = some (Value.int .i64 q) from rfl)
  have d3 := (blk_cell h2 3).trans (show _ = some (Value.int .i64 n) from rfl)
  have c6 := HS.out.cell hs 6 (by decide)
  have fz6 := blk_frozen HS.out 6
  clear h1 h2 h3 h4
  go_wp2_with (first | ((with_reducible refine gate_dst (N := 146) rfl ?_); refine load27_ev (g := W.heap.size) rfl rfl rfl (HS.out.set 6 _) (hs.set 6 w).1 ?_) | ((with_reducible refine gate_store (t := 27) (p := 4) rfl ?_); refine store27_ev (g := W.heap.size + 1 + 1) rfl rfl rfl rfl (CS := (CS.setIfInBounds 6 (.int .i64 w))) (HR.out.far (p := ⟨W.heap.size, 6, none⟩) (by show W.heap.size + 1 + 1 ≠ W.heap.size; omega) _) z27_size (hs.set 6 w) ?_; intro w9 hR hO; have HR9 := Lib.hid hR; have HB9 := Lib.hid (hO.below (below_set HB.out (Nat.le_refl _)) (by omega)); clear hR hO))
  refine bodyPost_ret (results_sty (p := 4) rfl _ _ (W.heap.size + 1 + 1) rfl HR9.out (hs.set 6 w).1) rfl ?_
  exact ⟨rfl, HB9.out⟩
set_option maxHeartbeats 2000000 in
set_option maxRecDepth 100000 in
theorem laid_30 (CS : Array Value) (f : Nat → Int) (hs : IsSty CS f) (w q n : Int) (W : World) : Calls Try.prog 70 #[.agg CS, .agg #[.int .i64 30, .int .i64 w, .int .i64 q, .int .i64 n]] W fun e W' => e = .returned (.agg (CS.setIfInBounds 7 (.int .i64 w))) ∧ Below W.heap.size W W' := by
  obtain ⟨h1, h2, h3, h4⟩ := laid_boxes W CS #[.int .i64 30, .int .i64 w, .int .i64 q, .int .i64 n]
  go_enter Try.func70, Try.ntmps70
  go_upto_region 1 with (fail)
  generalize ((W.alloc (.cells CS 27)).alloc (.cells #[.int .i64 30, .int .i64 w, .int .i64 q, .int .i64 n] 78)).alloc (.cells z27 27) = w3 at *
  have HS := Lib.hid h1
  have HR := Lib.hid h3
  have HB := Lib.hid h4
  have d0 := (blk_cell h2 0).trans (show _ = some (Value.int .i64 30) from rfl)
  have d1 := (blk_cell h2 1).trans (show _ = some (Value.int .i64 w) from rfl)
  have d2 := (blk_cell h2 2).trans (show _ = some (Value.int .i64 q) from rfl)
  have d3 := (blk_cell h2 3).trans (show _ = some (Value.int .i64 n) from rfl)
  have c7 := HS.out.cell hs 7 (by decide)
  have fz7 := blk_frozen HS.out 7
  clear h1 h2 h3 h4
  go_wp2_with (first | ((with_reducible refine gate_dst (N := 146) rfl ?_); refine load27_ev (g := W.heap.size) rfl rfl rfl (HS.out.set 7 _) (hs.set 7 w).1 ?_) | ((with_reducible refine gate_store (t := 27) (p := 4) rfl ?_); refine store27_ev (g := W.heap.size + 1 + 1) rfl rfl rfl rfl (CS := (CS.setIfInBounds 7 (.int .i64 w))) (HR.out.far (p := ⟨W.heap.size, 7, none⟩) (by show W.heap.size + 1 + 1 ≠ W.heap.size; omega) _) z27_size (hs.set 7 w) ?_; intro w9 hR hO; have HR9 := Lib.hid hR; have HB9 := Lib.hid (hO.below (below_set HB.out (Nat.le_refl _)) (by omega)); clear hR hO))
  refine bodyPost_ret (results_sty (p := 4) rfl _ _ (W.heap.size + 1 + 1) rfl HR9.out (hs.set 7 w).1) rfl ?_
  exact ⟨rfl, HB9.out⟩
set_option maxHeartbeats 2000000 in
set_option maxRecDepth 100000 in
theorem laid_31 (CS : Array Value) (f : Nat → Int) (hs : IsSty CS f) (w q n : Int) (W : World) : Calls Try.prog 70 #[.agg CS, .agg #[.int .i64 31, .int .i64 w, .int .i64 q, .int .i64 n]] W fun e W' => e = .returned (.agg (CS.setIfInBounds 42 (.int .i64 n))) ∧ Below W.heap.size W W' := by
  obtain ⟨h1, h2, h3, h4⟩ := laid_boxes W CS #[.int .i64 31, .int .i64 w, .int .i64 q, .int .i64 n]
  go_enter Try.func70, Try.ntmps70
  go_upto_region 1 with (fail)
  generalize ((W.alloc (.cells CS 27)).alloc (.cells #[.int .i64 31, .int .i64 w, .int .i64 q, .int .i64 n] 78)).alloc (.cells z27 27) = w3 at *
  have HS := Lib.hid h1
  have HR := Lib.hid h3
  have HB := Lib.hid h4
  have d0 := (blk_cell h2 0).trans (show _ = some (Value.int .i64 31) from rfl)
  have d1 := (blk_cell h2 1).trans (show _ = some (Value.int .i64 w) from rfl)
  have d2 := (blk_cell h2 2).trans (show _ = some (Value.int .i64 q) from rfl)
  have d3 := (blk_cell h2 3).trans (show _ = some (Value.int .i64 n) from rfl)
  have c42 := HS.out.cell hs 42 (by decide)
  have fz42 := blk_frozen HS.out 42
  clear h1 h2 h3 h4
  go_wp2_with (first | ((with_reducible refine gate_dst (N := 146) rfl ?_); refine load27_ev (g := W.heap.size) rfl rfl rfl (HS.out.set 42 _) (hs.set 42 n).1 ?_) | ((with_reducible refine gate_store (t := 27) (p := 4) rfl ?_); refine store27_ev (g := W.heap.size + 1 + 1) rfl rfl rfl rfl (CS := (CS.setIfInBounds 42 (.int .i64 n))) (HR.out.far (p := ⟨W.heap.size, 42, none⟩) (by show W.heap.size + 1 + 1 ≠ W.heap.size; omega) _) z27_size (hs.set 42 n) ?_; intro w9 hR hO; have HR9 := Lib.hid hR; have HB9 := Lib.hid (hO.below (below_set HB.out (Nat.le_refl _)) (by omega)); clear hR hO))
  refine bodyPost_ret (results_sty (p := 4) rfl _ _ (W.heap.size + 1 + 1) rfl HR9.out (hs.set 42 n).1) rfl ?_
  exact ⟨rfl, HB9.out⟩
set_option maxHeartbeats 2000000 in
set_option maxRecDepth 100000 in
theorem laid_32 (CS : Array Value) (f : Nat → Int) (hs : IsSty CS f) (w q n : Int) (W : World) : Calls Try.prog 70 #[.agg CS, .agg #[.int .i64 32, .int .i64 w, .int .i64 q, .int .i64 n]] W fun e W' => e = .returned (.agg (CS.setIfInBounds 8 (.int .i64 w))) ∧ Below W.heap.size W W' := by
  obtain ⟨h1, h2, h3, h4⟩ := laid_boxes W CS #[.int .i64 32, .int .i64 w, .int .i64 q, .int .i64 n]
  go_enter Try.func70, Try.ntmps70
  go_upto_region 1 with (fail)
  generalize ((W.alloc (.cells CS 27)).alloc (.cells #[.int .i64 32, .int .i64 w, .int .i64 q, .int .i64 n] 78)).alloc (.cells z27 27) = w3 at *
  have HS := Lib.hid h1
  have HR := Lib.hid h3
  have HB := Lib.hid h4
  have d0 := (blk_cell h2 0).trans (show _ = some (Value.int .i64 32) from rfl)
  have d1 := (blk_cell h2 1).trans (show _ = some (Value.int .i64 w) from rfl)
  have d2 := (blk_cell h2 2).trans (show _ = some (Value.int .i64 q) from rfl)
  have d3 := (blk_cell h2 3).trans (show _ = some (Value.int .i64 n) from rfl)
  have c8 := HS.out.cell hs 8 (by decide)
  have fz8 := blk_frozen HS.out 8
  clear h1 h2 h3 h4
  go_wp2_with (first | ((with_reducible refine gate_dst (N := 146) rfl ?_); refine load27_ev (g := W.heap.size) rfl rfl rfl (HS.out.set 8 _) (hs.set 8 w).1 ?_) | ((with_reducible refine gate_store (t := 27) (p := 4) rfl ?_); refine store27_ev (g := W.heap.size + 1 + 1) rfl rfl rfl rfl (CS := (CS.setIfInBounds 8 (.int .i64 w))) (HR.out.far (p := ⟨W.heap.size, 8, none⟩) (by show W.heap.size + 1 + 1 ≠ W.heap.size; omega) _) z27_size (hs.set 8 w) ?_; intro w9 hR hO; have HR9 := Lib.hid hR; have HB9 := Lib.hid (hO.below (below_set HB.out (Nat.le_refl _)) (by omega)); clear hR hO))
  refine bodyPost_ret (results_sty (p := 4) rfl _ _ (W.heap.size + 1 + 1) rfl HR9.out (hs.set 8 w).1) rfl ?_
  exact ⟨rfl, HB9.out⟩
theorem Sane.set {f : Nat → Int} (h : Sane f) (i : Nat) (v : Int) (hv : Near v) (h9 : i = 9 → v = 0 ∨ v = 1 ∨ v = 2) : Sane (fun j => if j = i then v else f j) := by
  refine ⟨fun j hj => ?_, ?_⟩
  · show Near (if j = i then v else f j)
    split
    · exact hv
    · exact h.nr j hj
  · show (if 9 = i then v else f 9) = 0 ∨ (if 9 = i then v else f 9) = 1 ∨ (if 9 = i then v else f 9) = 2
    split
    · rename_i e; exact h9 e.symm
    · exact h.k9
theorem laid_calls (CS : Array Value) (f : Nat → Int) (hs : IsSty CS f) (hf : Sane f) (p w q n : Int) (hp : 1 ≤ p ∧ p ≤ 32) (nw : Near w) (hq : q = 0 ∨ q = 1 ∨ q = 2) (nn : Near n) (W : World) :
    Calls Try.prog 70 #[.agg CS, .agg #[.int .i64 p, .int .i64 w, .int .i64 q, .int .i64 n]] W fun e W' => ∃ CS' f', e = .returned (.agg CS') ∧ IsSty CS' f' ∧ Sane f' ∧ Below W.heap.size W W' := by
  have nq : Near q := by unfold Near; omega
  have hc : p = 1 ∨ p = 2 ∨ p = 3 ∨ p = 4 ∨ p = 5 ∨ p = 6 ∨ p = 7 ∨ p = 8 ∨ p = 9 ∨ p = 10 ∨ p = 11 ∨ p = 12 ∨ p = 13 ∨ p = 14 ∨ p = 15 ∨ p = 16 ∨ p = 17 ∨ p = 18 ∨ p = 19 ∨ p = 20 ∨ p = 21 ∨ p = 22 ∨ p = 23 ∨ p = 24 ∨ p = 25 ∨ p = 26 ∨ p = 27 ∨ p = 28 ∨ p = 29 ∨ p = 30 ∨ p = 31 ∨ p = 32 := by omega
  rcases hc with rfl | rfl | rfl | rfl | rfl | rfl | rfl | rfl | rfl | rfl | rfl | rfl | rfl | rfl | rfl | rfl | rfl | rfl | rfl | rfl | rfl | rfl | rfl | rfl | rfl | rfl | rfl | rfl | rfl | rfl | rfl | rfl
  · exact (laid_1 CS f hs w q n W).mono fun e W' h => ⟨_, _, h.1, (hs.set 0 w), (hf.set 0 w nw (fun h => absurd h (by decide))), h.2⟩
  · exact (laid_2 CS f hs w q n W).mono fun e W' h => ⟨_, _, h.1, ((hs.set 9 q).set 10 n), ((hf.set 9 q nq (fun _ => hq)).set 10 n nn (fun h => absurd h (by decide))), h.2⟩
  · exact (laid_3 CS f hs w q n W).mono fun e W' h => ⟨_, _, h.1, ((hs.set 11 q).set 12 n), ((hf.set 11 q nq (fun h => absurd h (by decide))).set 12 n nn (fun h => absurd h (by decide))), h.2⟩
  · exact (laid_4 CS f hs w q n W).mono fun e W' h => ⟨_, _, h.1, ((hs.set 13 q).set 14 n), ((hf.set 13 q nq (fun h => absurd h (by decide))).set 14 n nn (fun h => absurd h (by decide))), h.2⟩
  · exact (laid_5 CS f hs w q n W).mono fun e W' h => ⟨_, _, h.1, ((hs.set 15 q).set 16 n), ((hf.set 15 q nq (fun h => absurd h (by decide))).set 16 n nn (fun h => absurd h (by decide))), h.2⟩
  · exact (laid_6 CS f hs w q n W).mono fun e W' h => ⟨_, _, h.1, ((hs.set 17 q).set 18 n), ((hf.set 17 q nq (fun h => absurd h (by decide))).set 18 n nn (fun h => absurd h (by decide))), h.2⟩
  · exact (laid_7 CS f hs w q n W).mono fun e W' h => ⟨_, _, h.1, ((hs.set 19 q).set 20 n), ((hf.set 19 q nq (fun h => absurd h (by decide))).set 20 n nn (fun h => absurd h (by decide))), h.2⟩
  · exact (laid_8 CS f hs w q n W).mono fun e W' h => ⟨_, _, h.1, ((hs.set 23 q).set 24 n), ((hf.set 23 q nq (fun h => absurd h (by decide))).set 24 n nn (fun h => absurd h (by decide))), h.2⟩
  · exact (laid_9 CS f hs w q n W).mono fun e W' h => ⟨_, _, h.1, ((hs.set 25 q).set 26 n), ((hf.set 25 q nq (fun h => absurd h (by decide))).set 26 n nn (fun h => absurd h (by decide))), h.2⟩
  · exact (laid_10 CS f hs w q n W).mono fun e W' h => ⟨_, _, h.1, ((hs.set 27 q).set 28 n), ((hf.set 27 q nq (fun h => absurd h (by decide))).set 28 n nn (fun h => absurd h (by decide))), h.2⟩
  · exact (laid_11 CS f hs w q n W).mono fun e W' h => ⟨_, _, h.1, ((hs.set 29 q).set 30 n), ((hf.set 29 q nq (fun h => absurd h (by decide))).set 30 n nn (fun h => absurd h (by decide))), h.2⟩
  · exact (laid_12 CS f hs w q n W).mono fun e W' h => ⟨_, _, h.1, (hs.set 31 n), (hf.set 31 n nn (fun h => absurd h (by decide))), h.2⟩
  · exact (laid_13 CS f hs w q n W).mono fun e W' h => ⟨_, _, h.1, (hs.set 32 n), (hf.set 32 n nn (fun h => absurd h (by decide))), h.2⟩
  · exact (laid_14 CS f hs w q n W).mono fun e W' h => ⟨_, _, h.1, (hs.set 33 n), (hf.set 33 n nn (fun h => absurd h (by decide))), h.2⟩
  · exact (laid_15 CS f hs w q n W).mono fun e W' h => ⟨_, _, h.1, (hs.set 34 n), (hf.set 34 n nn (fun h => absurd h (by decide))), h.2⟩
  · exact (laid_16 CS f hs w q n W).mono fun e W' h => ⟨_, _, h.1, (hs.set 35 n), (hf.set 35 n nn (fun h => absurd h (by decide))), h.2⟩
  · exact (laid_17 CS f hs w q n W).mono fun e W' h => ⟨_, _, h.1, (hs.set 36 n), (hf.set 36 n nn (fun h => absurd h (by decide))), h.2⟩
  · exact (laid_18 CS f hs w q n W).mono fun e W' h => ⟨_, _, h.1, (hs.set 37 n), (hf.set 37 n nn (fun h => absurd h (by decide))), h.2⟩
  · exact (laid_19 CS f hs w q n W).mono fun e W' h => ⟨_, _, h.1, (hs.set 38 n), (hf.set 38 n nn (fun h => absurd h (by decide))), h.2⟩
  · exact (laid_20 CS f hs w q n W).mono fun e W' h => ⟨_, _, h.1, (hs.set 1 w), (hf.set 1 w nw (fun h => absurd h (by decide))), h.2⟩
  · exact (laid_21 CS f hs w q n W).mono fun e W' h => ⟨_, _, h.1, (hs.set 2 w), (hf.set 2 w nw (fun h => absurd h (by decide))), h.2⟩
  · exact (laid_22 CS f hs w q n W).mono fun e W' h => ⟨_, _, h.1, ((hs.set 21 q).set 22 n), ((hf.set 21 q nq (fun h => absurd h (by decide))).set 22 n nn (fun h => absurd h (by decide))), h.2⟩
  · exact (laid_23 CS f hs w q n W).mono fun e W' h => ⟨_, _, h.1, (hs.set 39 w), (hf.set 39 w nw (fun h => absurd h (by decide))), h.2⟩
  · exact (laid_24 CS f hs w q n W).mono fun e W' h => ⟨_, _, h.1, (hs.set 40 w), (hf.set 40 w nw (fun h => absurd h (by decide))), h.2⟩
  · exact (laid_25 CS f hs w q n W).mono fun e W' h => ⟨_, _, h.1, (hs.set 41 w), (hf.set 41 w nw (fun h => absurd h (by decide))), h.2⟩
  · exact (laid_26 CS f hs w q n W).mono fun e W' h => ⟨_, _, h.1, (hs.set 3 w), (hf.set 3 w nw (fun h => absurd h (by decide))), h.2⟩
  · exact (laid_27 CS f hs w q n W).mono fun e W' h => ⟨_, _, h.1, (hs.set 4 w), (hf.set 4 w nw (fun h => absurd h (by decide))), h.2⟩
  · exact (laid_28 CS f hs w q n W).mono fun e W' h => ⟨_, _, h.1, (hs.set 5 w), (hf.set 5 w nw (fun h => absurd h (by decide))), h.2⟩
  · exact (laid_29 CS f hs w q n W).mono fun e W' h => ⟨_, _, h.1, (hs.set 6 w), (hf.set 6 w nw (fun h => absurd h (by decide))), h.2⟩
  · exact (laid_30 CS f hs w q n W).mono fun e W' h => ⟨_, _, h.1, (hs.set 7 w), (hf.set 7 w nw (fun h => absurd h (by decide))), h.2⟩
  · exact (laid_31 CS f hs w q n W).mono fun e W' h => ⟨_, _, h.1, (hs.set 42 n), (hf.set 42 n nn (fun h => absurd h (by decide))), h.2⟩
  · exact (laid_32 CS f hs w q n W).mono fun e W' h => ⟨_, _, h.1, (hs.set 8 w), (hf.set 8 w nw (fun h => absurd h (by decide))), h.2⟩
end Go.Proofs.Ytlnhhamfmnjapaa
