import Derived.Test.YtlnhhamfmnjapaaWa2
import Derived.Test.YtlnhhamfmnjapaaWa6
namespace Go.Proofs.Ytlnhhamfmnjapaa
open Go.RowKit Go.Proofs.YtlnhhamfmnjapaaW.PrintWords Go.Proofs.YtlnhhamfmnjapaaW.PrintLast Go.Proofs.YtlnhhamfmnjapaaW.PrintMore
open PParse
set_option linter.unusedVariables false
set_option linter.unusedSimpArgs false
attribute [local go_sem ↓] exec_alloc27 exec_load27
attribute [local go_sem] sty_drew row_drew
theorem cell_lt7 {w : World} {a : Addr} {v : Value} (h : w.cell? a = some v) : a.block < w.heap.size := by
  apply Decidable.byContradiction
  intro hn
  rw [show w.cell? a = none by simp [World.cell?, Array.getElem?_eq_none (show w.heap.size ≤ a.block by omega)]] at h
  cases h
def blkV (v : Value) : Nat := match v with
  | .pointer (some a) => a.block
  | _ => 0
theorem blkV_ptr (g : Nat) : blkV (.pointer (some ⟨g, 0, none⟩)) = g := rfl
theorem okSty_of {CS : Array Value} {f : Nat → Int} (h : IsSty CS f) : okSty (.agg CS) = true := by
  rw [okSty_agg, Bool.and_eq_true]
  exact ⟨by rw [h.1]; rfl, h.one⟩
theorem exec_store27s (ρ : Operand → Value) (dst : Option Tmp) (x y : Operand) (ty : TypeId) (pos : String) (after : Array Edge) (guard : Option (Nat × Bool)) (W : World) (h : StyAt W (ρ x)) (hy : okSty (ρ y) = true) :
    (execOp ρ { dst := dst, op := .store 27 x y, type := ty, pos := pos, after := after, guard := guard }).run Try.prog W = .ok .skip (W.setCells (blkV (ρ x)) 0 (ρ y).cells.toList) := by
  obtain ⟨g, cs, hx, hg, hs⟩ := h
  obtain ⟨c', hc'⟩ : ∃ c', ρ y = .agg c' := by
    cases hv : ρ y <;> rw [hv] at hy <;> simp [okSty] at hy
    exact ⟨_, rfl⟩
  rw [hc'] at hy
  rw [okSty_agg, Bool.and_eq_true] at hy
  have hs2 : c'.size = 43 := by simpa using hy.1
  have hl := run_storeAt_mid (P := Try.prog) W g 0 27 c' (fun j hj => by
    rw [Nat.zero_add]
    refine ⟨?_, blk_frozen hg j⟩
    rw [blk_cell hg j, Array.getElem?_eq_getElem (by omega)]; rfl) (by rw [hs2]; kernel_rfl) hy.2
  unfold execOp
  simp only [hx, hc', Sem.run_bind, Sem.run_pure, Result.andThen_ok, hl, cells_agg, blkV_ptr]
attribute [local go_sem ↓] exec_store27s
attribute [local go_sem] blkV_ptr cells_agg
structure SL (W wr : World) (CS : Array Value) (f : Nat → Int) : Prop where
  s : StyIn wr W.heap.size CS
  i : IsSty CS f
  n : Sane f
  r : StyIn wr (W.heap.size + 1) z27
  b : Below W.heap.size W wr
theorem okd_near {p w q n : Int} (h : OkD p w q n) : Near w ∧ Near n := by unfold OkD at h; unfold Near; omega
theorem style_boxes (W : World) (CS : Array Value) (f : Nat → Int) (hs : IsSty CS f) (hf : Sane f) : SL W ((W.alloc (.cells CS 27)).alloc (.cells z27 27)) CS f := by
  have s1 : (W.alloc (.cells CS 27)).heap.size = W.heap.size + 1 := alloc_size _ _
  have h1 : StyIn (W.alloc (.cells CS 27)) W.heap.size CS := heap_alloc_new W _
  have h3 := heap_alloc_new (W.alloc (.cells CS 27)) (.cells z27 27)
  rw [s1] at h3
  exact ⟨h1.alloc _, hs, hf, h3, below_alloc (below_alloc (Below.refl _ _) _) _⟩
theorem SL.below {W wr w1 : World} {CS : Array Value} {f : Nat → Int} (h : SL W wr CS f) (hb : Below wr.heap.size wr w1) : SL W w1 CS f :=
  ⟨h.s.below hb, h.i, h.n, h.r.below hb, below_step h.b hb⟩
theorem SL.put {W wr w1 : World} {CS CS2 : Array Value} {f f2 : Nat → Int} (h : SL W wr CS f) (hi : IsSty CS2 f2) (hn : Sane f2) (hs : StyIn w1 W.heap.size CS2) (ho : Only W.heap.size wr w1) : SL W w1 CS2 f2 :=
  ⟨hs, hi, hn, (ho.block _ (by omega)).trans h.r, ho.below h.b (Nat.le_refl _)⟩
theorem SL.drew {W wr : World} {CS : Array Value} {f : Nat → Int} (h : SL W wr CS f) (n : Nat) : SL W (wr.drewN n) CS f := h.below (pw_below_drewN (Below.refl _ _) n)
theorem sl_at {W wr : World} {CS : Array Value} {f : Nat → Int} (h : SL W wr CS f) : StyAt wr (.pointer (some ⟨W.heap.size, 0, none⟩)) ∧ rowV wr (.pointer (some ⟨W.heap.size, 0, none⟩)) = CS := sty_mk h.s h.i.1
theorem sl_S {W w' : World} {CS : Array Value} {f : Nat → Int} (h : SL W w' CS f) {ad : Addr} {xs : List S78} (hc : k78.C W (some ad) xs.length xs) {i : Nat} (hi : i < xs.length) {x : S78} (hx : rd_T78 xs (i : Int) = x) : StyAt w' (.pointer (some ⟨W.heap.size, 0, none⟩)) ∧ w'.cell? (ad.add (i * 4)) = some (.int .i64 x.f0) ∧ w'.cell? ⟨(ad.add (i * 4)).block, (ad.add (i * 4)).off + 1, none⟩ = some (.int .i64 x.f1) ∧ w'.cell? ⟨(ad.add (i * 4)).block, (ad.add (i * 4)).off + 2, none⟩ = some (.int .i64 x.f2.f0) ∧ w'.cell? ⟨(ad.add (i * 4)).block, (ad.add (i * 4)).off + 3, none⟩ = some (.int .i64 x.f2.f1) := by
  obtain ⟨ad2, hA2, y0, y1, y2, y3⟩ := at_T78 (Kd.C_below hc h.b) (i : Int) (by omega) (by omega)
  cases hA2
  rw [hx] at y0 y1 y2 y3
  simp only [Int.toNat_natCast] at y0 y1 y2 y3
  exact ⟨(sl_at h).1, y0, y1, y2, y3⟩
theorem SL.stored {W wr : World} {CS CS2 : Array Value} {f f2 : Nat → Int} (h : SL W wr CS f) (hi : IsSty CS2 f2) (hn : Sane f2) : SL W (wr.setCells W.heap.size 0 CS2.toList) CS2 f2 :=
  h.put hi hn (sets_sty h.s (by rw [h.i.1, hi.1])) (only_sets _ _ 0 wr)
theorem sl_range {W w' : World} {CS : Array Value} {f : Nat → Int} (h : SL W w' CS f) : w'.rangeAt W.heap.size 0 CS.toList := fun j v hv => by
  rw [Nat.zero_add, blk_cell h.s j, ← hv]; simp
theorem sl_there {W w' : World} {CS CS2 : Array Value} {f : Nat → Int} (h : SL W w' CS f) (h2 : CS2.size = 43) : w'.there W.heap.size 0 CS2.size := fun j hj => by
  have hj2 : j < CS.size := by rw [h.i.1]; omega
  rw [Nat.zero_add]
  refine ⟨?_, blk_frozen h.s j⟩
  rw [blk_cell h.s j, Array.getElem?_eq_getElem hj2]; rfl
set_option maxHeartbeats 4000000 in
set_option maxRecDepth 100000 in
theorem style_calls (CS : Array Value) (f : Nat → Int) (hs : IsSty CS f) (hf : Sane f) (A : Option Addr) (c : Nat) (xs : List S78) (W : World) (hc : k78.C W A xs.length xs) :
    Calls Try.prog 60 #[.agg CS, .slice A xs.length c] W fun e W' => ∃ CS' f', e = .returned (.agg CS') ∧ IsSty CS' f' ∧ Sane f' ∧ Below W.heap.size W W' := by
  have h0 := style_boxes W CS f hs hf
  have HC := Lib.hid hc
  have hmx := Kd.C_max hc
  clear hc hs hf
  go_enter Try.func60, Try.ntmps60
  go_upto_region 1 with (fail)
  generalize (W.alloc (.cells CS 27)).alloc (.cells z27 27) = w3 at *
  have H0 := Lib.hid h0
  clear h0
  go_wp2_with (fail)
  go_loopg [5] xs.length (fun gk v5 wr => ∃ (i : Nat) (CS1 : Array Value) (f1 : Nat → Int), v5 = .int .i64 (i : Int) ∧ i ≤ xs.length ∧ xs.length - i ≤ gk ∧ Hid (SL W wr CS1 f1))
  case atStart => exact ⟨0, _, _, rfl, by omega, by omega, H0⟩
  case round =>
    clear H0
    obtain ⟨i, CS1, f1, rfl, hi, hk, HS⟩ := hrel
    by_cases c1 : i < xs.length
    · have b1 : decide ((i : Int) < (xs.length : Int)) = true := decide_eq_true (by omega)
      have b1' : decide (i < xs.length) = true := decide_eq_true c1
      obtain ⟨ad, hA, y0, y1, y2, y3⟩ := at_T78 (Kd.C_below HC.out HS.out.b) (i : Int) (by omega) (by omega)
      obtain ⟨x, hx⟩ : ∃ x, rd_T78 xs (i : Int) = x := ⟨_, rfl⟩
      rw [hx] at y0 y1 y2 y3
      cases hA
      simp only [Int.toNat_natCast] at y0 y1 y2 y3
      have p1 := eq_true (show 0 ≤ (i : Int) by omega)
      have q1 := eq_true (show (i : Int) < (xs.length : Int) by omega)
      go_upto_if 16 with (go_at_call 69; (with_reducible refine (may_calls x.f0 x.f1 x.f2.f0 x.f2.f1 _).mono ?_); rintro e w1 ⟨b, rfl, hok, hb⟩; have HOK := Lib.hid hok; have HS1 := Lib.hid (HS.out.below hb); clear hok hb)
      cases b
      · go_wp2_with (fail)
        go_roundg (xs.length - (i + 1))
        case measure => omega
        case rel => exact ⟨i + 1, _, _, by simp, by omega, by omega, Lib.hid (by first | exact HS1.out | exact HS1.out.drew _)⟩
      · obtain ⟨hp, _, hq, _⟩ := HOK.out rfl
        obtain ⟨nw, nn⟩ := okd_near (HOK.out rfl)
        have HL := Lib.hid (fun w => laid_calls CS1 f1 HS1.out.i HS1.out.n x.f0 x.f1 x.f2.f0 x.f2.f1 hp nw hq nn w)
        have hy := sl_S HS1.out HC.out (by omega) hx
        have hss := (sl_at HS1.out).2
        clear hp hq nw nn y0 y1 y2 y3
        go_upto_region 5 with (fail)
        have HK1 := Lib.hid (Below.refl w1.heap.size w1)
        obtain ⟨z0, z1, z2, z3, z4⟩ := hy
        have HRG := Lib.hid (sl_range HS1.out)
        have HIN := Lib.hid (show (Try.prog.info? 27).map (·.size) = some CS1.toList.length by rw [show CS1.toList.length = 43 by simpa using HS1.out.i.1]; kernel_rfl)
        refine wp_region_any (by kernel_rfl) ?_
        (change wpAny _ _ _ _ _ _ _ (World.drew _))
        refine wpAny_take (i := 1) (v := ?_) rfl (by kernel_rfl) (by kernel_rfl) (by kernel_rfl) (fun _ _ _ h => h) (Or.inl ⟨by rfl, ?_⟩) ?_
        rotate_left
        · intro w; go_simp; with_reducible rfl
        (try simp only [Act.put, List.setIfInBounds_toArray, List.set_cons_zero, List.set_cons_succ])
        refine wpAny_take (i := 2) (v := ?_) rfl (by kernel_rfl) (by kernel_rfl) (by kernel_rfl) (fun _ _ _ h => h) (Or.inl ⟨by rfl, ?_⟩) ?_
        rotate_left
        · intro w; go_simp; with_reducible rfl
        (try simp only [Act.put, List.setIfInBounds_toArray, List.set_cons_zero, List.set_cons_succ])
        refine wpAny_take (i := 3) (v := ?_) rfl (by kernel_rfl) (by kernel_rfl) (by kernel_rfl) (fun _ _ _ h => h) (Or.inl ⟨by rfl, ?_⟩) ?_
        rotate_left
        · intro w; go_simp; with_reducible rfl
        (try simp only [Act.put, List.setIfInBounds_toArray, List.set_cons_zero, List.set_cons_succ])
        refine wpAny_ready (rs := [0, 4]) (by kernel_rfl) (by simp) ?_
        refine BigFrame.allReady_want rfl (by rfl) (fun K hK => ?_) (BigFrame.allReady_want rfl (by rfl) (fun K hK => ?_) AllReady.nil)
        · refine wp_load_mid 27 (.tmp 2) rfl W.heap.size 0 rfl CS1.toList _ HRG.out Try.underlying27 rfl HIN.out ?_
          refine hK _ _ ?_
          clear hK K
          (try simp only [Act.put, List.setIfInBounds_toArray, List.set_cons_zero, List.set_cons_succ])
          refine wpAny_ready (rs := [4]) (by kernel_rfl) (by simp) ?_
          refine BigFrame.allReady_want rfl (by rfl) (fun K hK => ?_) AllReady.nil
          go_simp
          refine hK _ _ ?_
          clear hK K
          refine wpAny_ready (rs := [5]) (by kernel_rfl) (by simp) ?_
          refine BigFrame.allReady_want rfl (by rfl) (fun K hK => ?_) AllReady.nil
          go_simp
          go_at_call 70
          (with_reducible refine (HL.out _).mono ?_)
          rintro e wx ⟨CS2, f2, rfl, h2i, h2n, hb⟩
          have HX := Lib.hid (HS1.out.below (below_step (below_drew1 (Below.refl w1.heap.size w1)) hb))
          clear hb
          refine hK _ _ ?_
          clear hK K
          (try simp only [Act.put, List.setIfInBounds_toArray, List.set_cons_zero, List.set_cons_succ])
          refine wpAny_ready (rs := [6]) (by kernel_rfl) (by simp) ?_
          refine BigFrame.allReady_want rfl (by rfl) (fun K hK => ?_) AllReady.nil
          refine wp_store_mid 27 (.tmp 2) (.tmp 22) rfl W.heap.size 0 CS2 rfl rfl (sl_there HX.out h2i.1) (by rw [h2i.1]; kernel_rfl) h2i.one ?_
          refine hK _ _ ?_
          clear hK K
          (try simp only [Act.put, List.setIfInBounds_toArray, List.set_cons_zero, List.set_cons_succ])
          refine wpAny_done (by kernel_rfl) ?_ _
          go_wp2_with (fail)
          go_roundg (xs.length - (i + 1))
          case measure => omega
          case rel => exact ⟨i + 1, _, _, by simp, by omega, by omega, Lib.hid (HX.out.stored h2i h2n)⟩
        · go_simp
          refine hK _ _ ?_
          clear hK K
          refine wpAny_ready (rs := [0]) (by kernel_rfl) (by simp) ?_
          refine BigFrame.allReady_want rfl (by rfl) (fun K hK => ?_) AllReady.nil
          refine wp_load_mid 27 (.tmp 2) rfl W.heap.size 0 rfl CS1.toList _ HRG.out Try.underlying27 rfl HIN.out ?_
          refine hK _ _ ?_
          clear hK K
          (try simp only [Act.put, List.setIfInBounds_toArray, List.set_cons_zero, List.set_cons_succ])
          refine wpAny_ready (rs := [5]) (by kernel_rfl) (by simp) ?_
          refine BigFrame.allReady_want rfl (by rfl) (fun K hK => ?_) AllReady.nil
          go_simp
          go_at_call 70
          (with_reducible refine (HL.out _).mono ?_)
          rintro e wx ⟨CS2, f2, rfl, h2i, h2n, hb⟩
          have HX := Lib.hid (HS1.out.below (below_step (below_drew1 (Below.refl w1.heap.size w1)) hb))
          clear hb
          refine hK _ _ ?_
          clear hK K
          (try simp only [Act.put, List.setIfInBounds_toArray, List.set_cons_zero, List.set_cons_succ])
          refine wpAny_ready (rs := [6]) (by kernel_rfl) (by simp) ?_
          refine BigFrame.allReady_want rfl (by rfl) (fun K hK => ?_) AllReady.nil
          refine wp_store_mid 27 (.tmp 2) (.tmp 22) rfl W.heap.size 0 CS2 rfl rfl (sl_there HX.out h2i.1) (by rw [h2i.1]; kernel_rfl) h2i.one ?_
          refine hK _ _ ?_
          clear hK K
          (try simp only [Act.put, List.setIfInBounds_toArray, List.set_cons_zero, List.set_cons_succ])
          refine wpAny_done (by kernel_rfl) ?_ _
          go_wp2_with (fail)
          go_roundg (xs.length - (i + 1))
          case measure => omega
          case rel => exact ⟨i + 1, _, _, by simp, by omega, by omega, Lib.hid (HX.out.stored h2i h2n)⟩
    · have b1 : decide ((i : Int) < (xs.length : Int)) = false := decide_eq_false (by omega)
      have b1' : decide (i < xs.length) = false := decide_eq_false c1
      have hss1 := (sl_at HS.out).1
      have hss2 := (sl_at HS.out).2
      have hss3 := (sty_mk HS.out.r z27_size).1
      have hok := okSty_of HS.out.i
      go_wp2_with (fail)
      refine bodyPost_ret (results_sty (p := 4) rfl _ _ (W.heap.size + 1) rfl (sets_sty HS.out.r (z27_size.trans HS.out.i.1.symm)) HS.out.i.1) rfl ?_
      exact ⟨_, _, rfl, HS.out.i, HS.out.n, (only_sets _ _ 0 wr).below HS.out.b (by omega)⟩
end Go.Proofs.Ytlnhhamfmnjapaa
