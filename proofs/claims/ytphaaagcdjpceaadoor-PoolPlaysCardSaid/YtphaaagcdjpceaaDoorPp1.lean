/- The walk of PoolPlays. -/
import Derived.Test.YtphaaagcdjpceaaDoorPp0
import Derived.Deep.RegionHeld3
namespace Go.Proofs.YtphaaagcdjpceaaDoor
open Go.RowKit Go.Extern.Stop Go.Stop Go.Extern Go.Proofs.YtphaaagcdjpceaaDoorW.PrintWords Go.Proofs.YtphaaagcdjpceaaDoorW.PrintLast Go.Proofs.YtphaaagcdjpceaaDoorW.PrintMore
set_option linter.unusedVariables false
/-- A row of handles that came in. -/
def InHands (w : World) (a : Option Addr) (len cap : Nat) (zs : List Int) : Prop :=
  ∀ i, i < len → ∃ x p t, a = some x ∧ w.cell? (x.add (i * 2)) = some (.int .i64 p) ∧ w.cell? ⟨(x.add (i * 2)).block, (x.add (i * 2)).off + 1, none⟩ = some (.int .i64 t) ∧ -9223372036854775808 ≤ p ∧ p ≤ 9223372036854775807
theorem InHands.below {w W : World} {a : Option Addr} {len cap : Nat} {zs : List Int} (h : InHands w a len cap zs) (hb : Below w.heap.size w W) : InHands W a len cap zs := fun i hi => by
  obtain ⟨x, p, t, h1, h2, h3, h4⟩ := h i hi
  exact ⟨x, p, t, h1, (hb.cell (cell_lt h2)).trans h2, (hb.cell (cell_lt h3)).trans h3, h4⟩
/-- A row of handles below block M. -/
abbrev HRl (W : World) (base M : Nat) (v : Value) (hs : List S40) : Prop := Kd.R k40 40 W base (fun k => k < M) v hs
theorem HRl.of {W : World} {base : Nat} {v : Value} {hs : List S40} (h : HR W base v hs) : HRl W base W.heap.size v hs := Kd.R_mono (Kd.R_bound h) (fun _ hk => hk.2.2.1)
theorem HRl.hr {W : World} {base M : Nat} {v : Value} {hs : List S40} (h : HRl W base M v hs) : HR W base v hs := Kd.R_mono h (fun _ _ => trivial)
theorem HRl.below {W W1 : World} {base M : Nat} {v : Value} {hs : List S40} (h : HRl W base M v hs) (hb : Below W.heap.size W W1) : HRl W1 base M v hs := Kd.R_below h hb
theorem HRl.set {W : World} {base M b j : Nat} {v u : Value} {hs : List S40} (h : HRl W base M v hs) (hb : M ≤ b) : HRl (W.setCell ⟨b, j, none⟩ u) base M v hs := Kd.R_move h (fun k hk => Below.heap_setCell W ⟨b, j, none⟩ u k (by show k ≠ b; omega))
/-- What the loop keeps of memory, with the handle's own block. -/
structure Js (w0 wr wc : World) (g z1 r N h0 : Nat) (ps : List S108) (hs : List S40) (v : Value) (p t : Int) : Prop where
  hn : Hn wc h0 p t
  st : St w0 wc g (N : Int) ps (cnt ps : Int)
  rp : RP wc z1 r ps N
  hr : HRl wc w0.heap.size h0 v hs
  bl : Below h0 wr wc
theorem Js.set {w0 wr wc : World} {g z1 r N h0 : Nat} {ps : List S108} {hs : List S40} {v : Value} {p t : Int} (h : Js w0 wr wc g z1 r N h0 ps hs v p t) (hw : w0.heap.size ≤ h0) (p1 t1 : Int) : Js w0 wr ((wc.setCell ⟨h0, 0, none⟩ (.int .i64 p1)).setCell ⟨h0, 1, none⟩ (.int .i64 t1)) g z1 r N h0 ps hs v p1 t1 := by
  have h1 := blk_set h.hn 0 (.int .i64 p1)
  have hk := ((Keeps.refl [40] wc).set h.hn (by decide) 0 (.int .i64 p1)).set h1 (by decide) 1 (.int .i64 t1)
  have hb := ((Below.refl h0 wc).setCell (p := ⟨h0, 0, none⟩) (Nat.le_refl _) (.int .i64 p1)).setCell (p := ⟨h0, 1, none⟩) (Nat.le_refl _) (.int .i64 t1)
  exact ⟨blk_set h1 1 (.int .i64 t1), h.st.keepsT (hb.mono hw) hk ⟨by decide, by decide⟩, h.rp.keeps hk ⟨by decide, by decide, by decide⟩, (h.hr.set (Nat.le_refl _)).set (Nat.le_refl _), h.bl.trans hb⟩
theorem Js.of {w0 wr wa : World} {g z1 r N : Nat} {ps : List S108} {hs : List S40} {v : Value} (hs0 : St w0 wr g (N : Int) ps (cnt ps : Int)) (hr : RP wr z1 r ps N) (hv : HR wr w0.heap.size v hs) (p t : Int) (hn : Hn wa wr.heap.size p t) (hb : Below wr.heap.size wr wa) : Js w0 wr wa g z1 r N wr.heap.size ps hs v p t :=
  ⟨hn, hs0.below hb, hr.below hb, (HRl.of hv).below hb, hb⟩
/-- What PoolPlays' loop keeps. -/
structure Ply (ps : List S108) (hs : List S40) (N c : Nat) : Prop where
  lp : ps.length ≤ N
  lc : ps.length ≤ c
  lh : hs.length ≤ c
  tb : ∀ k, k < ps.length → 0 ≤ (plc ps k).f0 ∧ (plc ps k).f0 ≤ c
  hb : ∀ k, k < hs.length → 0 ≤ (hat hs k).f0 ∧ (hat hs k).f0 ≤ 1000
theorem Ply.zero (N : Nat) : Ply [] [] N 0 := ⟨Nat.zero_le _, Nat.le_refl _, Nat.le_refl _, fun k h => absurd h (Nat.not_lt_zero _), fun k h => absurd h (Nat.not_lt_zero _)⟩
theorem Ply.up {ps : List S108} {hs : List S40} {N c : Nat} (h : Ply ps hs N c) : Ply ps hs N (c + 1) := ⟨h.lp, by have := h.lc; omega, by have := h.lh; omega, fun k hk => by have := h.tb k hk; omega, h.hb⟩
theorem Ply.bound {ps : List S108} {hs : List S40} {N c : Nat} (h : Ply ps hs N c) {i : Nat} (hi : i ≤ ps.length) : 0 ≤ turnOf ps i ∧ turnOf ps i ≤ c + 1 := by
  rcases Nat.lt_or_ge i ps.length with hl | hl
  · rw [turnOf_in hl]
    have := h.tb i hl
    omega
  · obtain rfl : i = ps.length := by omega
    rw [turnOf_out]
    omega
theorem Ply.snoc {ps : List S108} {hs : List S40} {N c : Nat} (h : Ply ps hs N c) (p t : Int) (hp : 0 ≤ p ∧ p ≤ 1000) : Ply ps (hs ++ [⟨p, t⟩]) N (c + 1) := by
  have hu := h.up
  refine ⟨hu.lp, hu.lc, by have := h.lh; simp; omega, hu.tb, ?_⟩
  intro k hk
  rw [List.length_append, List.length_singleton] at hk
  rcases Nat.lt_or_ge k hs.length with hk2 | hk2
  · rw [hat_snoc _ hk2]; exact h.hb k hk2
  · obtain rfl : k = hs.length := by omega
    rw [hat_last]; exact hp
theorem Ply.took {ps : List S108} {hs : List S40} {N c : Nat} (h : Ply ps hs N c) {i : Nat} (hi : i ≤ ps.length) (hN : i < N) : Ply (tookL ps i) hs N (c + 1) := by
  have hlen : (tookL ps i).length = if i < ps.length then ps.length else ps.length + 1 := took_len hi
  have hb := h.bound hi
  have h1 := h.lp; have h2 := h.lc; have h3 := h.lh
  refine ⟨by rw [hlen]; split <;> omega, by rw [hlen]; split <;> omega, by omega, ?_, h.hb⟩
  intro k hk
  rcases Nat.decEq i k with hne | rfl
  · have hk2 : k < ps.length := by
      rw [hlen] at hk
      split at hk <;> omega
    rw [plc_took_ne hne hk2]
    have := h.tb k hk2
    omega
  · rw [plc_took hi]
    show 0 ≤ turnOf ps i ∧ turnOf ps i ≤ ((c + 1 : Nat) : Int)
    omega
theorem Ply.took2 {ps : List S108} {hs : List S40} {N c : Nat} (h : Ply ps hs N c) {i : Nat} (hi : i ≤ ps.length) (hN : i < N) (hc : c ≤ 100) : Ply (tookL ps i) (hs ++ [⟨(i : Int), turnOf ps i⟩]) N (c + 1) := by
  have h1 := h.took hi hN
  have h2 := h.snoc (i : Int) (turnOf ps i) (by have := h.lc; omega)
  exact ⟨h1.lp, h1.lc, h2.lh, h1.tb, h2.hb⟩
theorem Ply.freed {ps : List S108} {hs : List S40} {N c : Nat} (h : Ply ps hs N c) {i : Nat} (hi : i < ps.length) : Ply (freed ps i) hs N (c + 1) := by
  have hu := h.up
  refine ⟨by rw [freed_len]; exact hu.lp, by rw [freed_len]; exact hu.lc, hu.lh, ?_, hu.hb⟩
  intro k hk
  rw [freed_len] at hk
  have := hu.tb k hk
  rcases Nat.decEq i k with hne | rfl
  · rw [plc_freed_ne hne]; exact this
  · rw [plc_freed hi]; exact this
theorem hasB_lt {ps : List S108} {p t : Int} (h : hasB ps p t = true) : ∃ i : Nat, p = (i : Int) ∧ i < ps.length ∧ (plc ps i).f1 = true := by
  unfold hasB at h
  simp only [Bool.and_eq_true, decide_eq_true_eq] at h
  obtain ⟨h0, h1, h2, _⟩ := h
  exact ⟨p.toNat, by omega, by omega, h2⟩
set_option maxHeartbeats 8000000 in
set_option maxRecDepth 100000 in
theorem plays_walk (a : Int) (A : Option Addr) (len cap : Nat) (zs : List Int) (B : Option Addr) (lenB cap2 : Nat) (zs2 : List Int) (w : World) (hG : Good w) (hi : InRow w A len cap zs) (hh : InHands w B lenB cap2 zs2) : Calls Tryd.prog 5 #[.int .i64 a, .slice A len cap, .slice B lenB cap2] w fun e w' => e = .returned (.bool true) ∧ Below w.heap.size w w' := by
  have HG := Lib.hid hG
  have HI := Lib.hid hi
  have HH := Lib.hid hh
  clear hG hi hh
  go_enter Tryd.func5, Tryd.ntmps5
  go_wp2_with (fail)
  go_loopg [0, 7] 2 (fun gk v0 v7 wr => ∃ (b : Int) (q : Nat), v0 = .int .i64 b ∧ v7 = .int .i64 (q : Int) ∧ q ≤ 2 ∧ 2 - q ≤ gk ∧ Hid (Below w.heap.size w wr))
  case atStart => exact ⟨a, 0, rfl, rfl, by omega, by omega, Below.refl _ _⟩
  case round =>
    obtain ⟨b, q, rfl, rfl, hq, hqk, HB⟩ := hrel
    by_cases hq2 : q < 2
    · have cq : (q : Int) < 2 := by omega
      obtain ⟨N, hN⟩ : ∃ N : Nat, min (max b 0) 10000 = (N : Int) := ⟨(min (max b 0) 10000).toNat, by omega⟩
      have HN := Lib.hid hN
      have HN1 := Lib.hid (show N ≤ 10000 by omega)
      clear hN
      generalize hw0 : wr = w0 at *
      clear hw0
      go_wp2_with (fail)
      go_at_call 15
      (with_reducible refine (new_calls2 b _).mono ?_)
      rintro e w1 ⟨rfl, h1⟩
      rw [HN.out] at h1
      have H1 := Lib.hid h1
      clear h1
      generalize w0.heap.size = g at *
      go_wp2_with (fail)
      go_at_call 20
      (with_reducible refine (newref_calls b N HN.out _).mono ?_)
      rintro e w2 ⟨r, rfl, hr, hb⟩
      have HS0 := Lib.hid (H1.out.below hb)
      have HR0 := Lib.hid hr
      have HL0 := Lib.hid H1.out.bl.size
      clear hr hb H1
      generalize w1.heap.size = z1 at *
      go_wp2_with (fail)
      go_loopg [10, 11] 60 (fun gk2 v10 v11 wr => ∃ (i : Nat) (ps : List S108) (hs : List S40), v11 = .int .i64 (i : Int) ∧ i ≤ 60 ∧ 60 - i ≤ gk2 ∧ Hid (Ply ps hs N i) ∧ Hid (St w0 wr g (N : Int) ps (cnt ps : Int)) ∧ Hid (RP wr z1 r ps N) ∧ Hid (HR wr w0.heap.size v10 hs))
      case atStart => exact ⟨0, [], [], rfl, by omega, by omega, Ply.zero N, HS0.out, HR0.out, Kd.R_nil _ _ _ _ _⟩
      case round =>
        clear HS0 HR0
        obtain ⟨i, ps, hs, rfl, hi, hk, HP, HS, HR1, HV⟩ := hrel
        obtain ⟨A6, c6, rfl⟩ := Kd.R_slice HV.out
        by_cases h60 : i < 60
        · by_cases hlen : i < len
          · obtain ⟨x, n, rfl, hx, _, _⟩ := (HI.out.below (below_step HB.out HS.out.bl)).at_ i hlen
            have c0 : (i : Int) < (len : Int) := by omega
            have c00 : (0 : Int) ≤ (i : Int) := by omega
            have c1 : (i : Int) < 60 := by omega
            have qn : Go.bits .and .i64 (n / 256) 7 = n / 256 % 8 := and_mask (n / 256) 3 (by decide)
            have qm : Go.bits .and .i64 (n / 65536) 3 = n / 65536 % 4 := and_mask (n / 65536) 2 (by decide)
            have hx2 : (wr.alloc (.cells #[.int .i64 0, .int .i64 0] 40)).cell? (x.add i) = some (.int .i64 n) := ((below_alloc (Below.refl _ wr) _).cell (cell_lt hx)).trans hx
            have BA := below_drew1 (below_alloc (Below.refl wr.heap.size wr) (.cells #[.int .i64 (n / 256 % 8), .int .i64 (n / 65536 % 4)] 40))
            have HX := Lib.hid hx
            have HBA := Lib.hid BA
            have HJ : Hid (Js w0 wr ((wr.alloc (.cells #[.int .i64 (n / 256 % 8), .int .i64 (n / 65536 % 4)] 40)).drew) g z1 r N wr.heap.size ps hs (.slice A6 hs.length c6) (n / 256 % 8) (n / 65536 % 4)) := Lib.hid (Js.of HS.out HR1.out HV.out _ _ (blk_below (heap_alloc_new wr (.cells #[.int .i64 (n / 256 % 8), .int .i64 (n / 65536 % 4)] 40)) (below_drew1 (Below.refl _ _))) BA)
            have HW0 := Lib.hid HS.out.bl.size
            have LH := Lib.hid (show hs.length ≤ 60 by have := HP.out.lh; omega)
            have HPR := Lib.hid (show -9223372036854775808 ≤ n / 256 % 8 ∧ n / 256 % 8 ≤ 9223372036854775807 by omega)
            clear BA
            go_upto_region 11 with (fail)
            go_region
            rename_i K12 hK12
            refine hK12 _ _ ?_
            clear hK12 hx2 hx qn qm
            have hx := (HBA.out.cell (cell_lt HX.out)).trans HX.out
            generalize (wr.alloc (.cells #[.int .i64 (n / 256 % 8), .int .i64 (n / 65536 % 4)] 40)).drew = wa at *
            generalize n / 256 % 8 = p0 at *
            generalize n / 65536 % 4 = t0 at *
            generalize hh0 : wr.heap.size = h0 at *
            have HH0 := Lib.hid hh0
            clear hh0 HS HR1 HV
            refine wp_seq_k (fun K13 hK13 => ?_)
            go_cut [] (fun wc => ∃ p t : Int, Hid (-9223372036854775808 ≤ p ∧ p ≤ 9223372036854775807) ∧ Hid (Js w0 wr wc g z1 r N h0 ps hs (.slice A6 hs.length c6) p t))
            case first =>
              by_cases hc : 0 < hs.length
              · have ch0 : (0 : Int) < (hs.length : Int) := by omega
                by_cases h4 : Go.bits .and .i64 n 4 = 4
                · have qk : Go.bits .and .i64 (n / 256) 65535 = n / 256 % 65536 := and_mask (n / 256) 16 (by decide)
                  have qt : Int.tmod (n / 256 % 65536) (hs.length : Int) = n / 256 % 65536 % (hs.length : Int) := Int.tmod_eq_emod_of_nonneg (Int.emod_nonneg _ (by decide))
                  have cm : (hs.length : Int) ≠ 0 := by omega
                  obtain ⟨k, hk1, hkl⟩ : ∃ k : Nat, n / 256 % 65536 % (hs.length : Int) = (k : Int) ∧ k < hs.length := ⟨(n / 256 % 65536 % (hs.length : Int)).toNat, by have := Int.emod_nonneg (n / 256 % 65536) cm; omega, by have := Int.emod_lt_of_pos (n / 256 % 65536) (show (0 : Int) < (hs.length : Int) by omega); have := Int.emod_nonneg (n / 256 % 65536) cm; omega⟩
                  have hv := HJ.out.hr.hr
                  obtain ⟨ad6, c6', hv6⟩ := HR.form hv hc
                  injection hv6 with e1 _ e2
                  subst e1 e2
                  have o6 := HR.op hv k hkl
                  have r0 := o6.x0
                  have r1 := o6.x1
                  have HKB := Lib.hid (HP.out.hb k hkl)
                  clear o6 hv
                  have ck : (k : Int) < (hs.length : Int) := by omega
                  have ck0 : (0 : Int) ≤ (k : Int) := by omega
                  have z0 := (blk_cell HJ.out.hn 0).trans (show _ = some (Value.int .i64 p0) from rfl)
                  have zz1 := (blk_cell HJ.out.hn 1).trans (show _ = some (Value.int .i64 t0) from rfl)
                  have u0 : wa.frozen? ⟨h0, 0, none⟩ = false := blk_frozen HJ.out.hn 0
                  have u1 : wa.frozen? ⟨h0, 1, none⟩ = false := blk_frozen HJ.out.hn 1
                  go_wp2
                  go_meet
                  case rel => exact ⟨(hat hs k).f0, (hat hs k).f1, Lib.hid (by have := HKB.out; omega), Lib.hid (HJ.out.set HW0.out _ _)⟩
                · have h4b : (Go.bits .and .i64 n 4 == 4) = false := by simpa using h4
                  clear h4
                  go_wp2
                  go_meet
                  case rel => exact ⟨p0, t0, HPR, HJ⟩
              · have ch0 : ¬ ((0 : Int) < (hs.length : Int)) := by omega
                go_wp2
                go_meet
                case rel => exact ⟨p0, t0, HPR, HJ⟩
            case rest =>
              clear HJ HPR
              obtain ⟨p0, t0, HPR, HJ⟩ := hcut
              refine hK13 _ _ ?_
              clear hK13 hx
              have hx := (HJ.out.bl.cell (p := x.add i) (by rw [← HH0.out]; exact cell_lt HX.out)).trans HX.out
              refine wp_seq_k (fun K14 hK14 => ?_)
              go_cut [] (fun wc => ∃ p t : Int, Hid (-9223372036854775808 ≤ p ∧ p ≤ 9223372036854775807) ∧ Hid (Js w0 wr wc g z1 r N h0 ps hs (.slice A6 hs.length c6) p t))
              case first =>
                by_cases hl2 : i < lenB
                · have cl2 : (i : Int) < (lenB : Int) := by omega
                  by_cases h8 : Go.bits .and .i64 n 8 = 8
                  · obtain ⟨y, p1, t1, rfl, y0, y1, hp1⟩ := HH.out i hl2
                    have BW := below_step HB.out HJ.out.st.bl
                    have r0 := (BW.cell (cell_lt y0)).trans y0
                    have r1 := (BW.cell (cell_lt y1)).trans y1
                    have HP1 := Lib.hid hp1
                    clear BW y0 y1 hp1
                    have z0 := (blk_cell HJ.out.hn 0).trans (show _ = some (Value.int .i64 p0) from rfl)
                    have zz1 := (blk_cell HJ.out.hn 1).trans (show _ = some (Value.int .i64 t0) from rfl)
                    have u0 : wc.frozen? ⟨h0, 0, none⟩ = false := blk_frozen HJ.out.hn 0
                    have u1 : wc.frozen? ⟨h0, 1, none⟩ = false := blk_frozen HJ.out.hn 1
                    go_wp2
                    go_meet
                    case rel => exact ⟨p1, t1, HP1, Lib.hid (HJ.out.set HW0.out _ _)⟩
                  · have h8b : (Go.bits .and .i64 n 8 == 8) = false := by simpa using h8
                    clear h8
                    go_wp2
                    go_meet
                    case rel => exact ⟨p0, t0, HPR, HJ⟩
                · have cl2 : ¬ ((i : Int) < (lenB : Int)) := by omega
                  go_wp2
                  go_meet
                  case rel => exact ⟨p0, t0, HPR, HJ⟩
              case rest =>
                clear HJ HPR
                obtain ⟨p0, t0, HPR, HJ⟩ := hcut
                refine hK14 _ _ ?_
                clear hK14 hx
                have hx := (HJ.out.bl.cell (p := x.add i) (by rw [← HH0.out]; exact cell_lt HX.out)).trans HX.out
                by_cases hodd : n % 2 = 1
                · have qo : Go.bits .and .i64 n 1 = n % 2 := and_mask n 1 (by decide)
                  have ho : (n % 2 == 1) = true := by simpa using hodd
                  clear hodd
                  by_cases hfull : ff ps = N
                  · have hlN : ps.length = N := by have := ff_le ps; have := HP.out.lp; omega
                    have HP2 := Lib.hid (HP.out.snoc 0 0 (by omega))
                    have HTK := Lib.hid (fun (j : Nat) (hj : j < N) => ff_tk (ps := ps) (j := j) (by omega))
                    have HLP := Lib.hid (show ps.length ≤ 60 by have := HP.out.lc; omega)
                    have HSf : Hid (St w0 wc g ((ff ps : Nat) : Int) ps (cnt ps : Int)) := Lib.hid (by rw [hfull]; exact HJ.out.st)
                    clear hlN
                    go_wp2_with (fail)
                    go_at_call 16
                    (with_reducible refine (full2 w0 _ (HG.out.below HB.out) g (cnt ps : Int) ps (ff ps) HSf.out (ff_le ps) (fun k hk => ff_tk hk) (fun h => ff_no h) (by have := HLP.out; omega)).mono ?_)
                    rintro e w2 ⟨k2, rfl, hj2, h2, b2⟩
                    rw [hfull] at h2
                    have B2 := below_alloc (Below.refl w2.heap.size w2) (.cells #[.int .i64 0, .int .i64 0] 40)
                    have HS2 := Lib.hid (h2.below B2)
                    have HJ2 := Lib.hid (hj2.below B2)
                    have HV2 := Lib.hid ((HR.below HJ.out.hr.hr b2).below B2)
                    have HR2 := Lib.hid ((HJ.out.rp.below b2).below B2)
                    have HN2 := Lib.hid (show Hn (w2.alloc (.cells #[.int .i64 0, .int .i64 0] 40)) w2.heap.size 0 0 from heap_alloc_new w2 _)
                    clear h2 b2 hj2 B2 HJ HSf
                    go_wp2_with (fail)
                    generalize w2.alloc (.cells #[.int .i64 0, .int .i64 0] 40) = w3 at *
                    go_at_call 21
                    (with_reducible refine (rtake_full r z1 N ps _ HR2.out HN1.out HTK.out).mono ?_)
                    rintro e w4 ⟨rfl, b4⟩
                    have B4 := below_alloc (Below.refl w4.heap.size w4) (.cells #[.int .i64 0, .int .i64 0] 40)
                    have HS5 := Lib.hid ((HS2.out.below b4).below B4)
                    have HJ5 := Lib.hid ((HJ2.out.below b4).below B4)
                    have HV5 := Lib.hid ((HR.below HV2.out b4).below B4)
                    have HR5 := Lib.hid ((HR2.out.below b4).below B4)
                    have HN3 := Lib.hid (show Hn _ _ _ _ from blk_below (blk_below HN2.out b4) B4)
                    have HN4 := Lib.hid (show Hn (w4.alloc (.cells #[.int .i64 0, .int .i64 0] 40)) w4.heap.size 0 0 from heap_alloc_new w4 _)
                    clear b4 B4 HS2 HV2 HR2 HN2 HJ2
                    go_upto_region 19 with (fail)
                    generalize w4.alloc (.cells #[.int .i64 0, .int .i64 0] 40) = w5 at *
                    have q0 := (blk_cell HN3.out 0).trans (show _ = some (Value.int .i64 0) from rfl)
                    have q1 := (blk_cell HN3.out 1).trans (show _ = some (Value.int .i64 0) from rfl)
                    have qq0 := (blk_cell HN4.out 0).trans (show _ = some (Value.int .i64 0) from rfl)
                    have qq1 := (blk_cell HN4.out 1).trans (show _ = some (Value.int .i64 0) from rfl)
                    go_wp2_with (fail)
                    go_at_call 14
                    (with_reducible refine (code_join k2 2 _ (good_et' (HS5.out.good (HG.out.below HB.out))) HJ5.out).mono ?_)
                    rintro e w6 ⟨rfl, b6⟩
                    have HS6 := Lib.hid (HS5.out.below b6)
                    have HV6 := Lib.hid (HR.below HV5.out b6)
                    have HRz := Lib.hid (HR5.out.below b6)
                    have HN6 := Lib.hid (show Hn _ _ _ _ from blk_below HN3.out b6)
                    clear b6 HS5 HV5 HR5 HJ5 HN3 HN4 q0 q1 qq0 qq1
                    have q0 := (blk_cell HN6.out 0).trans (show _ = some (Value.int .i64 0) from rfl)
                    have q1 := (blk_cell HN6.out 1).trans (show _ = some (Value.int .i64 0) from rfl)
                    go_wp2_with (((with_reducible refine gate_builtin (b := .append) (xs := #[.tmp 118, .tmp 120]) rfl ?_); at_builtin; refine Kd.R_append k40 (w0 := w0) w0.heap.size rfl (.tmp 118) (.tmp 120) 38 40 (.agg #[(.int .i64 0), (.int .i64 0)]) 16 rfl Tryd.underlying38 info40 rfl (by decide) (by decide) (.slice A6 hs.length c6) hs ⟨(0 : Int), (0 : Int)⟩ [.int .i64 (0 : Int), .int .i64 (0 : Int)] (fun _ => True) (fun _ => False) rfl ?aX ?aP (fun _ hk => hk.elim) ?aF ?aO ?aB ?aS ?aL ?_; (case aX => first | rfl | (go_simp; done) | (go_simp; rfl)); (case aP => exact k40_mkM _ _ _ ⟨(0 : Int), (0 : Int)⟩); (case aB => exact HS6.out.bl); (case aF => exact (fun _ _ => trivial)); (case aO => exact HV6.out); (case aS => exact HS6.out.bl.size); (case aL => (have := LH.out; omega)); intro v8 w8 ho hb hg hat; have HV9 := Lib.hid ho; have HS9 := Lib.hid (HS6.out.keeps (below_app40 HV6.out HS6.out.bl.size hg) (keeps_app40 HV6.out hg)); have HR9 := Lib.hid (HRz.out.keeps (keeps_app40 HV6.out hg) ⟨by decide, by decide, by decide⟩); clear ho hb hg hat))
                    go_roundg (60 - (i + 1))
                    case measure => omega
                    case rel => exact ⟨i + 1, _, _, by simp, by omega, by omega, HP2.out, HS9.out, HR9.out, HV9.out⟩
                  · have hfN : ff ps < N := by have := ff_le ps; have := HP.out.lp; omega
                    have HP2 := Lib.hid (HP.out.took2 (ff_le ps) hfN (by omega))
                    have HCT := Lib.hid (cnt_took (ff ps) (ff_le ps) (fun h => ff_no h))
                    have HTB := Lib.hid (HP.out.bound (ff_le ps))
                    have HLP := Lib.hid (show ps.length ≤ 60 by have := HP.out.lc; omega)
                    have HCN := Lib.hid (show (cnt ps : Int) ≤ 60 by have := cnt_le ps; have := HP.out.lc; omega)
                    go_wp2_with (fail)
                    go_at_call 16
                    (with_reducible refine (take2 w0 _ g (N : Int) (cnt ps : Int) ps (ff ps) HJ.out.st (ff_le ps) (fun k hk => ff_tk hk) (fun h => ff_no h) (by omega) (by have := HLP.out; omega) HTB.out.1 (by have := HTB.out.2; omega) (by omega) (by have := HCN.out; omega)).mono ?_)
                    rintro e w2 ⟨rfl, h2, f2⟩
                    have B2 := below_alloc (Below.refl w2.heap.size w2) (.cells #[.int .i64 (ff ps : Int), .int .i64 (turnOf ps (ff ps))] 40)
                    have HS2 := Lib.hid (h2.below B2)
                    have HV2 := Lib.hid ((HR.fr HJ.out.hr.hr f2).below B2)
                    have HR2 := Lib.hid ((HJ.out.rp.keeps f2.2 ⟨by decide, by decide, by decide⟩).below B2)
                    have HN2 := Lib.hid (show Hn (w2.alloc (.cells #[.int .i64 (ff ps : Int), .int .i64 (turnOf ps (ff ps))] 40)) w2.heap.size (ff ps : Int) (turnOf ps (ff ps)) from heap_alloc_new w2 _)
                    clear h2 f2 B2 HJ
                    go_wp2_with (fail)
                    generalize w2.alloc (.cells #[.int .i64 (ff ps : Int), .int .i64 (turnOf ps (ff ps))] 40) = w3 at *
                    go_at_call 21
                    (with_reducible refine (rtake_ok r z1 N ps (ff ps) _ HR2.out HN1.out (ff_le ps) hfN (fun k hk => ff_tk hk) (fun h => ff_no h) HTB.out.1 (by have := HTB.out.2; omega)).mono ?_)
                    rintro e w4 ⟨rfl, h4, f4⟩
                    have B4 := below_alloc (Below.refl w4.heap.size w4) (.cells #[.int .i64 (ff ps : Int), .int .i64 (turnOf ps (ff ps))] 40)
                    have HS4 := Lib.hid ((HS2.out.keepsT (f4.1.mono HL0.out) f4.2 ⟨by decide, by decide⟩).below B4)
                    have HV4 := Lib.hid ((HR.keepsT HV2.out f4.2 (by decide)).below B4)
                    have HRz := Lib.hid (h4.below B4)
                    have HN3 := Lib.hid (show Hn _ _ _ _ from blk_below (HN2.out.fd f4) B4)
                    have HN4 := Lib.hid (show Hn (w4.alloc (.cells #[.int .i64 (ff ps : Int), .int .i64 (turnOf ps (ff ps))] 40)) w4.heap.size (ff ps : Int) (turnOf ps (ff ps)) from heap_alloc_new w4 _)
                    clear h4 f4 B4 HS2 HV2 HR2 HN2
                    go_upto_region 19 with (fail)
                    generalize w4.alloc (.cells #[.int .i64 (ff ps : Int), .int .i64 (turnOf ps (ff ps))] 40) = w5 at *
                    clear hfN
                    generalize turnOf ps (ff ps) = t5 at *
                    generalize tookL ps (ff ps) = ps5 at *
                    generalize ff ps = p5 at *
                    have HS5 : Hid (St w0 w5 g (N : Int) ps5 (cnt ps5 : Int)) := Lib.hid (by have h := HS4.out; rw [show (cnt ps : Int) + 1 = (cnt ps5 : Int) by rw [HCT.out]; omega] at h; exact h)
                    clear HS4 HCT HTB
                    have q0 := (blk_cell HN3.out 0).trans (show _ = some (Value.int .i64 (p5 : Int)) from rfl)
                    have q1 := (blk_cell HN3.out 1).trans (show _ = some (Value.int .i64 t5) from rfl)
                    have qq0 := (blk_cell HN4.out 0).trans (show _ = some (Value.int .i64 (p5 : Int)) from rfl)
                    have qq1 := (blk_cell HN4.out 1).trans (show _ = some (Value.int .i64 t5) from rfl)
                    go_wp2_with (fail)
                    go_at_call 14
                    (with_reducible refine (code_nil _).mono ?_)
                    rintro e wz ⟨rfl, rfl⟩
                    go_wp2_with (((with_reducible refine gate_builtin (b := .append) (xs := #[.tmp 118, .tmp 120]) rfl ?_); at_builtin; refine Kd.R_append k40 (w0 := w0) w0.heap.size rfl (.tmp 118) (.tmp 120) 38 40 (.agg #[(.int .i64 0), (.int .i64 0)]) 16 rfl Tryd.underlying38 info40 rfl (by decide) (by decide) (.slice A6 hs.length c6) hs ⟨(p5 : Int), t5⟩ [.int .i64 (p5 : Int), .int .i64 t5] (fun _ => True) (fun _ => False) rfl ?aX ?aP (fun _ hk => hk.elim) ?aF ?aO ?aB ?aS ?aL ?_; (case aX => first | rfl | (go_simp; done) | (go_simp; rfl)); (case aP => exact k40_mkM _ _ _ ⟨(p5 : Int), t5⟩); (case aB => exact HS5.out.bl); (case aF => exact (fun _ _ => trivial)); (case aO => exact HV4.out); (case aS => exact HS5.out.bl.size); (case aL => (have := LH.out; omega)); intro v8 w8 ho hb hg hat; have HV9 := Lib.hid ho; have HS9 := Lib.hid (HS5.out.keeps (below_app40 HV4.out HS5.out.bl.size hg) (keeps_app40 HV4.out hg)); have HR9 := Lib.hid (HRz.out.keeps (keeps_app40 HV4.out hg) ⟨by decide, by decide, by decide⟩); clear ho hb hg hat))
                    go_roundg (60 - (i + 1))
                    case measure => omega
                    case rel => exact ⟨i + 1, _, _, by simp, by omega, by omega, HP2.out, HS9.out, HR9.out, HV9.out⟩
                · have qo : Go.bits .and .i64 n 1 = n % 2 := and_mask n 1 (by decide)
                  have ho : (n % 2 == 1) = false := by simpa using hodd
                  clear hodd
                  have q0 := (blk_cell HJ.out.hn 0).trans (show _ = some (Value.int .i64 p0) from rfl)
                  have q1 := (blk_cell HJ.out.hn 1).trans (show _ = some (Value.int .i64 t0) from rfl)
                  have HC22 : Hid (∀ W', Below wc.heap.size wc W' → Calls Tryd.prog 22 #[.pointer (some ⟨g, 0, none⟩), .agg #[.int .i64 p0, .int .i64 t0]] W' fun e w' => e = .returned (.bool (hasB ps p0 t0)) ∧ Below W'.heap.size W' w') := by
                    intro W' hb'
                    refine (has2 w0 W' g (N : Int) _ ps _ _ (HJ.out.st.below hb')).mono ?_
                    rintro e w' ⟨rfl, _, hb2⟩
                    exact ⟨rfl, hb2⟩
                  have HC23 : Hid (∀ W', Below wc.heap.size wc W' → Calls Tryd.prog 23 #[.pointer (some ⟨r, 0, none⟩), .agg #[.int .i64 p0, .int .i64 t0]] W' fun e w' => e = .returned (.bool (hasB ps p0 t0)) ∧ Below W'.heap.size W' w') := fun W' hb' => rhas_calls r z1 N ps p0 t0 W' (HJ.out.rp.below hb') HP.out.lp
                  have HHB := Lib.hid (show ∃ hbv, hasB ps p0 t0 = hbv from ⟨_, rfl⟩)
                  obtain ⟨hbv, hhbv⟩ := HHB.out
                  rw [hhbv] at HC22 HC23
                  have HK1 := Lib.hid (Below.refl wc.heap.size wc)
                  have HBV := Lib.hid hhbv
                  clear hhbv HHB
                  go_upto_region 25 with (fail)
                  go_cut [128] (fun v128 wd => v128 = .bool false ∧ Hid (Below wc.heap.size wc wd))
                  case first =>
                    go_region_held3 (fun w' => w'.cell? ⟨h0, 0, none⟩ = some (.int .i64 p0) ∧ w'.cell? ⟨h0, 1, none⟩ = some (.int .i64 t0)) (first | go_keep | exact ⟨q0, q1⟩ | exact ⟨(HK1.out.cell (cell_lt q0)).trans q0, (HK1.out.cell (cell_lt q1)).trans q1⟩) (first | (go_at_call 22; (with_reducible refine (HC22.out _ (by first | exact HK1.out | exact below_drew1 HK1.out)).mono ?_); rintro e wx ⟨rfl, hb⟩; first | (have HK1 := Lib.hid (below_step HK1.out hb)) | (have HK1 := Lib.hid (show Below wc.heap.size wc wx from below_step (below_drew1 HK1.out) hb))) | (go_at_call 23; (with_reducible refine (HC23.out _ (by first | exact HK1.out | exact below_drew1 HK1.out)).mono ?_); rintro e wx ⟨rfl, hb⟩; first | (have HK1 := Lib.hid (below_step HK1.out hb)) | (have HK1 := Lib.hid (show Below wc.heap.size wc wx from below_step (below_drew1 HK1.out) hb))))
                    all_goals (
                      go_wp2
                      go_meet
                      case rel => exact ⟨by simp, HK1.out⟩)
                  case rest =>
                    obtain ⟨rfl, HBd⟩ := hcut
                    clear HK1 HC22 HC23 q0 q1
                    rename_i wd
                    have HN5 := Lib.hid (show Hn _ _ _ _ from blk_below HJ.out.hn HBd.out)
                    have HS5 := Lib.hid (HJ.out.st.below HBd.out)
                    have HR5 := Lib.hid (HJ.out.rp.below HBd.out)
                    have HV5 := Lib.hid (HR.below HJ.out.hr.hr HBd.out)
                    clear HJ HBd
                    have q0 := (blk_cell HN5.out 0).trans (show _ = some (Value.int .i64 p0) from rfl)
                    have q1 := (blk_cell HN5.out 1).trans (show _ = some (Value.int .i64 t0) from rfl)
                    have HCN := Lib.hid (show (cnt ps : Int) ≤ 60 by have := cnt_le ps; have := HP.out.lc; omega)
                    cases hbv
                    case false =>
                      have HP2 := Lib.hid HP.out.up
                      go_wp2_with (fail)
                      go_at_call 24
                      (with_reducible refine (rfree_no r z1 N ps p0 t0 _ HR5.out HP.out.lp HBV.out).mono ?_)
                      rintro e w6 ⟨rfl, b6⟩
                      have HS6 := Lib.hid (HS5.out.below b6)
                      have HR6 := Lib.hid (HR5.out.below b6)
                      have HV6 := Lib.hid (HR.below HV5.out b6)
                      have HN6 := Lib.hid (show Hn _ _ _ _ from blk_below HN5.out b6)
                      clear b6 HS5 HR5 HV5 HN5 q0 q1
                      have q0 := (blk_cell HN6.out 0).trans (show _ = some (Value.int .i64 p0) from rfl)
                      have q1 := (blk_cell HN6.out 1).trans (show _ = some (Value.int .i64 t0) from rfl)
                      go_wp2_with (fail)
                      go_at_call 17
                      (with_reducible refine (no2 w0 _ (HG.out.below HB.out) g (N : Int) (cnt ps : Int) ps p0 t0 HS6.out HPR.out HBV.out).mono ?_)
                      rintro e w7 ⟨k7, rfl, hj7, h7, b7⟩
                      have HS7 := Lib.hid h7
                      have HJ7 := Lib.hid hj7
                      have HR7 := Lib.hid (HR6.out.below b7)
                      have HV7 := Lib.hid (HR.below HV6.out b7)
                      clear h7 hj7 b7 HS6 HR6 HV6 HN6 q0 q1
                      go_wp2_with (fail)
                      go_at_call 14
                      (with_reducible refine (code_join k7 3 _ (good_et' (HS7.out.good (HG.out.below HB.out))) HJ7.out).mono ?_)
                      rintro e w8 ⟨rfl, b8⟩
                      have HS8 := Lib.hid (HS7.out.below b8)
                      have HR8 := Lib.hid (HR7.out.below b8)
                      have HV8 := Lib.hid (HR.below HV7.out b8)
                      clear b8 HS7 HR7 HV7 HJ7
                      go_wp2_with (fail)
                      go_at_call 18
                      (with_reducible refine (len2 w0 _ g _ _ _ HS8.out).mono ?_)
                      rintro e wt ⟨rfl, rfl⟩
                      go_wp2_with (fail)
                      go_at_call 25
                      (with_reducible refine (rlen_calls r z1 N ps _ HR8.out HN1.out HP.out.lp).mono ?_)
                      rintro e wt ⟨rfl, rfl⟩
                      go_wp2
                      go_roundg (60 - (i + 1))
                      case measure => omega
                      case rel => exact ⟨i + 1, _, _, by simp, by omega, by omega, HP2.out, HS8.out, HR8.out, HV8.out⟩
                    case true =>
                      obtain ⟨i0, hi0, hil, hit⟩ := hasB_lt HBV.out
                      subst hi0
                      have HIL := Lib.hid hil
                      have HP2 := Lib.hid (HP.out.freed hil)
                      have HCF := Lib.hid (show ((cnt (freed ps i0) : Nat) : Int) = (cnt ps : Int) - 1 by have := cnt_freed hil hit; have := cnt_pos hil hit; omega)
                      clear hil hit
                      go_wp2_with (fail)
                      go_at_call 24
                      (with_reducible refine (rfree_yes r z1 N ps i0 t0 _ HR5.out HP.out.lp HIL.out HBV.out).mono ?_)
                      rintro e w6 ⟨rfl, h6, f6⟩
                      have HS6 := Lib.hid (HS5.out.keepsT (f6.1.mono HL0.out) f6.2 ⟨by decide, by decide⟩)
                      have HR6 := Lib.hid h6
                      have HV6 := Lib.hid (HR.keepsT HV5.out f6.2 (by decide))
                      have HN6 := Lib.hid (HN5.out.fd f6)
                      clear h6 f6 HS5 HR5 HV5 HN5 q0 q1
                      have q0 := (blk_cell HN6.out 0).trans (show _ = some (Value.int .i64 (i0 : Int)) from rfl)
                      have q1 := (blk_cell HN6.out 1).trans (show _ = some (Value.int .i64 t0) from rfl)
                      go_wp2_with (fail)
                      go_at_call 17
                      (with_reducible refine (yes2 w0 _ g (N : Int) (cnt ps : Int) ps (i0 : Int) i0 t0 rfl HS6.out HIL.out HBV.out (by omega) (by have := HCN.out; omega)).mono ?_)
                      rintro e w7 ⟨rfl, h7, f7⟩
                      have HS7 : Hid (St w0 w7 g (N : Int) (freed ps i0) ((cnt (freed ps i0) : Nat) : Int)) := Lib.hid (by rw [HCF.out]; exact h7)
                      have HR7 := Lib.hid (HR6.out.keeps f7.2 ⟨by decide, by decide, by decide⟩)
                      have HV7 := Lib.hid (HR.fr HV6.out f7)
                      clear h7 f7 HS6 HR6 HV6 HN6 q0 q1 HCF
                      generalize freed ps i0 = ps7 at *
                      go_wp2_with (fail)
                      go_at_call 14
                      (with_reducible refine (code_nil _).mono ?_)
                      rintro e w8 ⟨rfl, rfl⟩
                      go_wp2_with (fail)
                      go_at_call 18
                      (with_reducible refine (len2 w0 _ g _ _ _ HS7.out).mono ?_)
                      rintro e wt ⟨rfl, rfl⟩
                      go_wp2_with (fail)
                      go_at_call 25
                      (with_reducible refine (rlen_calls r z1 N ps7 _ HR7.out HN1.out HP2.out.lp).mono ?_)
                      rintro e wt ⟨rfl, rfl⟩
                      go_wp2
                      go_roundg (60 - (i + 1))
                      case measure => omega
                      case rel => exact ⟨i + 1, _, _, by simp, by omega, by omega, HP2.out, HS7.out, HR7.out, HV7.out⟩
          · have c0 : ¬ ((i : Int) < (len : Int)) := by omega
            have HBe := Lib.hid (below_step HB.out HS.out.bl)
            go_wp2
            go_roundg (2 - (q + 1))
            case measure => omega
            case rel => exact ⟨_, q + 1, rfl, by simp, by omega, by omega, HBe.out⟩
        · obtain rfl : i = 60 := by omega
          by_cases hlen : 60 < len
          · have c0 : (60 : Int) < (len : Int) := by omega
            have HBe := Lib.hid (below_step HB.out HS.out.bl)
            go_wp2
            go_roundg (2 - (q + 1))
            case measure => omega
            case rel => exact ⟨_, q + 1, rfl, by simp, by omega, by omega, HBe.out⟩
          · have c0 : ¬ ((60 : Int) < (len : Int)) := by omega
            have HBe := Lib.hid (below_step HB.out HS.out.bl)
            go_wp2
            go_roundg (2 - (q + 1))
            case measure => omega
            case rel => exact ⟨_, q + 1, rfl, by simp, by omega, by omega, HBe.out⟩
    · obtain rfl : q = 2 := by omega
      go_wp2_with (fail)
      go_at_call 19
      (with_reducible refine (awake_calls _ (HG.out.below HB.out)).mono ?_)
      rintro e wz ⟨rfl, bz⟩
      have HBz := Lib.hid (below_step HB.out bz)
      clear bz
      go_wp2
      go_ret
      exact ⟨rfl, HBz.out⟩
end Go.Proofs.YtphaaagcdjpceaaDoor
