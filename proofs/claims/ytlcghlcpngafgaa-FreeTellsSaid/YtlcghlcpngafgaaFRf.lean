/- The walk of quoinref9.Resolve, items that may be: the sizes behind all turns (the document's answer). -/
import Derived.Test.YtlcghlcpngafgaaFSw
import Derived.Test.YtlcghlcpngafgaaFRp
import Derived.Test.YtlcghlcpngafgaaFRs
namespace Go.Proofs.Ytlcghlcpngafgaa.PFree
open Go.RowKit Go.Proofs.YtlcghlcpngafgaaW.PrintWords Go.Proofs.YtlcghlcpngafgaaW.PrintLast Go.Proofs.YtlcghlcpngafgaaW.PrintMore
set_option linter.unusedVariables false
set_option linter.unusedSimpArgs false
/-- The document's state: the items, its rows of sizes and of who is frozen. -/
structure Rf (w0 W : World) (A0 : Option Addr) (l : List S39) (G F : Nat) (sz : Nat → Int) (fz : Nat → Bool) : Prop where
  items : Kd.C k39 w0 A0 l.length l
  below : Below w0.heap.size w0 W
  size : RowI W G l.length sz
  frozen : RowB W F l.length fz
  cap : Cap W G l.length
  loG : w0.heap.size ≤ G
  loF : w0.heap.size ≤ F
section
variable {w0 W W1 : World} {A0 : Option Addr} {l : List S39} {G F : Nat} {sz : Nat → Int} {fz : Nat → Bool}
theorem Rf.step (h : Rf w0 W A0 l G F sz fz) (hb : Below W.heap.size W W1) : Rf w0 W1 A0 l G F sz fz :=
  ⟨h.items, below_then h.below h.below.size hb, h.size.below hb, h.frozen.below hb, h.cap.below hb, h.loG, h.loF⟩
theorem Rf.GF (h : Rf w0 W A0 l G F sz fz) : G ≠ F := h.size.ne h.frozen (by decide)
theorem Rf.far (h : Rf w0 W A0 l G F sz fz) {p : Addr} (h0 : w0.heap.size ≤ p.block) (h2 : G ≠ p.block) (h3 : F ≠ p.block) (u : Value) : Rf w0 (W.setCell p u) A0 l G F sz fz :=
  ⟨h.items, h.below.setCell h0 u, h.size.far h2 u, h.frozen.far h3 u, h.cap.far h2 u, h.loG, h.loF⟩
theorem Rf.setG (h : Rf w0 W A0 l G F sz fz) (i : Nat) (v : Int) : Rf w0 (W.setCell ⟨G, i, none⟩ (.int .i64 v)) A0 l G F (fun j => if j = i then v else sz j) fz :=
  ⟨h.items, h.below.setCell h.loG _, h.size.set i v, h.frozen.far (p := ⟨G, i, none⟩) (fun e => h.GF e.symm) _, h.cap.set i _, h.loG, h.loF⟩
theorem Rf.setF (h : Rf w0 W A0 l G F sz fz) (i : Nat) (v : Bool) : Rf w0 (W.setCell ⟨F, i, none⟩ (.bool v)) A0 l G F sz (fun j => if j = i then v else fz j) :=
  ⟨h.items, h.below.setCell h.loF _, h.size.far (p := ⟨F, i, none⟩) h.GF _, h.frozen.set i v, h.cap.far (p := ⟨F, i, none⟩) h.GF _, h.loG, h.loF⟩
theorem Rf.congr {sz' : Nat → Int} {fz' : Nat → Bool} (h : Rf w0 W A0 l G F sz fz) (h1 : ∀ i, i < l.length → sz i = sz' i) (h2 : ∀ i, i < l.length → fz i = fz' i) : Rf w0 W A0 l G F sz' fz' :=
  ⟨h.items, h.below, h.size.congr h1, h.frozen.congr h2, h.cap, h.loG, h.loF⟩
end
theorem rowI_made (W : World) (n : Nat) : RowI (W.alloc (.cells (madeCells #[Value.int .i64 0] n) 2)) W.heap.size n (fun _ => 0) := ⟨madeCells #[Value.int .i64 0] n, blk_new W _, by rw [size_madeCells]; exact Nat.le_refl _, fun i hi => by simp [madeCells, hi, Nat.mod_one]⟩
theorem rowB_made (W : World) (n : Nat) : RowB (W.alloc (.cells (madeCells #[Value.bool false] n) 4)) W.heap.size n (fun _ => false) := ⟨madeCells #[Value.bool false] n, blk_new W _, by rw [size_madeCells]; exact Nat.le_refl _, fun i hi => by simp [madeCells, hi, Nat.mod_one]⟩
theorem cap_made (W : World) (n : Nat) : Cap (W.alloc (.cells (madeCells #[Value.int .i64 0] n) 2)) W.heap.size n := ⟨madeCells #[Value.int .i64 0] n, blk_new W _, size_madeCells _ _⟩
theorem rf_made1 {w W : World} {A0 : Option Addr} {l : List S39} (hl : Kd.C k39 w A0 l.length l) (hb : Below w.heap.size w W) : Rf w ((W.alloc (.cells (madeCells #[Value.int .i64 0] l.length) 2)).alloc (.cells (madeCells #[Value.bool false] l.length) 4)).drew A0 l W.heap.size (W.heap.size + 1) (fun _ => 0) (fun _ => false) := by
  have m4 := rowB_made (W.alloc (.cells (madeCells #[Value.int .i64 0] l.length) 2)) l.length
  rw [World.size_alloc] at m4
  exact ⟨hl, (below_alloc (below_alloc hb _) _).drew, ((rowI_made W l.length).alloc _).drew, m4.drew, ((cap_made W l.length).below (below_alloc (Below.refl _ _) _).drew), hb.size, Nat.le_succ_of_le hb.size⟩
theorem rf_made2 {w W : World} {A0 : Option Addr} {l : List S39} (hl : Kd.C k39 w A0 l.length l) (hb : Below w.heap.size w W) : Rf w ((W.alloc (.cells (madeCells #[Value.bool false] l.length) 4)).alloc (.cells (madeCells #[Value.int .i64 0] l.length) 2)).drew A0 l (W.heap.size + 1) W.heap.size (fun _ => 0) (fun _ => false) := by
  have m2 := rowI_made (W.alloc (.cells (madeCells #[Value.bool false] l.length) 4)) l.length
  have c2 := cap_made (W.alloc (.cells (madeCells #[Value.bool false] l.length) 4)) l.length
  rw [World.size_alloc] at m2 c2
  exact ⟨hl, (below_alloc (below_alloc hb _) _).drew, m2.drew, ((rowB_made W l.length).alloc _).drew, c2, Nat.le_succ_of_le hb.size, hb.size⟩
theorem Rf.app {w0 W W1 : World} {A0 : Option Addr} {l : List S39} {G F : Nat} {sz : Nat → Int} {fz : Nat → Bool} (h : Rf w0 W A0 l G F sz fz) {v : Value} {xs : List Int} (hr : Kd.R (Kd.int .i64) 2 W w0.heap.size (fun _ => True) v xs) (hb : Below w0.heap.size w0 W1) (hg : W.grownBy W1 v.ownBlock) (hG : some G ≠ v.ownBlock) : Rf w0 W1 A0 l G F sz fz := by
  have hF : some F ≠ v.ownBlock := by
    intro he
    obtain ⟨cur, hc⟩ := h.frozen.blk
    obtain ⟨cells, hc2⟩ := Kd.R_typed hr F he.symm
    rw [hc] at hc2
    injection hc2 with h3
    injection h3 with _ h3
    exact absurd h3 (by decide)
  obtain ⟨cg, hcg⟩ := h.size.blk
  obtain ⟨cf, hcf⟩ := h.frozen.blk
  exact ⟨h.items, hb, h.size.keep (hg.block G h.size.lt hG), h.frozen.keep (hg.block F h.frozen.lt hF), h.cap.keep (hg.block G h.size.lt hG), h.loG, h.loF⟩
theorem ne_app {v v8 : Value} {G n : Nat} (hat : v8.ownBlock = v.ownBlock ∨ ∃ b, v8.ownBlock = some b ∧ n ≤ b) (hG : G < n) (h : some G ≠ v.ownBlock) : some G ≠ v8.ownBlock := by
  rcases hat with h1 | ⟨b, h1, h2⟩
  · rw [h1]; exact h
  · rw [h1]; intro e; injection e with e; omega
def startS (l : List S39) (i : Nat) : Nat → Int := fun j => if j < i then hyp (itm l j) else 0
def startF (l : List S39) (gr : Bool) (i : Nat) : Nat → Bool := fun j => if j < i then fix0 gr (itm l j) else false
theorem cnt_congr {f f' : Nat → Bool} : ∀ n, (∀ j, j < n → f j = f' j) → cnt f n = cnt f' n := by
  intro n
  induction n with
  | zero => intro _; rfl
  | succ n ih => intro h; rw [cnt_succ, cnt_succ, ih (fun j hj => h j (by omega)), h n (by omega)]
theorem rclamp_f {x : S39} (h : OkX x) (n : Int) : quoinref9_Clamp.f n x.f1 x.f2 = some (clampI x n) := by
  obtain ⟨a0, a1, a2, a3, a4, a5, a6, a7, a8, a9, a10, a11⟩ := h
  unfold quoinref9_Clamp.f clampI mx mn
  by_cases e : x.f2 = -1
  · rw [if_neg (by omega), if_pos e]; congr 1; omega
  · rw [if_pos (by omega), if_neg e]; congr 1; omega
theorem rclamp_any {x : S39} (h : OkX x) (n : Int) (W : World) : Calls Try.prog 37 #[.int .i64 n, .int .i64 x.f1, .int .i64 x.f2] W fun e w' => e = .returned (.int .i64 (clampI x n)) ∧ Below W.heap.size W w' :=
  quoinref9_Clamp.calls n x.f1 x.f2 _ W (rclamp_f h n)
/-- Who is frozen while the first i have been looked at. -/
def mixF (s : Int) (X : Nat → Int) (fz : Nat → Bool) (i : Nat) : Nat → Bool := fun j => if j < i then newF s (fz j) (X j) else fz j
theorem mixF_zero (s : Int) (X : Nat → Int) (fz : Nat → Bool) (j : Nat) : mixF s X fz 0 j = fz j := if_neg (Nat.not_lt_zero _)
theorem mixF_at (s : Int) (X : Nat → Int) (fz : Nat → Bool) (i : Nat) : mixF s X fz i i = fz i := if_neg (Nat.lt_irrefl _)
theorem mixF_set (s : Int) (X : Nat → Int) (fz : Nat → Bool) {i : Nat} {v : Bool} (h : newF s (fz i) (X i) = v) (j : Nat) : mixF s X fz (i + 1) j = if j = i then v else mixF s X fz i j := by
  unfold mixF
  by_cases e : j = i
  · subst e; rw [if_pos rfl, if_pos (by omega), h]
  · rw [if_neg e]
    by_cases e2 : j < i
    · rw [if_pos e2, if_pos (by omega)]
    · rw [if_neg e2, if_neg (by omega)]
theorem mixF_same (s : Int) (X : Nat → Int) (fz : Nat → Bool) {i : Nat} (h : newF s (fz i) (X i) = fz i) (j : Nat) : mixF s X fz (i + 1) j = mixF s X fz i j := by
  rw [mixF_set s X fz h j]
  by_cases e : j = i
  · subst e; rw [if_pos rfl, mixF_at]
  · rw [if_neg e]
theorem mixF_all (s : Int) (X : Nat → Int) (fz : Nat → Bool) {n j : Nat} (h : j < n) : mixF s X fz n j = newF s (fz j) (X j) := if_pos h
theorem cnt_at {f f' : Nat → Bool} {i : Nat} (h : ∀ j, j ≠ i → f' j = f j) : ∀ n, i < n → cnt f' n + (if f i = true then 0 else 1) = cnt f n + (if f' i = true then 0 else 1) := by
  intro n
  induction n with
  | zero => intro h; omega
  | succ n ih =>
    intro hi
    rw [cnt_succ, cnt_succ]
    by_cases e : n = i
    · subst e
      rw [cnt_congr n (fun j hj => h j (by omega))]
      omega
    · have := ih (by omega)
      rw [h n e]
      omega
theorem mixF_cnt (s : Int) (X : Nat → Int) (fz : Nat → Bool) {i n : Nat} (hi : i < n) : cnt (mixF s X fz (i + 1)) n + (if fz i = true then 0 else if newF s (fz i) (X i) = true then 1 else 0) = cnt (mixF s X fz i) n := by
  have h := cnt_at (f := mixF s X fz i) (f' := mixF s X fz (i + 1)) (i := i) (fun j hj => by rw [mixF_set s X fz rfl j, if_neg hj]) n hi
  rw [mixF_at, mixF_set s X fz rfl i, if_pos rfl] at h
  cases hf : fz i
  · rw [hf] at h
    simp only [Bool.false_eq_true, if_false] at h ⊢
    split
    · rename_i hn; rw [if_pos hn] at h; omega
    · rename_i hn; rw [if_neg hn] at h; omega
  · rw [hf] at h
    have hn : newF s true (X i) = true := by simp [newF]
    rw [hn] at h
    simp at h ⊢
    exact h
set_option maxHeartbeats 8000000 in
set_option maxRecDepth 100000 in
theorem rresolve_ok (A0 : Option Addr) (c0 : Nat) (l : List S39) (inner : Int) (w : World) (hl : Kd.C k39 w A0 l.length l) (hc0 : l.length ≤ c0) (hn : l.length ≤ 500) (hok : ∀ x ∈ l, OkX x)
    (hi0 : -8796093022208 ≤ inner) (hi1 : inner ≤ 36028797018963968) (k : Nat) (hk : quoinref9_FlexOk.f k l = some true) :
    Calls Try.prog 26 #[.slice A0 l.length c0, .int .i64 inner] w fun e w' => ∃ v : Value, e = .returned v ∧ Kd.R (Kd.int .i64) 2 w' w.heap.size (fun _ => True) v (rslv l inner) ∧ Below w.heap.size w w' := by
  have HL := Lib.hid hl; have HK := Lib.hid (quoinref9_FlexOk.calls k A0 c0 l true w hl hc0 hk); have HOK := Lib.hid hok
  have t1 : decide (inner < -8796093022208) = false := decide_eq_false (by omega)
  have t2 : decide (36028797018963968 < inner) = false := decide_eq_false (by omega)
  have mkI := print_make_of (P := Try.prog) 22 2 (Value.int .i64 0) 8 Try.underlying22 info2 rfl (by decide) l.length (by omega)
  have mkB := print_make_of (P := Try.prog) 34 4 (Value.bool false) 1 Try.underlying34 info4 rfl (by decide) l.length (by omega)
  have HMI := Lib.hid mkI; have HMB := Lib.hid mkB
  have HGR := Lib.hid (show ∃ gr, grw l inner = gr from ⟨_, rfl⟩)
  clear hl hk hok hc0 mkI mkB
  have hu39 := Try.underlying39
  go_enter Try.func26, Try.ntmps26
  go_wp2_with (go_at_call 25; (with_reducible refine HK.out.mono ?_); rintro e w1 ⟨rfl, hb⟩; have HB := Lib.hid hb; clear hb HK)
  go_loopg [6, 7] l.length (fun gk v6 v7 wr => ∃ i : Nat, v7 = .int .i64 (i : Int) ∧ v6 = .int .i64 (sumH l i) ∧ i ≤ l.length ∧ l.length - i ≤ gk ∧ Hid (Below w.heap.size w wr))
  case atStart => exact ⟨0, rfl, rfl, by omega, by omega, HB.out⟩
  case round =>
    clear HB
    obtain ⟨i, rfl, rfl, hi, hk, HB⟩ := hrel
    by_cases hlt : i < l.length
    · obtain ⟨ad, eA, x0, x1, x2, x3, x4, x5⟩ := at_itm (Kd.C_below HL.out HB.out) i hlt
      subst eA
      have HX := Lib.hid (show OkX (itm l i) from okx_itm HOK.out hlt)
      have HSB := sumH_bd HOK.out i hi
      have HSB' := sumH_bd HOK.out (i + 1) hlt
      have HSU := Lib.hid (show sumH l (i + 1) = sumH l i + (hyp (itm l i) + (itm l i).f5) from rfl)
      have HHB := hyp_bd HX.out
      have HFB : -8796093022208 ≤ (itm l i).f5 ∧ (itm l i).f5 ≤ 8796093022208 := by obtain ⟨a0, a1, a2, a3, a4, a5, a6, a7, a8, a9, a10, a11⟩ := HX.out; exact ⟨a10, a11⟩
      have HCA := Lib.hid (fun W => rhyp_any HX.out W)
      obtain ⟨s0, hs0⟩ : ∃ s0, s0 = sumH l i := ⟨_, rfl⟩
      obtain ⟨hy, hhy⟩ : ∃ hy, hy = hyp (itm l i) := ⟨_, rfl⟩
      obtain ⟨x, hx⟩ : ∃ x, x = itm l i := ⟨_, rfl⟩
      rw [← hx] at x0 x1 x2 x3 x4 x5 HCA HFB hhy HSU HX
      rw [← hhy] at HCA HSU
      rw [← hs0] at HSB HSU ⊢
      have e1 : -((i : Int) * 17592186044416) ≤ s0 ∧ s0 ≤ (i : Int) * 17592186044416 := HSB
      have e2 : 0 ≤ hy ∧ hy ≤ 8796093022208 := by rw [hhy, hx]; exact HHB
      have Hx := Lib.hid hx; have Hhy := Lib.hid hhy; have Hs0 := Lib.hid hs0
      clear HSB HSB' HHB hx hhy hs0
      have ci : (0 : Int) ≤ (i : Int) := by omega
      have ci' : (i : Int) < (l.length : Int) := by omega
      have HK1 := Lib.hid (Below.refl wr.heap.size wr)
      go_upto_region 8 with (fail)
      go_region_held3 (fun w' => w'.cell? (ad.add (i * 6)) = some (.int .i64 x.f0) ∧ w'.cell? ⟨(ad.add (i * 6)).block, (ad.add (i * 6)).off + 1, none⟩ = some (.int .i64 x.f1) ∧ w'.cell? ⟨(ad.add (i * 6)).block, (ad.add (i * 6)).off + 2, none⟩ = some (.int .i64 x.f2) ∧ w'.cell? ⟨(ad.add (i * 6)).block, (ad.add (i * 6)).off + 3, none⟩ = some (.int .i64 x.f3) ∧ w'.cell? ⟨(ad.add (i * 6)).block, (ad.add (i * 6)).off + 4, none⟩ = some (.int .i64 x.f4) ∧ w'.cell? ⟨(ad.add (i * 6)).block, (ad.add (i * 6)).off + 5, none⟩ = some (.int .i64 x.f5)) (first | go_keep | exact ⟨x0, x1, x2, x3, x4, x5⟩ | exact ⟨(HK1.out.cell (World.block_lt_of_cell? _ _ x0)).trans x0, (HK1.out.cell (World.block_lt_of_cell? _ _ x1)).trans x1, (HK1.out.cell (World.block_lt_of_cell? _ _ x2)).trans x2, (HK1.out.cell (World.block_lt_of_cell? _ _ x3)).trans x3, (HK1.out.cell (World.block_lt_of_cell? _ _ x4)).trans x4, (HK1.out.cell (World.block_lt_of_cell? _ _ x5)).trans x5⟩) (first | (go_at_call 28; (with_reducible refine (HCA.out _).mono ?_); rintro e wx ⟨rfl, hb⟩; first | (have HK1 := Lib.hid (below_step HK1.out hb)) | (have HK1 := Lib.hid (show Below wr.heap.size wr wx from below_step (below_drew1 HK1.out) hb))))
      all_goals (
        go_wp2
        go_roundg (l.length - (i + 1))
        case measure => omega
        case rel => exact ⟨i + 1, by simp, by rw [HSU.out]; simp only [i64_w]; rw [w64 (x := s0 + hy) (by omega) (by omega), w64 (by omega) (by omega), Int.add_assoc], by omega, by omega, below_step HB.out HK1.out⟩)
    · obtain rfl : i = l.length := by omega
      clear hlt hk hi
      obtain ⟨gr, hgr⟩ := HGR.out
      have HG := Lib.hid hgr
      have ht : decide (sumH l l.length < inner) = gr := hgr
      clear hgr HGR
      have mkI := HMI.out
      have mkB := HMB.out
      go_upto_region 10 with (fail)
      go_cut [9, 10] (fun v9 v10 wc => ∃ G F : Nat, v9 = .slice (some ⟨G, 0, none⟩) l.length l.length ∧ v10 = .slice (some ⟨F, 0, none⟩) l.length l.length ∧ Hid (Rf w wc A0 l G F (startS l 0) (startF l gr 0)))
      case first =>
        go_region
        · go_wp2
          go_meet
          case rel => exact ⟨_, _, rfl, rfl, (rf_made1 HL.out HB.out).congr (fun j _ => by simp [startS]) (fun j _ => by simp [startF])⟩
        · go_wp2
          go_meet
          case rel => exact ⟨_, _, rfl, rfl, (rf_made2 HL.out HB.out).congr (fun j _ => by simp [startS]) (fun j _ => by simp [startF])⟩
      case rest => as_aux_lemma =>
        clear mkI mkB HMI HMB HB
        obtain ⟨G, F, rfl, rfl, HS⟩ := hcut
        go_wp2_with (fail)
        go_loopg [11, 12] l.length (fun gk v11 v12 wr => ∃ i : Nat, v12 = .int .i64 (i : Int) ∧ v11 = .int .i64 (cnt (fun j => fix0 gr (itm l j)) i : Int) ∧ i ≤ l.length ∧ l.length - i ≤ gk ∧ Hid (Rf w wr A0 l G F (startS l i) (startF l gr i)))
        case atStart => exact ⟨0, rfl, rfl, by omega, by omega, HS.out⟩
        case round =>
          clear HS
          obtain ⟨i, rfl, rfl, hi, hk, HS⟩ := hrel
          have hcl := cnt_le (fun j => fix0 gr (itm l j)) i
          by_cases hlt : i < l.length
          · as_aux_lemma =>
            -- DEV0
            obtain ⟨ad, eA, x0, x1, x2, x3, x4, x5⟩ := at_itm (Kd.C_below HL.out HS.out.below) i hlt
            subst eA
            have HX := Lib.hid (show OkX (itm l i) from okx_itm HOK.out hlt)
            have HHB := hyp_bd HX.out
            have HCA := Lib.hid (fun W => rhyp_any HX.out W)
            obtain ⟨hy, hhy⟩ : ∃ hy, hy = hyp (itm l i) := ⟨_, rfl⟩
            obtain ⟨x, hx⟩ : ∃ x, x = itm l i := ⟨_, rfl⟩
            rw [← hx] at x0 x1 x2 x3 x4 x5 HCA hhy HX HHB
            rw [← hhy] at HCA HHB
            have Hx := Lib.hid hx; have Hhy := Lib.hid hhy; have HYB := Lib.hid HHB
            have HCN := Lib.hid (cnt_succ (fun j => fix0 gr (itm l j)) i)
            clear hx hhy HHB
            have ci : (0 : Int) ≤ (i : Int) := by omega
            have ci' : (i : Int) < (l.length : Int) := by omega
            have cc : (cnt (fun j => fix0 gr (itm l j)) i : Int) ≤ 500 := by omega
            clear hcl
            go_upto_region 16 with (fail)
            obtain ⟨W1, hW1⟩ : ∃ W1, W1 = wr.alloc (.cells #[.int .i64 x.f0, .int .i64 x.f1, .int .i64 x.f2, .int .i64 x.f3, .int .i64 x.f4, .int .i64 x.f5] 39 (0, 0)) := ⟨_, rfl⟩
            rw [← hW1]
            have hal : Below wr.heap.size wr W1 := by rw [hW1]; exact below_alloc (Below.refl _ _) _
            have hXb : W1.heap[wr.heap.size]? = some (.cells #[.int .i64 x.f0, .int .i64 x.f1, .int .i64 x.f2, .int .i64 x.f3, .int .i64 x.f4, .int .i64 x.f5] 39 (0, 0)) := by rw [hW1]; exact blk_new wr _
            have HS1 := Lib.hid (HS.out.step hal)
            have HXB := Lib.hid hXb
            clear x0 x1 x2 x3 x4 x5 hal hW1 HS hXb
            generalize wr.heap.size = XB at *
            have y0 := (blk_cell HXB.out 0).trans (show _ = some (Value.int .i64 x.f0) from rfl)
            have y1 := (blk_cell HXB.out 1).trans (show _ = some (Value.int .i64 x.f1) from rfl)
            have y2 := (blk_cell HXB.out 2).trans (show _ = some (Value.int .i64 x.f2) from rfl)
            have y3 := (blk_cell HXB.out 3).trans (show _ = some (Value.int .i64 x.f3) from rfl)
            have y4 := (blk_cell HXB.out 4).trans (show _ = some (Value.int .i64 x.f4) from rfl)
            have y5 := (blk_cell HXB.out 5).trans (show _ = some (Value.int .i64 x.f5) from rfl)
            go_upto_region 17 with (go_at_call 28; (with_reducible refine (HCA.out _).mono ?_); rintro e wx ⟨rfl, hb⟩; have HS2 := Lib.hid (HS1.out.step hb); have HXB2 := Lib.hid (blk_below HXB.out hb); have g0 := HS2.out.size.cell hlt; have gf := HS2.out.size.frozen i; clear hb HS1 HXB y0 y1 y2 y3 y4 y5)
            have HS3 : Hid (Rf w (wx.setCell ⟨G, i, none⟩ (.int .i64 hy)) (some ad) l G F (startS l (i + 1)) (startF l gr i)) := Lib.hid ((HS2.out.setG i hy).congr (fun j _ => by
              unfold startS
              by_cases e : j = i
              · subst e; rw [if_pos rfl, if_pos (by omega), Hhy.out, Hx.out]
              · rw [if_neg e]
                by_cases e2 : j < i
                · rw [if_pos e2, if_pos (by omega)]
                · rw [if_neg e2, if_neg (by omega)]) (fun _ _ => rfl))
            have HXB3 := Lib.hid (blk_far (p := ⟨G, i, none⟩) HXB2.out (fun e => by
              obtain ⟨cur, hcur⟩ := HS2.out.size.blk
              have h3 := HXB2.out
              rw [e, hcur] at h3
              injection h3 with h3
              injection h3 with _ h3
              exact absurd h3 (by decide)) (.int .i64 hy))
            clear g0 gf HS2 HXB2
            generalize wx.setCell ⟨G, i, none⟩ (.int .i64 hy) = W3 at *
            have y0 := (blk_cell HXB3.out 0).trans (show _ = some (Value.int .i64 x.f0) from rfl)
            have y3 := (blk_cell HXB3.out 3).trans (show _ = some (Value.int .i64 x.f3) from rfl)
            have y4 := (blk_cell HXB3.out 4).trans (show _ = some (Value.int .i64 x.f4) from rfl)
            have g0 : W3.cell? ⟨G, i, none⟩ = some (.int .i64 hy) := by rw [HS3.out.size.cell hlt]; unfold startS; rw [if_pos (by omega), Hhy.out, Hx.out]
            have b0 : W3.cell? ⟨F, i, none⟩ = some (.bool false) := by rw [HS3.out.frozen.cell hlt]; unfold startF; rw [if_neg (by omega)]
            have bf := HS3.out.frozen.frozen i
            go_cut [] (fun wc => wc = (W3.setCell ⟨F, i, none⟩ (.bool (fix0 gr x))).drew)
            case first =>
              have HFX := Lib.hid (show fix0 gr x = (if gr = true then decide (x.f3 = 0) || decide (hy < x.f0) else decide (x.f4 = 0) || decide (x.f0 < hy)) by rw [Hhy.out]; rfl)
              cases gr
              · by_cases e4 : x.f4 = 0
                · have e4b : (x.f4 == 0) = true := by simpa using e4
                  have HV := Lib.hid (show fix0 false x = true by rw [HFX.out]; simp [e4])
                  clear e4
                  go_region
                  go_wp2
                  go_meet
                  case rel => rw [HV.out]
                · have e4b : (x.f4 == 0) = false := by simpa using e4
                  by_cases e5 : x.f0 < hy
                  · have e5b : decide (x.f0 < hy) = true := decide_eq_true e5
                    have HV := Lib.hid (show fix0 false x = true by rw [HFX.out]; simp [e5])
                    clear e4 e5
                    go_region
                    go_wp2
                    go_meet
                    case rel => rw [HV.out]
                  · have e5b : decide (x.f0 < hy) = false := decide_eq_false e5
                    have HV := Lib.hid (show fix0 false x = false by rw [HFX.out]; simp [e4, e5])
                    clear e4 e5
                    go_region
                    go_wp2
                    go_meet
                    case rel => rw [HV.out]
              · by_cases e4 : x.f3 = 0
                · have e4b : (x.f3 == 0) = true := by simpa using e4
                  have HV := Lib.hid (show fix0 true x = true by rw [HFX.out]; simp [e4])
                  clear e4
                  go_region
                  go_wp2
                  go_meet
                  case rel => rw [HV.out]
                · have e4b : (x.f3 == 0) = false := by simpa using e4
                  by_cases e5 : hy < x.f0
                  · have e5b : decide (hy < x.f0) = true := decide_eq_true e5
                    have HV := Lib.hid (show fix0 true x = true by rw [HFX.out]; simp [e5])
                    clear e4 e5
                    go_region
                    go_wp2
                    go_meet
                    case rel => rw [HV.out]
                  · have e5b : decide (hy < x.f0) = false := decide_eq_false e5
                    have HV := Lib.hid (show fix0 true x = false by rw [HFX.out]; simp [e4, e5])
                    clear e4 e5
                    go_region
                    go_wp2
                    go_meet
                    case rel => rw [HV.out]
            case rest =>
              have HS4 : Hid (Rf w (W3.setCell ⟨F, i, none⟩ (.bool (fix0 gr x))).drew (some ad) l G F (startS l (i + 1)) (startF l gr (i + 1))) := Lib.hid (((HS3.out.setF i (fix0 gr x)).congr (fun _ _ => rfl) (fun j _ => by
                unfold startF
                by_cases e : j = i
                · subst e; rw [if_pos rfl, if_pos (by omega), Hx.out]
                · rw [if_neg e]
                  by_cases e2 : j < i
                  · rw [if_pos e2, if_pos (by omega)]
                  · rw [if_neg e2, if_neg (by omega)])).step (below_drew1 (Below.refl _ _)))
              rw [← hcut] at HS4
              clear hcut y0 y3 y4 g0 b0 bf HS3 HXB3
              have b0 : wc.cell? ⟨F, i, none⟩ = some (.bool (fix0 gr x)) := by rw [HS4.out.frozen.cell hlt]; unfold startF; rw [if_pos (by omega), Hx.out]
              have HCC := Lib.hid (show cnt (fun j => fix0 gr (itm l j)) (i + 1) = cnt (fun j => fix0 gr (itm l j)) i + (if fix0 gr x = true then 0 else 1) by rw [HCN.out, Hx.out])
              cases hfx : fix0 gr x
              case false =>
                rw [hfx] at b0
                have HCD := Lib.hid (show cnt (fun j => fix0 gr (itm l j)) (i + 1) = cnt (fun j => fix0 gr (itm l j)) i + 1 by rw [HCC.out, hfx]; rfl)
                clear hfx
                go_wp2
                go_roundg (l.length - (i + 1))
                case measure => omega
                case rel => exact ⟨i + 1, by simp, by rw [HCD.out]; simp, by omega, by omega, HS4.out⟩
              case true =>
                rw [hfx] at b0
                have HCD := Lib.hid (show cnt (fun j => fix0 gr (itm l j)) (i + 1) = cnt (fun j => fix0 gr (itm l j)) i by rw [HCC.out, hfx]; rfl)
                clear hfx
                go_wp2
                go_roundg (l.length - (i + 1))
                case measure => omega
                case rel => exact ⟨i + 1, by simp, by rw [HCD.out], by omega, by omega, HS4.out⟩
          -- DEV1
          · obtain rfl : i = l.length := by omega
            clear hlt hk hi hcl
            have HS0 : Hid (Rf w wr A0 l G F (fun j => hyp (itm l j)) (fun j => fix0 gr (itm l j))) := Lib.hid (HS.out.congr (fun j hj => if_pos hj) (fun j hj => if_pos hj))
            have HI0 := Lib.hid (inv_start (inner := inner) HOK.out gr)
            have HC0 := Lib.hid (cnt_le (fun j => fix0 gr (itm l j)) l.length)
            obtain ⟨R0, hR0⟩ : ∃ R0, iter l gr inner l.length (fun j => hyp (itm l j)) (fun j => fix0 gr (itm l j)) = R0 := ⟨_, rfl⟩
            have HR0 := Lib.hid hR0
            have HRX := Lib.hid (show rslv l inner = lst l.length R0 by unfold rslv; rw [HG.out, hR0])
            generalize (fun j => hyp (itm l j)) = sz0 at *
            generalize (fun j => fix0 gr (itm l j)) = fz0 at *
            clear hR0 HS
            go_wp2_with (fail)
            go_loopg [11] (cnt fz0 l.length) (fun gk v11 wr => ∃ (m : Nat) (sz : Nat → Int) (fz : Nat → Bool), v11 = .int .i64 (cnt fz l.length : Int) ∧ cnt fz l.length ≤ m ∧ cnt fz l.length ≤ gk ∧ cnt fz l.length ≤ l.length ∧ Hid (R0 = iter l gr inner m sz fz) ∧ Hid (Inv l inner sz fz) ∧ Hid (Rf w wr A0 l G F sz fz))
            case atStart => exact ⟨l.length, sz0, fz0, rfl, HC0.out, Nat.le_refl _, HC0.out, Lib.hid HR0.out.symm, HI0, HS0⟩
            case round =>
              clear HS0 HI0 HC0
              obtain ⟨m, sz, fz, rfl, hcm, hck, hcl, HRI, HI, HS⟩ := hrel
              by_cases hpos : 0 < cnt fz l.length
              · as_aux_lemma =>
                have HT := Lib.hid (turnOk (gr := gr) hn hi0 hi1 HOK.out HI.out)
                have HM := Lib.hid (cnt_more.2 hpos)
                have cpos : (0 : Int) < (cnt fz l.length : Int) := by omega
                go_wp2_with (fail)
                go_loopg [14, 15, 16] l.length (fun gk4 v14 v15 v16 wr => ∃ i : Nat, v16 = .int .i64 (i : Int) ∧ v14 = .int .i64 (inAt l sz fz inner i) ∧ i ≤ l.length ∧ l.length - i ≤ gk4 ∧ Hid (Kd.R (Kd.int .i64) 2 wr w.heap.size (fun _ => True) v15 (cw l gr fz i)) ∧ Hid (some G ≠ v15.ownBlock) ∧ Hid (Rf w wr A0 l G F sz fz))
                case atStart => exact ⟨0, rfl, rfl, by omega, by omega, Kd.R_nil _ _ _ _ _, Lib.hid (by simp [Value.ownBlock]), HS⟩
                case round =>
                  clear HS
                  obtain ⟨i, rfl, rfl, hi, hk, HR, HNE, HS⟩ := hrel
                  obtain ⟨A5, c5, rfl⟩ := Kd.R_slice HR.out
                  have HCL := Lib.hid (show (cw l gr fz i).length ≤ 500 by rw [cw_len]; have := cnt_le fz i; omega)
                  by_cases hlt : i < l.length
                  · as_aux_lemma =>
                    -- DEV2
                    obtain ⟨ad, eA, x0, x1, x2, x3, x4, x5⟩ := at_itm (Kd.C_below HL.out HS.out.below) i hlt
                    subst eA
                    have HX := Lib.hid (show OkX (itm l i) from okx_itm HOK.out hlt)
                    have HIA := Lib.hid (show inAt l sz fz inner (i + 1) = inAt l sz fz inner i - (itm l i).f5 - (if fz i = true then sz i else (itm l i).f0) from rfl)
                    have HCW := Lib.hid (show cw l gr fz (i + 1) = if fz i = true then cw l gr fz i else cw l gr fz i ++ [wgt gr (itm l i)] from rfl)
                    have hb1 := HT.out.b.2 i hi
                    have hb2 := HT.out.b.2 (i + 1) hlt
                    have HBS := Lib.hid (HT.out.b.1 i hlt)
                    have b0 := HS.out.frozen.cell hlt
                    have g0 := HS.out.size.cell hlt
                    obtain ⟨x, hx⟩ : ∃ x, x = itm l i := ⟨_, rfl⟩
                    rw [← hx] at x0 x1 x2 x3 x4 x5 HX HIA HCW
                    obtain ⟨s0, hs0⟩ : ∃ s0, s0 = inAt l sz fz inner i := ⟨_, rfl⟩
                    rw [← hs0] at hb1 HIA ⊢
                    rw [HIA.out] at hb2
                    have HS0 := Lib.hid hs0
                    clear hx hs0
                    obtain ⟨a0, a1, a2, a3, a4, a5, a6, a7, a8, a9, a10, a11⟩ := HX.out
                    clear a2 a3 a4 a5
                    have HWG := Lib.hid (wgt_bd (gr := gr) HX.out)
                    have ci : (0 : Int) ≤ (i : Int) := by omega
                    have ci' : (i : Int) < (l.length : Int) := by omega
                    cases hf : fz i
                    case true =>
                      rw [hf] at b0 hb2
                      have hs1 := HBS.out hf
                      have HIA2 := Lib.hid (show inAt l sz fz inner (i + 1) = s0 - x.f5 - sz i by rw [HIA.out, hf]; rfl)
                      have HCW2 := Lib.hid (show cw l gr fz (i + 1) = cw l gr fz i by rw [HCW.out, hf]; rfl)
                      have hb3 : -1152921504606846976 ≤ s0 - x.f5 - sz i ∧ s0 - x.f5 - sz i ≤ 1152921504606846976 := hb2
                      clear hb2 hf
                      go_wp2
                      go_roundg (l.length - (i + 1))
                      case measure => omega
                      case rel => exact ⟨i + 1, by simp, by rw [HIA2.out], by omega, by omega, by rw [HCW2.out]; exact HR, HNE, HS⟩
                    case false =>
                      rw [hf] at b0 hb2
                      have HIA2 := Lib.hid (show inAt l sz fz inner (i + 1) = s0 - x.f5 - x.f0 by rw [HIA.out, hf]; rfl)
                      have HCW2 := Lib.hid (show cw l gr fz (i + 1) = cw l gr fz i ++ [wgt gr x] by rw [HCW.out, hf]; rfl)
                      have hb3 : -1152921504606846976 ≤ s0 - x.f5 - x.f0 ∧ s0 - x.f5 - x.f0 ≤ 1152921504606846976 := hb2
                      clear hb2 hf
                      cases gr
                      case true =>
                        go_wp2_with ((with_reducible refine gate_builtin (b := .append) (xs := #[.tmp 175, .tmp 181]) rfl ?_); at_builtin; refine Kd.R_append (Kd.int .i64) (w0 := w) w.heap.size rfl (.tmp 175) (.tmp 181) 22 2 (.int .i64 0) 8 rfl Try.underlying22 info2 rfl (by decide) (by decide) (.slice A5 (cw l true fz i).length c5) (cw l true fz i) x.f3 [.int .i64 x.f3] (fun _ => True) (fun _ => False) rfl ?aX ?aP (fun _ hk => hk.elim) ?aF ?aO ?aB ?aS ?aL ?_; (case aX => first | rfl | (go_simp; done) | (go_simp; rfl)); (case aP => exact rfl); (case aB => exact HS.out.below); (case aF => exact (fun _ _ => trivial)); (case aO => exact HR.out); (case aS => exact HS.out.below.size); (case aL => (have := HCL.out; omega)); intro v8 w8 ho hb hg hat; have HR8 := Lib.hid ho; have HS8 := Lib.hid (HS.out.app HR.out hb hg HNE.out); have HN8 := Lib.hid (ne_app hat HS.out.size.lt HNE.out); clear ho hb hg hat)
                        go_roundg (l.length - (i + 1))
                        case measure => omega
                        case rel => exact ⟨i + 1, by simp, by rw [HIA2.out], by omega, by omega, by rw [HCW2.out]; exact HR8, HN8, HS8⟩
                      case false =>
                        have hmul : wrap64 (x.f0 * x.f4) = x.f0 * x.f4 := w64 (by have := HWG.out; omega) (by have := HWG.out; omega)
                        go_upto_region 28 with (fail)
                        have HRd := Lib.hid (Kd.R_drew HR.out)
                        have HSd := Lib.hid (HS.out.step (below_drew1 (Below.refl _ _)))
                        have HNd := Lib.hid HNE.out
                        have x0d : wr.drew.cell? (ad.add (i * 6)) = some (.int .i64 x.f0) := x0
                        have x4d : wr.drew.cell? ⟨(ad.add (i * 6)).block, (ad.add (i * 6)).off + 4, none⟩ = some (.int .i64 x.f4) := x4
                        clear x0 x1 x2 x3 x4 x5 b0 g0 HR HS HNE
                        refine start_ (n := 15) (S := fun w' => w'.cell? (ad.add (i * 6)) = some (.int .i64 x.f0) ∧ w'.cell? ⟨(ad.add (i * 6)).block, (ad.add (i * 6)).off + 4, none⟩ = some (.int .i64 x.f4)) (ds := [13]) #[false, false, false, false, false, false, false, false, false, false, false, false, false, false, false] (by kernel_rfl) rfl rfl ⟨x0d, x4d⟩ (fun hHeld => ?_)
                        generalize wr.drew = wd at HRd HSd x0d x4d hHeld ⊢
                        refine pure_ (i := 0) (N := some 141) (v := ?_) (a' := ?_) #[true, false, false, false, false, false, false, false, false, false, false, false, false, false, false] rfl rfl (by kernel_rfl) (fun _ _ _ h => h) (Or.inl ⟨by rfl, ?_⟩) ?_ ?_
                        rotate_left
                        · intro w'
                          go_simp
                          with_reducible rfl
                        rotate_left
                        · simp only [Act.put, List.setIfInBounds_toArray, List.set_cons_zero, List.set_cons_succ, i64_w, i32_w]
                          rfl
                        refine pure_ (i := 1) (N := some 142) (v := ?_) (a' := ?_) #[true, true, false, false, false, false, false, false, false, false, false, false, false, false, false] rfl rfl (by kernel_rfl) (fun _ _ _ h => h) (Or.inl ⟨by rfl, ?_⟩) ?_ ?_
                        rotate_left
                        · intro w'
                          go_simp
                          with_reducible rfl
                        rotate_left
                        · simp only [Act.put, List.setIfInBounds_toArray, List.set_cons_zero, List.set_cons_succ, i64_w, i32_w]
                          rfl
                        refine pure_ (i := 2) (N := some 143) (v := ?_) (a' := ?_) #[true, true, true, false, false, false, false, false, false, false, false, false, false, false, false] rfl rfl (by kernel_rfl) (fun _ _ _ h => h) (Or.inl ⟨by rfl, ?_⟩) ?_ ?_
                        rotate_left
                        · intro w'
                          go_simp
                          with_reducible rfl
                        rotate_left
                        · simp only [Act.put, List.setIfInBounds_toArray, List.set_cons_zero, List.set_cons_succ, i64_w, i32_w]
                          rfl
                        refine pure_ (i := 3) (N := some 144) (v := ?_) (a' := ?_) #[true, true, true, true, false, false, false, false, false, false, false, false, false, false, false] rfl rfl (by kernel_rfl) (fun _ _ _ h => h) (Or.inl ⟨by rfl, ?_⟩) ?_ ?_
                        rotate_left
                        · intro w'
                          go_simp
                          with_reducible rfl
                        rotate_left
                        · simp only [Act.put, List.setIfInBounds_toArray, List.set_cons_zero, List.set_cons_succ, i64_w, i32_w]
                          rfl
                        refine pure_ (i := 4) (N := some 145) (v := ?_) (a' := ?_) #[true, true, true, true, true, false, false, false, false, false, false, false, false, false, false] rfl rfl (by kernel_rfl) (fun _ _ _ h => h) (Or.inl ⟨by rfl, ?_⟩) ?_ ?_
                        rotate_left
                        · intro w'
                          go_simp
                          with_reducible rfl
                        rotate_left
                        · simp only [Act.put, List.setIfInBounds_toArray, List.set_cons_zero, List.set_cons_succ, i64_w, i32_w]
                          rfl
                        refine pure_ (i := 6) (N := some 147) (v := ?_) (a' := ?_) #[true, true, true, true, true, false, true, false, false, false, false, false, false, false, false] rfl rfl (by kernel_rfl) (fun _ _ _ h => h) (Or.inl ⟨by rfl, ?_⟩) ?_ ?_
                        rotate_left
                        · intro w'
                          go_simp
                          with_reducible rfl
                        rotate_left
                        · simp only [Act.put, List.setIfInBounds_toArray, List.set_cons_zero, List.set_cons_succ, i64_w, i32_w]
                          rfl
                        refine pure_ (i := 7) (N := some 148) (v := ?_) (a' := ?_) #[true, true, true, true, true, false, true, true, false, false, false, false, false, false, false] rfl rfl (by kernel_rfl) (fun _ _ _ h => h) (Or.inl ⟨by rfl, ?_⟩) ?_ ?_
                        rotate_left
                        · intro w'
                          go_simp
                          with_reducible rfl
                        rotate_left
                        · simp only [Act.put, List.setIfInBounds_toArray, List.set_cons_zero, List.set_cons_succ, i64_w, i32_w]
                          rfl
                        refine pure_ (i := 8) (N := some 149) (v := ?_) (a' := ?_) #[true, true, true, true, true, false, true, true, true, false, false, false, false, false, false] rfl rfl (by kernel_rfl) (fun _ _ _ h => h) (Or.inl ⟨by rfl, ?_⟩) ?_ ?_
                        rotate_left
                        · intro w'
                          go_simp
                          with_reducible rfl
                        rotate_left
                        · simp only [Act.put, List.setIfInBounds_toArray, List.set_cons_zero, List.set_cons_succ, i64_w, i32_w]
                          rfl
                        refine pure_ (i := 9) (N := some 150) (v := ?_) (a' := ?_) #[true, true, true, true, true, false, true, true, true, true, false, false, false, false, false] rfl rfl (by kernel_rfl) (fun _ _ _ h => h) (Or.inl ⟨by rfl, ?_⟩) ?_ ?_
                        rotate_left
                        · intro w'
                          go_simp
                          with_reducible rfl
                        rotate_left
                        · simp only [Act.put, List.setIfInBounds_toArray, List.set_cons_zero, List.set_cons_succ, i64_w, i32_w]
                          rfl
                        refine take_ (i := 5) (N := some 146) (v := ?_) (a' := ?_) #[true, true, true, true, true, true, true, true, true, true, false, false, false, false, false] rfl rfl (by kernel_rfl) (fun _ _ _ h => h) (Or.inl ⟨by rfl, ?_⟩) hHeld ?_ ?_
                        rotate_left
                        · rintro w' ⟨s0, s1⟩
                          go_simp
                          with_reducible rfl
                        rotate_left
                        · simp only [Act.put, List.setIfInBounds_toArray, List.set_cons_zero, List.set_cons_succ, i64_w, i32_w]
                          rfl
                        refine take_ (i := 10) (N := some 151) (v := ?_) (a' := ?_) #[true, true, true, true, true, true, true, true, true, true, true, false, false, false, false] rfl rfl (by kernel_rfl) (fun _ _ _ h => h) (Or.inl ⟨by rfl, ?_⟩) hHeld ?_ ?_
                        rotate_left
                        · rintro w' ⟨s0, s1⟩
                          go_simp
                          with_reducible rfl
                        rotate_left
                        · simp only [Act.put, List.setIfInBounds_toArray, List.set_cons_zero, List.set_cons_succ, i64_w, i32_w]
                          rfl
                        refine pure_ (i := 11) (N := some 152) (v := ?_) (a' := ?_) #[true, true, true, true, true, true, true, true, true, true, true, true, false, false, false] rfl rfl (by kernel_rfl) (fun _ _ _ h => h) (Or.inl ⟨by rfl, ?_⟩) ?_ ?_
                        rotate_left
                        · intro w'
                          go_simp
                          with_reducible rfl
                        rotate_left
                        · simp only [Act.put, List.setIfInBounds_toArray, List.set_cons_zero, List.set_cons_succ, i64_w, i32_w]
                          rfl
                        refine one_ (i := 12) (N := some 153) #[true, true, true, true, true, true, true, true, true, true, true, true, true, false, false] rfl rfl (by kernel_rfl) (by decide) (fun K hK => ?_)
                        refine value_ (w1 := ?_) (v := ?_) (by rfl) rfl ?_ ?_
                        rotate_left 2
                        · go_simp
                          constructor
                          · rfl
                          · rfl
                        refine hK.out _ _ ⟨(World.cell?_alloc_lt _ _ _ (World.block_lt_of_cell? _ _ (x0d))).trans (x0d), (World.cell?_alloc_lt _ _ _ (World.block_lt_of_cell? _ _ (x4d))).trans (x4d)⟩ (fun hHeld => ?_)
                        clear hK K
                        refine norm_ (a' := ?_) ?_ ?_
                        rotate_left
                        · show Act.put _ (some 153) _ = _
                          simp only [Act.put, List.setIfInBounds_toArray, List.set_cons_zero, List.set_cons_succ, i64_w, i32_w]
                          rfl
                        refine last_ (i := 13) (N := some 154) #[true, true, true, true, true, true, true, true, true, true, true, true, true, true, false] rfl rfl (by kernel_rfl) (by decide) (fun K hK => ?_)
                        refine Kd.R_append_step (Kd.int .i64) (w0 := w) w.heap.size (by rfl) (.tmp 141) (.tmp 153) 22 2 (.int .i64 0) 8 rfl Try.underlying22 info2 rfl (by decide) (by decide) (.slice A5 (cw l false fz i).length c5) (cw l false fz i) (x.f0 * x.f4) [.int .i64 (x.f0 * x.f4)] (fun _ => True) (fun _ => False) rfl rfl ?aP (fun _ hk => hk.elim) ?aF ?aO ?aB ?aS ?aL ?_
                        (case aP => exact rfl)
                        (case aB => exact HSd.out.below)
                        (case aF => exact (fun _ _ => trivial))
                        (case aO => exact HRd.out)
                        (case aS => exact HSd.out.below.size)
                        (case aL => have := HCL.out; omega)
                        intro v8 w8 ho hb hg hat
                        have HR8 := Lib.hid ho
                        have HS8 := Lib.hid (HSd.out.app HRd.out hb hg HNd.out)
                        have HN8 := Lib.hid (ne_app hat HSd.out.size.lt HNd.out)
                        clear ho hb hg hat
                        refine hK.out _ _ ?_
                        clear hK K
                        refine norm_ (a' := ?_) ?_ ?_
                        rotate_left
                        · show Act.put _ (some 154) _ = _
                          simp only [Act.put, List.setIfInBounds_toArray, List.set_cons_zero, List.set_cons_succ, i64_w, i32_w]
                          rfl
                        refine pure_ (i := 14) (N := some 15) (v := ?_) (a' := ?_) #[true, true, true, true, true, true, true, true, true, true, true, true, true, true, true] rfl rfl (by kernel_rfl) (fun _ _ _ h => h) (Or.inl ⟨by rfl, ?_⟩) ?_ ?_
                        rotate_left
                        · intro w'
                          go_simp
                          with_reducible rfl
                        rotate_left
                        · simp only [Act.put, List.setIfInBounds_toArray, List.set_cons_zero, List.set_cons_succ, i64_w, i32_w]
                          rfl
                        refine done_ (by kernel_rfl) ?_
                        go_wp2
                        go_roundg (l.length - (i + 1))
                        case measure => omega
                        case rel => exact ⟨i + 1, by simp, by rw [HIA2.out], by omega, by omega, by rw [HCW2.out]; exact HR8, HN8, HS8⟩
                  -- DEV3
                  · as_aux_lemma =>
                    obtain rfl : i = l.length := by omega
                    clear hlt hk hi
                    have hbt := HT.out.b.2 l.length (Nat.le_refl _)
                    have HTS := Lib.hid (toS_bd gr (inAt l sz fz inner l.length)).1
                    obtain ⟨fr, hfr⟩ : ∃ fr, fr = inAt l sz fz inner l.length := ⟨_, rfl⟩
                    rw [← hfr] at hbt HTS ⊢
                    obtain ⟨K, hK⟩ := U.rShare_eq (toS gr fr) (by have := HTS.out; omega) (by have := HTS.out; omega) (cw l gr fz l.length) (by have := HCL.out; omega) (cw_mem l.length (Nat.le_refl _) HOK.out)
                    have HSH := Lib.hid (hK K (Nat.le_refl _))
                    have HFR := Lib.hid hfr
                    clear hK hfr
                    go_upto_if 183 with (fail)
                    go_cut [14] (fun v14 wc => v14 = .int .i64 (toS gr fr) ∧ Hid (wc = wr))
                    case first =>
                      cases gr
                      case true =>
                        go_wp2
                        go_meet
                        case rel => exact ⟨by rw [toS_max], rfl⟩
                      case false =>
                        go_wp2
                        go_meet
                        case rel => exact ⟨by rw [toS_min], rfl⟩
                    case rest => as_aux_lemma =>
                      obtain ⟨rfl, hw⟩ := hcut
                      have hw' := hw.out
                      subst hw'
                      clear hw
                      have HCS := Lib.hid (quoinref1_Share.calls K (toS gr fr) A5 c5 (cw l gr fz l.length) _ wc (Kd.R_reads' HR.out).2.2 (Kd.R_reads' HR.out).2.1 HSH.out)
                      have HPL := Lib.hid (show 0 < (U.share (toS gr fr) (cw l gr fz l.length)).length by rw [U.share_length, cw_len]; exact hpos)
                      have HPE := Lib.hid (show (U.share (toS gr fr) (cw l gr fz l.length)).length = cnt fz l.length by rw [U.share_length, cw_len])
                      have HPV := Lib.hid (fun (j : Nat) (hj : j < l.length) (hf : fz j = false) => show (U.share (toS gr fr) (cw l gr fz l.length)).getD (cnt fz j) 0 = prt l gr sz fz inner j by rw [HFR.out]; exact cprt l gr sz fz inner j hj hf)
                      go_wp2_with (first | (go_at_call 36; (with_reducible refine HCS.out.mono ?_); rintro e wp ⟨v0, rfl, hR, hb⟩; obtain ⟨P, cP, rfl, hP, _, _, hrow, _⟩ := row_of_R2 hR HPL.out; rw [HPE.out] at hrow ⊢; have HRP := Lib.hid hrow; have HS1 := Lib.hid (HS.out.step hb); have HPG := Lib.hid (show G ≠ P from Nat.ne_of_lt (Nat.lt_of_lt_of_le HS.out.size.lt hP)); have HPW := Lib.hid (Nat.le_trans HS.out.below.size hP); clear hR hb hP hrow HCS) | ((with_reducible refine gate_dst (N := 192) rfl ?_); refine make_event (Value.int .i64) (0 : Int) rfl rfl 22 2 (.tmp 191) (.tmp 191) rfl l.length 8 ?hX ?hY Try.underlying22 info2 rfl (by decide) (by omega) ?_; (case hX => rfl); (case hY => rfl); intro D hD w2 hRD hb2; have HRD := Lib.hid hRD; have HS2 := Lib.hid (HS1.out.step hb2); have HRP2 := Lib.hid (HRP.out.below hb2); have HD0 := Lib.hid (show G ≠ D ∧ P ≠ D ∧ w.heap.size ≤ D from ⟨Nat.ne_of_lt (by rw [hD]; exact HS1.out.size.lt), Nat.ne_of_lt (by rw [hD]; exact HRP.out.lt), by rw [hD]; exact HS1.out.below.size⟩); clear hRD hb2 hD HS1 HRP))
                      obtain ⟨pv, hpv⟩ : ∃ pv : Nat → Int, pv = prt l gr sz fz inner := ⟨_, rfl⟩
                      have HTP := Lib.hid (show ∀ i, -144115188075855872 ≤ pv i ∧ pv i ≤ 144115188075855872 by rw [hpv]; exact HT.out.p)
                      have HTM := Lib.hid (show ∀ i, i ≤ l.length → -1152921504606846976 ≤ smA l pv fz i ∧ smA l pv fz i ≤ 1152921504606846976 by rw [hpv]; exact HT.out.sm)
                      have HNS := Lib.hid (show nxS l gr inner sz fz = newS l pv sz fz by rw [hpv]; rfl)
                      have HNF := Lib.hid (show nxF l gr inner sz fz = fun i => newF (smA l pv fz l.length) (fz i) (wrg l pv fz i) by rw [hpv]; rfl)
                      rw [← hpv] at HPV
                      have HPVH := Lib.hid hpv
                      clear hpv HSH HR HNE
                      generalize U.share (toS gr fr) (cw l gr fz l.length) = shr at *
                      go_wp2_with (fail)
                      go_loopg [18, 20, 21] l.length (fun gk5 v18 v20 v21 wr => ∃ i : Nat, v21 = .int .i64 (i : Int) ∧ v18 = .int .i64 (smA l pv fz i) ∧ v20 = .int .i64 (cnt fz i : Int) ∧ i ≤ l.length ∧ l.length - i ≤ gk5 ∧ Hid (Rf w wr A0 l G F (fun j => if j < i then newS l pv sz fz j else sz j) fz) ∧ Hid (RowI wr D l.length (fun j => if j < i then wrg l pv fz j else 0)) ∧ Hid (RowI wr P (cnt fz l.length) (fun j => shr.getD j 0)))
                      case atStart => exact ⟨0, rfl, rfl, rfl, by omega, by omega, Lib.hid (HS2.out.congr (fun j _ => by simp) (fun _ _ => rfl)), Lib.hid (HRD.out.congr (fun j _ => by simp)), HRP2⟩
                      case round =>
                        clear HS2 HRD HRP2
                        obtain ⟨i, rfl, rfl, rfl, hi, hk, HS, HRD, HRP⟩ := hrel
                        have hci := cnt_le fz i
                        by_cases hlt : i < l.length
                        · as_aux_lemma =>
                          -- DEV4
                          obtain ⟨ad, eA, x0, x1, x2, x3, x4, x5⟩ := at_itm (Kd.C_below HL.out HS.out.below) i hlt
                          subst eA
                          have HX := Lib.hid (show OkX (itm l i) from okx_itm HOK.out hlt)
                          have b0 := HS.out.frozen.cell hlt
                          have hm1 := HTM.out i hi
                          have hm2 := HTM.out (i + 1) hlt
                          have HSM := Lib.hid (show smA l pv fz (i + 1) = smA l pv fz i + wrg l pv fz i from rfl)
                          have HCC := Lib.hid (cnt_succ fz i)
                          have ci : (0 : Int) ≤ (i : Int) := by omega
                          have ci' : (i : Int) < (l.length : Int) := by omega
                          cases hf : fz i
                          case true =>
                            rw [hf] at b0
                            have HSE := Lib.hid (step_sm (l := l) (p := pv) hf)
                            have HCE := Lib.hid (show cnt fz (i + 1) = cnt fz i by rw [HCC.out, hf]; rfl)
                            have HS9 := Lib.hid (HS.out.congr (sz' := fun j => if j < i + 1 then newS l pv sz fz j else sz j) (fun j _ => by
                              by_cases e : j = i
                              · subst e; rw [if_neg (by omega), if_pos (by omega)]; simp [newS, hf]
                              · by_cases e2 : j < i
                                · rw [if_pos e2, if_pos (by omega)]
                                · rw [if_neg e2, if_neg (by omega)]) (fun _ _ => rfl))
                            have HRD9 := Lib.hid (step_W1 hf HRD.out)
                            clear hf hm1 hm2
                            go_wp2
                            go_roundg (l.length - (i + 1))
                            case measure => omega
                            case rel => exact ⟨i + 1, by simp, by rw [HSE.out], by rw [HCE.out], by omega, by omega, HS9, HRD9, HRP⟩
                          case false =>
                            rw [hf] at b0
                            obtain ⟨x, hx⟩ : ∃ x, x = itm l i := ⟨_, rfl⟩
                            rw [← hx] at x0 x1 x2 x3 x4 x5 HX
                            have HSE := Lib.hid (wrg_eq (l := l) (p := pv) (sz := sz) hf hx)
                            have HNE1 := Lib.hid (newS_eq (l := l) (p := pv) (sz := sz) hf hx)
                            have HCE := Lib.hid (show cnt fz (i + 1) = cnt fz i + 1 by rw [HCC.out, hf]; rfl)
                            have hck0 := cnt_lt_of hlt hf
                            have hpc := HRP.out.cell hck0
                            rw [HPV.out i hlt hf] at hpc
                            have hp := HTP.out i
                            have hcb := clampI_near HX.out (x.f0 + pv i)
                            have HF := Lib.hid hf; have Hx := Lib.hid hx
                            obtain ⟨a0, a1, a2, a3, a4, a5, a6, a7, a8, a9, a10, a11⟩ := HX.out
                            have HCLM := Lib.hid (fun (W : World) => rclamp_any HX.out (x.f0 + pv i) W)
                            have hdb : -1152921504606846976 ≤ smA l pv fz i + (clampI x (x.f0 + pv i) - (x.f0 + pv i)) ∧ smA l pv fz i + (clampI x (x.f0 + pv i) - (x.f0 + pv i)) ≤ 1152921504606846976 := by
                              have h1 := HSM.out
                              rw [HSE.out, HNE1.out] at h1
                              rw [← h1]; exact hm2
                            clear hf hx hm2 HCC a2 a3 a4 a5 a6 a7 a8 a9 a10 a11
                            have ck : ((cnt fz i : Nat) : Int) < ((cnt fz l.length : Nat) : Int) := by omega
                            have ck0 : (0 : Int) ≤ ((cnt fz i : Nat) : Int) := by omega
                            go_upto_region 45 with (fail)
                            go_quiet (fail)
                            have D4 : Below wr.heap.size wr (wr.drewN nq) := pw_below_drewN (Below.refl _ _) nq
                            have HS4 := Lib.hid (HS.out.step D4)
                            have HRD4 := Lib.hid (HRD.out.below D4)
                            have HRP4 := Lib.hid (HRP.out.below D4)
                            have x1' := (D4.cell (World.block_lt_of_cell? _ _ x1)).trans x1
                            have x2' := (D4.cell (World.block_lt_of_cell? _ _ x2)).trans x2
                            clear x0 x1 x2 x3 x4 x5 b0 hpc HS HRD HRP D4
                            generalize wr.drewN nq = w4 at *
                            go_upto_region 46 with (fail)
                            have x1d : w4.drew.cell? ⟨(ad.add (i * 6)).block, (ad.add (i * 6)).off + 1, none⟩ = some (.int .i64 x.f1) := x1'
                            have x2d : w4.drew.cell? ⟨(ad.add (i * 6)).block, (ad.add (i * 6)).off + 2, none⟩ = some (.int .i64 x.f2) := x2'
                            have HS5 := Lib.hid (HS4.out.step (below_drew1 (Below.refl _ _)))
                            have HRD5 := Lib.hid (HRD4.out.below (below_drew1 (Below.refl _ _)))
                            have HRP5 := Lib.hid (HRP4.out.below (below_drew1 (Below.refl _ _)))
                            clear HS4 HRD4 HRP4 x1' x2'
                            refine start_ (n := 16) (S := fun w' => w'.cell? ⟨(ad.add (i * 6)).block, (ad.add (i * 6)).off + 1, none⟩ = some (.int .i64 x.f1) ∧ w'.cell? ⟨(ad.add (i * 6)).block, (ad.add (i * 6)).off + 2, none⟩ = some (.int .i64 x.f2)) (ds := [15]) #[false, false, false, false, false, false, false, false, false, false, false, false, false, false, false, false] (by kernel_rfl) rfl rfl ⟨x1d, x2d⟩ (fun hHeld => ?_)
                            generalize w4.drew = w5 at HS5 HRD5 HRP5 x1d x2d hHeld ⊢
                            refine pure_ (i := 0) (N := some 212) (v := ?_) (a' := ?_) #[true, false, false, false, false, false, false, false, false, false, false, false, false, false, false, false] rfl rfl (by kernel_rfl) (fun _ _ _ h => h) (Or.inl ⟨by rfl, ?_⟩) ?_ ?_
                            rotate_left
                            · intro w'
                              go_simp
                              with_reducible rfl
                            rotate_left
                            · simp only [Act.put, List.setIfInBounds_toArray, List.set_cons_zero, List.set_cons_succ, i64_w, i32_w]
                              rfl
                            refine pure_ (i := 1) (N := some 213) (v := ?_) (a' := ?_) #[true, true, false, false, false, false, false, false, false, false, false, false, false, false, false, false] rfl rfl (by kernel_rfl) (fun _ _ _ h => h) (Or.inl ⟨by rfl, ?_⟩) ?_ ?_
                            rotate_left
                            · intro w'
                              go_simp
                              with_reducible rfl
                            rotate_left
                            · simp only [Act.put, List.setIfInBounds_toArray, List.set_cons_zero, List.set_cons_succ, i64_w, i32_w]
                              rfl
                            refine pure_ (i := 2) (N := some 214) (v := ?_) (a' := ?_) #[true, true, true, false, false, false, false, false, false, false, false, false, false, false, false, false] rfl rfl (by kernel_rfl) (fun _ _ _ h => h) (Or.inl ⟨by rfl, ?_⟩) ?_ ?_
                            rotate_left
                            · intro w'
                              go_simp
                              with_reducible rfl
                            rotate_left
                            · simp only [Act.put, List.setIfInBounds_toArray, List.set_cons_zero, List.set_cons_succ, i64_w, i32_w]
                              rfl
                            refine pure_ (i := 3) (N := some 215) (v := ?_) (a' := ?_) #[true, true, true, true, false, false, false, false, false, false, false, false, false, false, false, false] rfl rfl (by kernel_rfl) (fun _ _ _ h => h) (Or.inl ⟨by rfl, ?_⟩) ?_ ?_
                            rotate_left
                            · intro w'
                              go_simp
                              with_reducible rfl
                            rotate_left
                            · simp only [Act.put, List.setIfInBounds_toArray, List.set_cons_zero, List.set_cons_succ, i64_w, i32_w]
                              rfl
                            refine pure_ (i := 4) (N := some 216) (v := ?_) (a' := ?_) #[true, true, true, true, true, false, false, false, false, false, false, false, false, false, false, false] rfl rfl (by kernel_rfl) (fun _ _ _ h => h) (Or.inl ⟨by rfl, ?_⟩) ?_ ?_
                            rotate_left
                            · intro w'
                              go_simp
                              with_reducible rfl
                            rotate_left
                            · simp only [Act.put, List.setIfInBounds_toArray, List.set_cons_zero, List.set_cons_succ, i64_w, i32_w]
                              rfl
                            refine pure_ (i := 5) (N := some 217) (v := ?_) (a' := ?_) #[true, true, true, true, true, true, false, false, false, false, false, false, false, false, false, false] rfl rfl (by kernel_rfl) (fun _ _ _ h => h) (Or.inl ⟨by rfl, ?_⟩) ?_ ?_
                            rotate_left
                            · intro w'
                              go_simp
                              with_reducible rfl
                            rotate_left
                            · simp only [Act.put, List.setIfInBounds_toArray, List.set_cons_zero, List.set_cons_succ, i64_w, i32_w]
                              rfl
                            refine pure_ (i := 6) (N := some 218) (v := ?_) (a' := ?_) #[true, true, true, true, true, true, true, false, false, false, false, false, false, false, false, false] rfl rfl (by kernel_rfl) (fun _ _ _ h => h) (Or.inl ⟨by rfl, ?_⟩) ?_ ?_
                            rotate_left
                            · intro w'
                              go_simp
                              with_reducible rfl
                            rotate_left
                            · simp only [Act.put, List.setIfInBounds_toArray, List.set_cons_zero, List.set_cons_succ, i64_w, i32_w]
                              rfl
                            refine pure_ (i := 8) (N := some 220) (v := ?_) (a' := ?_) #[true, true, true, true, true, true, true, false, true, false, false, false, false, false, false, false] rfl rfl (by kernel_rfl) (fun _ _ _ h => h) (Or.inl ⟨by rfl, ?_⟩) ?_ ?_
                            rotate_left
                            · intro w'
                              go_simp
                              with_reducible rfl
                            rotate_left
                            · simp only [Act.put, List.setIfInBounds_toArray, List.set_cons_zero, List.set_cons_succ, i64_w, i32_w]
                              rfl
                            refine pure_ (i := 9) (N := some 221) (v := ?_) (a' := ?_) #[true, true, true, true, true, true, true, false, true, true, false, false, false, false, false, false] rfl rfl (by kernel_rfl) (fun _ _ _ h => h) (Or.inl ⟨by rfl, ?_⟩) ?_ ?_
                            rotate_left
                            · intro w'
                              go_simp
                              with_reducible rfl
                            rotate_left
                            · simp only [Act.put, List.setIfInBounds_toArray, List.set_cons_zero, List.set_cons_succ, i64_w, i32_w]
                              rfl
                            refine pure_ (i := 10) (N := some 222) (v := ?_) (a' := ?_) #[true, true, true, true, true, true, true, false, true, true, true, false, false, false, false, false] rfl rfl (by kernel_rfl) (fun _ _ _ h => h) (Or.inl ⟨by rfl, ?_⟩) ?_ ?_
                            rotate_left
                            · intro w'
                              go_simp
                              with_reducible rfl
                            rotate_left
                            · simp only [Act.put, List.setIfInBounds_toArray, List.set_cons_zero, List.set_cons_succ, i64_w, i32_w]
                              rfl
                            refine pure_ (i := 11) (N := some 223) (v := ?_) (a' := ?_) #[true, true, true, true, true, true, true, false, true, true, true, true, false, false, false, false] rfl rfl (by kernel_rfl) (fun _ _ _ h => h) (Or.inl ⟨by rfl, ?_⟩) ?_ ?_
                            rotate_left
                            · intro w'
                              go_simp
                              with_reducible rfl
                            rotate_left
                            · simp only [Act.put, List.setIfInBounds_toArray, List.set_cons_zero, List.set_cons_succ, i64_w, i32_w]
                              rfl
                            refine take_ (i := 7) (N := some 219) (v := ?_) (a' := ?_) #[true, true, true, true, true, true, true, true, true, true, true, true, false, false, false, false] rfl rfl (by kernel_rfl) (fun _ _ _ h => h) (Or.inl ⟨by rfl, ?_⟩) hHeld ?_ ?_
                            rotate_left
                            · rintro w' ⟨s0, s1⟩
                              go_simp
                              with_reducible rfl
                            rotate_left
                            · simp only [Act.put, List.setIfInBounds_toArray, List.set_cons_zero, List.set_cons_succ, i64_w, i32_w]
                              rfl
                            refine take_ (i := 12) (N := some 224) (v := ?_) (a' := ?_) #[true, true, true, true, true, true, true, true, true, true, true, true, true, false, false, false] rfl rfl (by kernel_rfl) (fun _ _ _ h => h) (Or.inl ⟨by rfl, ?_⟩) hHeld ?_ ?_
                            rotate_left
                            · rintro w' ⟨s0, s1⟩
                              go_simp
                              with_reducible rfl
                            rotate_left
                            · simp only [Act.put, List.setIfInBounds_toArray, List.set_cons_zero, List.set_cons_succ, i64_w, i32_w]
                              rfl
                            refine one_ (i := 13) (N := some 225) #[true, true, true, true, true, true, true, true, true, true, true, true, true, true, false, false] rfl rfl (by kernel_rfl) (by decide) (fun K hK => ?_)
                            refine goes_ Try.func37 (by kernel_rfl) rfl #[.int .i64 (x.f0 + pv i), .int .i64 x.f1, .int .i64 x.f2] (by rfl) rfl rfl (by simp only [List.map_toArray, List.map_cons, List.map_nil]; rfl) ?_
                            with_reducible refine (rclamp_any HX.out (x.f0 + pv i) _).mono ?_
                            rintro e w6 ⟨rfl, hb⟩
                            refine ⟨_, rfl, ?_⟩
                            have HS6 := Lib.hid (HS5.out.step hb)
                            have HRD6 := Lib.hid (HRD5.out.below hb)
                            have HRP6 := Lib.hid (HRP5.out.below hb)
                            have x1c := (hb.cell (World.block_lt_of_cell? _ _ x1d)).trans x1d
                            have x2c := (hb.cell (World.block_lt_of_cell? _ _ x2d)).trans x2d
                            have g0 := HS6.out.size.cell hlt
                            have gf := HS6.out.size.frozen i
                            clear hb HS5 HRD5 HRP5 x1d x2d
                            refine hK.out _ _ ⟨x1c, x2c⟩ (fun hHeld => ?_)
                            clear hK K
                            refine norm_ (a' := ?_) ?_ ?_
                            rotate_left
                            · show Act.put _ (some 225) _ = _
                              simp only [Act.put, List.setIfInBounds_toArray, List.set_cons_zero, List.set_cons_succ, i64_w, i32_w]
                              rfl
                            refine pure_ (i := 14) (N := some 226) (v := ?_) (a' := ?_) #[true, true, true, true, true, true, true, true, true, true, true, true, true, true, true, false] rfl rfl (by kernel_rfl) (fun _ _ _ h => h) (Or.inl ⟨by rfl, ?_⟩) ?_ ?_
                            rotate_left
                            · intro w'
                              go_simp
                              with_reducible rfl
                            rotate_left
                            · simp only [Act.put, List.setIfInBounds_toArray, List.set_cons_zero, List.set_cons_succ, i64_w, i32_w]
                              rfl
                            refine last_ (i := 15) (N := none) #[true, true, true, true, true, true, true, true, true, true, true, true, true, true, true, true] rfl rfl (by kernel_rfl) (by decide) (fun K hK => ?_)
                            refine skip_ (w1 := ?_) (by rfl) rfl ?_ ?_
                            rotate_left
                            · go_simp
                              rfl
                            refine hK.out _ _ ?_
                            clear hK K
                            refine done_ (by kernel_rfl) ?_
                            have HS7 : Hid (Rf w (w6.setCell ⟨G, i, none⟩ (.int .i64 (clampI x (x.f0 + pv i)))) (some ad) l G F (fun j => if j < i + 1 then newS l pv sz fz j else sz j) fz) := Lib.hid ((HS6.out.setG i (clampI x (x.f0 + pv i))).congr (fun j _ => by
                              by_cases e : j = i
                              · subst e; rw [if_pos rfl, if_pos (by omega), HNE1.out]
                              · rw [if_neg e]
                                by_cases e2 : j < i
                                · rw [if_pos e2, if_pos (by omega)]
                                · rw [if_neg e2, if_neg (by omega)]) (fun _ _ => rfl))
                            have HRD7 := Lib.hid (HRD6.out.far (p := ⟨G, i, none⟩) (fun e => HD0.out.1 e.symm) (.int .i64 (clampI x (x.f0 + pv i))))
                            have HRP7 := Lib.hid (HRP6.out.far (p := ⟨G, i, none⟩) (fun e => HPG.out e.symm) (.int .i64 (clampI x (x.f0 + pv i))))
                            clear g0 gf HS6 HRD6 HRP6 x1c x2c
                            generalize w6.setCell ⟨G, i, none⟩ (.int .i64 (clampI x (x.f0 + pv i))) = w7 at *
                            go_upto_region 47 with (fail)
                            have g0 : w7.cell? ⟨G, i, none⟩ = some (.int .i64 (clampI x (x.f0 + pv i))) := by rw [HS7.out.size.cell hlt, if_pos (by omega), HNE1.out]
                            have d0 := HRD7.out.cell hlt
                            have df := HRD7.out.frozen i
                            go_upto_region 48 with (fail)
                            have HS8 := Lib.hid (HS7.out.far (p := ⟨D, i, none⟩) HD0.out.2.2 HD0.out.1 (fun e => by
                              obtain ⟨cur, hcur⟩ := HS7.out.frozen.blk
                              obtain ⟨cur2, hcur2⟩ := HRD7.out.blk
                              have e' : F = D := e
                              rw [← e', hcur] at hcur2
                              injection hcur2 with h3
                              injection h3 with _ h3
                              exact absurd h3 (by decide)) (.int .i64 (clampI x (x.f0 + pv i) - (x.f0 + pv i))))
                            have HRD8 := Lib.hid (step_W2 (v := clampI x (x.f0 + pv i) - (x.f0 + pv i)) (by rw [HSE.out, HNE1.out]) HRD7.out)
                            have HRP8 := Lib.hid (HRP7.out.far (p := ⟨D, i, none⟩) HD0.out.2.1 (.int .i64 (clampI x (x.f0 + pv i) - (x.f0 + pv i))))
                            clear g0 d0 df HS7 HRD7 HRP7
                            generalize w7.setCell ⟨D, i, none⟩ (.int .i64 (clampI x (x.f0 + pv i) - (x.f0 + pv i))) = w8 at *
                            have d0 : w8.cell? ⟨D, i, none⟩ = some (.int .i64 (clampI x (x.f0 + pv i) - (x.f0 + pv i))) := by rw [HRD8.out.cell hlt, if_pos (by omega), HSE.out, HNE1.out]
                            go_wp2
                            go_roundg (l.length - (i + 1))
                            case measure => omega
                            case rel => exact ⟨i + 1, by simp, by rw [HSM.out, HSE.out, HNE1.out], by rw [HCE.out]; simp, by omega, by omega, HS8, HRD8, HRP8⟩
                        -- DEV5
                        · as_aux_lemma =>
                          obtain rfl : i = l.length := by omega
                          clear hlt hk hi hci
                          obtain ⟨s, hs⟩ : ∃ s, s = smA l pv fz l.length := ⟨_, rfl⟩
                          have HS3 := Lib.hid (HS.out.congr (sz' := newS l pv sz fz) (fun j hj => if_pos hj) (fun _ _ => rfl))
                          have HRD3 := Lib.hid (HRD.out.congr (f' := wrg l pv fz) (fun j hj => if_pos hj))
                          rw [← hs] at HNF ⊢
                          have HFB := Lib.hid (nx_lt l gr inner sz fz HM.out)
                          rw [HNF.out] at HFB
                          have HSS := Lib.hid hs
                          clear hs HS HRD HRP
                          go_wp2_with (fail)
                          go_loopg [11, 23] l.length (fun gk6 v11 v23 wr => ∃ i : Nat, v23 = .int .i64 (i : Int) ∧ v11 = .int .i64 (cnt (mixF s (wrg l pv fz) fz i) l.length : Int) ∧ i ≤ l.length ∧ l.length - i ≤ gk6 ∧ Hid (Rf w wr A0 l G F (newS l pv sz fz) (mixF s (wrg l pv fz) fz i)) ∧ Hid (RowI wr D l.length (wrg l pv fz)))
                          case atStart => exact ⟨0, rfl, by rw [cnt_congr l.length (fun j _ => (mixF_zero s (wrg l pv fz) fz j).symm)], by omega, by omega, Lib.hid (HS3.out.congr (fun _ _ => rfl) (fun j _ => (mixF_zero s (wrg l pv fz) fz j).symm)), HRD3⟩
                          case round =>
                            clear HS3 HRD3
                            obtain ⟨i, rfl, rfl, hi, hk, HS, HRD⟩ := hrel
                            have hcx := cnt_le (mixF s (wrg l pv fz) fz i) l.length
                            by_cases hlt : i < l.length
                            · as_aux_lemma =>
                              -- DEV6
                              have b0 : wr.cell? ⟨F, i, none⟩ = some (.bool (fz i)) := by rw [HS.out.frozen.cell hlt, mixF_at]
                              have bf := HS.out.frozen.frozen i
                              have d0 := HRD.out.cell hlt
                              have HMC := Lib.hid (mixF_cnt s (wrg l pv fz) fz hlt)
                              have HMF := Lib.hid (show ∀ v, newF s (fz i) (wrg l pv fz i) = v → Rf w (wr.setCell ⟨F, i, none⟩ (.bool v)) A0 l G F (newS l pv sz fz) (mixF s (wrg l pv fz) fz (i + 1)) ∧ RowI (wr.setCell ⟨F, i, none⟩ (.bool v)) D l.length (wrg l pv fz) from fun v hv => ⟨(HS.out.setF i v).congr (fun _ _ => rfl) (fun j _ => (mixF_set s (wrg l pv fz) fz hv j).symm), HRD.out.far (p := ⟨F, i, none⟩) (HRD.out.ne HS.out.frozen (by decide)) _⟩)
                              have HSK := Lib.hid (show newF s (fz i) (wrg l pv fz i) = fz i → Rf w wr A0 l G F (newS l pv sz fz) (mixF s (wrg l pv fz) fz (i + 1)) from fun hv => HS.out.congr (fun _ _ => rfl) (fun j _ => (mixF_same s (wrg l pv fz) fz hv j).symm))
                              have ci : (0 : Int) ≤ (i : Int) := by omega
                              have ci' : (i : Int) < (l.length : Int) := by omega
                              obtain ⟨y, hy⟩ : ∃ y, y = wrg l pv fz i := ⟨_, rfl⟩
                              rw [← hy] at d0 HMF HSK HMC
                              clear hy
                              have hcx2 : (cnt (mixF s (wrg l pv fz) fz i) l.length : Int) ≤ 500 := by omega
                              have HKP := HS
                              cases hf : fz i
                              case true =>
                                rw [hf] at b0 HMC HMF HSK
                                have HN := Lib.hid (HSK.out (by simp [newF]))
                                have HC9 := Lib.hid (show cnt (mixF s (wrg l pv fz) fz (i + 1)) l.length = cnt (mixF s (wrg l pv fz) fz i) l.length by have := HMC.out; simp [newF] at this; omega)
                                clear hf
                                go_wp2
                                go_roundg (l.length - (i + 1))
                                case measure => omega
                                case rel => exact ⟨i + 1, by simp, by rw [HC9.out], by omega, by omega, HN, HRD⟩
                              case false =>
                                rw [hf] at b0 HMC HMF HSK
                                clear hf
                                by_cases h0 : s = 0
                                · have t0 : (s == 0) = true := by simp [h0]
                                  have HT0 := Lib.hid t0
                                  have HV := Lib.hid (HMF.out true (by simp [newF, h0]))
                                  have HC9 := Lib.hid (show cnt (mixF s (wrg l pv fz) fz (i + 1)) l.length + 1 = cnt (mixF s (wrg l pv fz) fz i) l.length by have := HMC.out; rw [show newF s false y = true from (by simp [newF, h0])] at this; simp at this; omega)
                                  have hc9 := HC9.out
                                  clear h0 t0
                                  have t0 : (s == 0) = true := HT0.out
                                  go_wp2
                                  go_roundg (l.length - (i + 1))
                                  case measure => omega
                                  case rel => exact ⟨i + 1, by simp, by congr 1; omega, by omega, by omega, Lib.hid HV.out.1, Lib.hid HV.out.2⟩
                                · by_cases h1 : 0 < s
                                  · by_cases h2 : 0 < y
                                    · have t0 : (s == 0) = false := by simp [h0]
                                      have t1 : decide (0 < s) = true := decide_eq_true h1
                                      have t2 : decide (0 < y) = true := decide_eq_true h2
                                      have HV := Lib.hid (HMF.out true (by simp [newF, h1, h2]))
                                      have HC9 := Lib.hid (show cnt (mixF s (wrg l pv fz) fz (i + 1)) l.length + 1 = cnt (mixF s (wrg l pv fz) fz i) l.length by have := HMC.out; rw [show newF s false y = true from (by simp [newF, h1, h2])] at this; simp at this; omega)
                                      have hc9 := HC9.out
                                      go_wp2
                                      go_roundg (l.length - (i + 1))
                                      case measure => omega
                                      case rel => exact ⟨i + 1, by simp, by congr 1; omega, by omega, by omega, Lib.hid HV.out.1, Lib.hid HV.out.2⟩
                                    · have t0 : (s == 0) = false := by simp [h0]
                                      have t1 : decide (0 < s) = true := decide_eq_true h1
                                      have t2 : decide (0 < y) = false := decide_eq_false h2
                                      have t3 : decide (s < 0) = false := decide_eq_false (by omega)
                                      have HV := Lib.hid (HSK.out (by simp [newF, h0, h2]; omega))
                                      have HC9 := Lib.hid (show cnt (mixF s (wrg l pv fz) fz (i + 1)) l.length = cnt (mixF s (wrg l pv fz) fz i) l.length by have := HMC.out; rw [show newF s false y = false from (by simp [newF, h0, h2]; omega)] at this; simp at this; omega)
                                      go_wp2
                                      go_roundg (l.length - (i + 1))
                                      case measure => omega
                                      case rel => exact ⟨i + 1, by simp, by rw [HC9.out], by omega, by omega, HV, HRD⟩
                                  · by_cases h2 : y < 0
                                    · have t0 : (s == 0) = false := by simp [h0]
                                      have t1 : decide (0 < s) = false := decide_eq_false h1
                                      have t3 : decide (s < 0) = true := decide_eq_true (by omega)
                                      have t4 : decide (y < 0) = true := decide_eq_true h2
                                      have HV := Lib.hid (HMF.out true (by simp [newF, h2]; omega))
                                      have HC9 := Lib.hid (show cnt (mixF s (wrg l pv fz) fz (i + 1)) l.length + 1 = cnt (mixF s (wrg l pv fz) fz i) l.length by have := HMC.out; rw [show newF s false y = true from (by simp [newF, h2]; omega)] at this; simp at this; omega)
                                      have hc9 := HC9.out
                                      go_wp2
                                      go_roundg (l.length - (i + 1))
                                      case measure => omega
                                      case rel => exact ⟨i + 1, by simp, by congr 1; omega, by omega, by omega, Lib.hid HV.out.1, Lib.hid HV.out.2⟩
                                    · have t0 : (s == 0) = false := by simp [h0]
                                      have t1 : decide (0 < s) = false := decide_eq_false h1
                                      have t3 : decide (s < 0) = true := decide_eq_true (by omega)
                                      have t4 : decide (y < 0) = false := decide_eq_false h2
                                      have HV := Lib.hid (HSK.out (by simp [newF, h0, h1, h2]))
                                      have HC9 := Lib.hid (show cnt (mixF s (wrg l pv fz) fz (i + 1)) l.length = cnt (mixF s (wrg l pv fz) fz i) l.length by have := HMC.out; rw [show newF s false y = false from (by simp [newF, h0, h1, h2])] at this; simp at this; omega)
                                      go_wp2
                                      go_roundg (l.length - (i + 1))
                                      case measure => omega
                                      case rel => exact ⟨i + 1, by simp, by rw [HC9.out], by omega, by omega, HV, HRD⟩
                            -- DEV7
                            · as_aux_lemma =>
                              obtain rfl : i = l.length := by omega
                              have HE := Lib.hid (cnt_congr (f := mixF s (wrg l pv fz) fz l.length) (f' := fun i => newF s (fz i) (wrg l pv fz i)) l.length (fun j hj => mixF_all s (wrg l pv fz) fz hj))
                              have HSN := Lib.hid (HS.out.congr (sz' := nxS l gr inner sz fz) (fz' := nxF l gr inner sz fz) (fun j _ => by rw [HNS.out]) (fun j hj => by rw [HNF.out]; exact mixF_all s (wrg l pv fz) fz hj))
                              have HIN := Lib.hid (inv_step (gr := gr) hn hi0 hi1 HOK.out HM.out HI.out)
                              obtain ⟨m, rfl⟩ : ∃ m', m = m' + 1 := ⟨m - 1, by omega⟩
                              have HRN := Lib.hid (show R0 = iter l gr inner m (nxS l gr inner sz fz) (nxF l gr inner sz fz) by rw [HRI.out]; show (if moreA fz l.length = true then _ else _) = _; rw [if_pos HM.out])
                              have HCN := Lib.hid (show cnt (mixF s (wrg l pv fz) fz l.length) l.length = cnt (nxF l gr inner sz fz) l.length by rw [HE.out, HNF.out])
                              have HLT := Lib.hid (nx_lt l gr inner sz fz HM.out)
                              have h9 := HLT.out
                              clear hcx
                              go_wp2
                              go_roundg (cnt (nxF l gr inner sz fz) l.length)
                              case measure => omega
                              case rel => exact ⟨m, _, _, by rw [HCN.out], by omega, Nat.le_refl _, by omega, HRN, HIN, HSN⟩
              · have HM := Lib.hid (show moreA fz l.length = false by
                  cases e : moreA fz l.length with
                  | false => rfl
                  | true => exact absurd (cnt_more.1 e) hpos)
                have hc0 : cnt fz l.length = 0 := by omega
                rw [hc0]
                go_wp2
                go_ret
                refine ⟨_, rfl, ?_, HS.out.below⟩
                have e1 : rslv l inner = lst l.length R0 := HRX.out
                have e2 : R0 = sz := by rw [HRI.out]; exact iter_done HM.out m
                rw [e1, e2]
                exact r_of_row HS.out.size HS.out.cap HS.out.loG (Nat.le_refl _) (by show l.length ≤ 9223372036854775807; omega)
end Go.Proofs.Ytlcghlcpngafgaa.PFree
