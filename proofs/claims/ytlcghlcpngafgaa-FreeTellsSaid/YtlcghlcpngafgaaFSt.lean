/- What lies in memory while free space is shared: rows of cells by a function of the place; a state of free.solver. Plain facts on worlds. -/
import Derived.Test.YtlcghlcpngafgaaPFreex
import Derived.Lib.Hide
namespace Go.Proofs.Ytlcghlcpngafgaa.PFree
open Go.RowKit Go.Proofs.YtlcghlcpngafgaaW.PrintWords Go.Proofs.YtlcghlcpngafgaaW.PrintLast Go.Proofs.YtlcghlcpngafgaaW.PrintMore
set_option linter.unusedVariables false

/-- Block g (of type t) begins with n cells: at place i what 'enc (f i)' is. -/
def Row {α : Type} (enc : α → Value) (t : Nat) (W : World) (g n : Nat) (f : Nat → α) : Prop := ∃ cur : Array Value, W.heap[g]? = some (.cells cur t (0, 0)) ∧ n ≤ cur.size ∧ ∀ i, i < n → cur[i]? = some (enc (f i))
section
variable {α : Type} {enc : α → Value} {t : Nat} {W W1 : World} {g n : Nat} {f : Nat → α}
theorem Row.blk (h : Row enc t W g n f) : ∃ cur : Array Value, W.heap[g]? = some (.cells cur t (0, 0)) := by obtain ⟨cur, h, _⟩ := h; exact ⟨cur, h⟩
theorem Row.lt (h : Row enc t W g n f) : g < W.heap.size := by obtain ⟨cur, h, _⟩ := h; exact blk_lt h
theorem Row.cell (h : Row enc t W g n f) {i : Nat} (hi : i < n) : W.cell? ⟨g, i, none⟩ = some (enc (f i)) := by
  obtain ⟨cur, hb, _, hc⟩ := h
  rw [blk_cell hb]; exact hc i hi
theorem Row.frozen (h : Row enc t W g n f) (i : Nat) : W.frozen? ⟨g, i, none⟩ = false := by
  obtain ⟨cur, hb, _, hc⟩ := h
  exact blk_frozen hb i
theorem Row.keep (h : Row enc t W g n f) (hk : W1.heap[g]? = W.heap[g]?) : Row enc t W1 g n f := by
  obtain ⟨cur, hb, r⟩ := h
  exact ⟨cur, hk.trans hb, r⟩
theorem Row.below (h : Row enc t W g n f) (hb : Below W.heap.size W W1) : Row enc t W1 g n f := h.keep (hb.block g h.lt)
theorem Row.far (h : Row enc t W g n f) {p : Addr} (hne : g ≠ p.block) (u : Value) : Row enc t (W.setCell p u) g n f := h.keep (Below.heap_setCell W p u g hne)
theorem Row.drewN (h : Row enc t W g n f) (m : Nat) : Row enc t (W.drewN m) g n f := h
theorem Row.drew (h : Row enc t W g n f) : Row enc t W.drew g n f := h
theorem Row.alloc (h : Row enc t W g n f) (o : Obj) : Row enc t (W.alloc o) g n f := h.keep (Below.heap_alloc W o g h.lt)
theorem Row.congr {f' : Nat → α} (h : Row enc t W g n f) (he : ∀ i, i < n → f i = f' i) : Row enc t W g n f' := by
  obtain ⟨cur, hb, hn, hc⟩ := h
  exact ⟨cur, hb, hn, fun i hi => by rw [hc i hi, he i hi]⟩
theorem Row.set (h : Row enc t W g n f) (i : Nat) (v : α) : Row enc t (W.setCell ⟨g, i, none⟩ (enc v)) g n (fun j => if j = i then v else f j) := by
  obtain ⟨cur, hb, hn, hc⟩ := h
  refine ⟨_, blk_set hb i (enc v), by simpa using hn, fun j hj => ?_⟩
  by_cases e : j = i
  · subst e
    show _ = some (enc (if j = j then v else f j))
    rw [if_pos rfl, Array.getElem?_setIfInBounds, if_pos rfl, if_pos (by omega)]
  · show _ = some (enc (if j = i then v else f j))
    rw [if_neg e, Array.getElem?_setIfInBounds, if_neg (fun e' => e e'.symm)]
    exact hc j hj
theorem Row.ne {t' n' g' : Nat} {β : Type} {enc' : β → Value} {f' : Nat → β} (h : Row enc t W g n f) (h' : Row enc' t' W g' n' f') (hne : t ≠ t') : g ≠ g' := by
  obtain ⟨cur, hb⟩ := h.blk
  obtain ⟨cur', hb'⟩ := h'.blk
  exact blk_ne hb hb' hne
end
/-- The list of what a row reads. -/
def lst {α : Type} (n : Nat) (f : Nat → α) : List α := (List.range n).map f
theorem lst_length {α : Type} (n : Nat) (f : Nat → α) : (lst n f).length = n := by simp [lst]
theorem lst_getD {α : Type} {n : Nat} (f : Nat → α) (d : α) {i : Nat} (h : i < n) : (lst n f).getD i d = f i := by simp [lst, List.getD, h]
theorem lst_succ {α : Type} (n : Nat) (f : Nat → α) : lst (n + 1) f = lst n f ++ [f n] := by simp [lst, List.range_succ]
theorem Row.reads {α : Type} {enc : α → Value} {h1 : ∀ x, (enc x).oneCell' = true} (d : α) {t : Nat} {W : World} {g n : Nat} {f : Nat → α} (h : Row enc t W g n f) (hn : n ≤ 9223372036854775807) : (Kd.scalar enc h1).C W (some ⟨g, 0, none⟩) (lst n f).length (lst n f) := by
  refine Kd.C_of_reads (d := d) ⟨rfl, by rw [lst_length]; exact hn, fun h0 => ⟨_, rfl, fun j hj => ?_⟩⟩
  rw [lst_length] at hj
  rw [lst_getD f d hj]
  have := h.cell hj
  have e : (⟨g, 0, none⟩ : Addr).add j = ⟨g, j, none⟩ := by simp [Addr.add]; omega
  rw [e]
  exact this
abbrev RowI (W : World) (g n : Nat) (f : Nat → Int) : Prop := Row (Value.int .i64) 2 W g n f
abbrev RowB (W : World) (g n : Nat) (f : Nat → Bool) : Prop := Row Value.bool 4 W g n f
theorem RowI.reads {W : World} {g n : Nat} {f : Nat → Int} (h : RowI W g n f) (hn : n ≤ 9223372036854775807) : (Kd.int .i64).C W (some ⟨g, 0, none⟩) (lst n f).length (lst n f) := Row.reads (h1 := fun _ => rfl) 0 h hn
theorem RowB.reads {W : World} {g n : Nat} {f : Nat → Bool} (h : RowB W g n f) (hn : n ≤ 9223372036854775807) : Kd.bool.C W (some ⟨g, 0, none⟩) (lst n f).length (lst n f) := Row.reads (h1 := fun _ => rfl) false h hn
theorem row_of_R {α : Type} {enc : α → Value} {h1 : ∀ x, (enc x).oneCell' = true} {e : Nat} {w : World} {base : Nat} {ok : Nat → Prop} {v : Value} {xs : List α} (d : α) (h : (Kd.scalar enc h1).R e w base ok v xs) (hn : 0 < xs.length) :
    ∃ g c, v = .slice (some ⟨g, 0, none⟩) xs.length c ∧ base ≤ g ∧ xs.length ≤ c ∧ Row enc e w g xs.length (fun i => xs.getD i d) := by
  have ho := Kd.own_of_R h
  rcases ho.2 with ⟨_, h0⟩ | ⟨g, cap, cur, rfl, hbase, hb, h1', h2, h3, h4⟩
  · rw [h0] at hn; cases hn
  · refine ⟨g, cap, rfl, hbase, h1', cur, hb, by omega, fun i hi => ?_⟩
    rw [Nat.mul_one] at h4
    have e1 : (cur.toList.take xs.length)[i]? = (encs enc xs)[i]? := by rw [h4]
    rw [List.getElem?_take_of_lt hi, Array.getElem?_toList] at e1
    rw [e1]
    exact encs_get xs i hi

/-- Block g holds a state of free.solver. -/
def Slv (W : World) (g : Nat) (A0 : Option Addr) (n c0 : Nat) (gr : Bool) (v2 : Value) (F : Nat) : Prop := W.heap[g]? = some (.cells #[.slice A0 n c0, .bool gr, v2, .slice (some ⟨F, 0, none⟩) n n] 54 (0, 0))
section
variable {W W1 : World} {g : Nat} {A0 : Option Addr} {n c0 : Nat} {gr : Bool} {v2 : Value} {F : Nat}
theorem Slv.below (h : Slv W g A0 n c0 gr v2 F) (hb : Below W.heap.size W W1) : Slv W1 g A0 n c0 gr v2 F := blk_below h hb
theorem Slv.far (h : Slv W g A0 n c0 gr v2 F) {p : Addr} (hne : g ≠ p.block) (u : Value) : Slv (W.setCell p u) g A0 n c0 gr v2 F := blk_far h hne u
theorem Slv.cells (h : Slv W g A0 n c0 gr v2 F) : W.cell? ⟨g, 0, none⟩ = some (.slice A0 n c0) ∧ W.cell? ⟨g, 1, none⟩ = some (.bool gr) ∧ W.cell? ⟨g, 2, none⟩ = some v2 ∧ W.cell? ⟨g, 3, none⟩ = some (.slice (some ⟨F, 0, none⟩) n n) :=
  ⟨(blk_cell h 0).trans rfl, (blk_cell h 1).trans rfl, (blk_cell h 2).trans rfl, (blk_cell h 3).trans rfl⟩
theorem Slv.frozen (h : Slv W g A0 n c0 gr v2 F) (i : Nat) : W.frozen? ⟨g, i, none⟩ = false := blk_frozen h i
theorem Slv.ne {α : Type} {enc : α → Value} {t g' m : Nat} {f : Nat → α} (h : Slv W g A0 n c0 gr v2 F) (h' : Row enc t W g' m f) (hne : 54 ≠ t) : g ≠ g' := by
  obtain ⟨cur, hb⟩ := h'.blk
  exact blk_ne h hb hne
end

/-- How many cells block G has. -/
def Cap (W : World) (G cG : Nat) : Prop := ∃ cur : Array Value, W.heap[G]? = some (.cells cur 2 (0, 0)) ∧ cur.size = cG
theorem Cap.keep {W W1 : World} {G cG : Nat} (h : Cap W G cG) (hk : W1.heap[G]? = W.heap[G]?) : Cap W1 G cG := by
  obtain ⟨cur, hb, hs⟩ := h
  exact ⟨cur, hk.trans hb, hs⟩
theorem Cap.below {W W1 : World} {G cG : Nat} (h : Cap W G cG) (hb : Below W.heap.size W W1) : Cap W1 G cG := h.keep (hb.block G (by obtain ⟨cur, h, _⟩ := h; exact blk_lt h))
theorem Cap.far {W : World} {G cG : Nat} (h : Cap W G cG) {p : Addr} (hne : G ≠ p.block) (u : Value) : Cap (W.setCell p u) G cG := h.keep (Below.heap_setCell W p u G hne)
theorem Cap.set {W : World} {G cG : Nat} (h : Cap W G cG) (i : Nat) (u : Value) : Cap (W.setCell ⟨G, i, none⟩ u) G cG := by
  obtain ⟨cur, hb, hs⟩ := h
  exact ⟨_, blk_set hb i u, by simpa using hs⟩

/-- The solver's whole state: the items (they came in by w0), its own three blocks, made since. -/
structure St (w0 W : World) (g : Nat) (A0 : Option Addr) (c0 : Nat) (l : List S39) (gr : Bool) (G cG F : Nat) (sz : Nat → Int) (fz : Nat → Bool) : Prop where
  items : Kd.C k39 w0 A0 l.length l
  room : l.length ≤ c0
  below : Below w0.heap.size w0 W
  slv : Slv W g A0 l.length c0 gr (.slice (some ⟨G, 0, none⟩) l.length cG) F
  size : RowI W G l.length sz
  frozen : RowB W F l.length fz
  cap : Cap W G cG
  lo : w0.heap.size ≤ g
  loG : w0.heap.size ≤ G
  loF : w0.heap.size ≤ F
section
variable {w0 W W1 : World} {g : Nat} {A0 : Option Addr} {c0 : Nat} {l : List S39} {gr : Bool} {G cG F : Nat} {sz : Nat → Int} {fz : Nat → Bool}
theorem St.step (h : St w0 W g A0 c0 l gr G cG F sz fz) (hb : Below W.heap.size W W1) : St w0 W1 g A0 c0 l gr G cG F sz fz :=
  ⟨h.items, h.room, below_then h.below h.below.size hb, h.slv.below hb, h.size.below hb, h.frozen.below hb, h.cap.below hb, h.lo, h.loG, h.loF⟩
theorem St.drewN (h : St w0 W g A0 c0 l gr G cG F sz fz) (m : Nat) : St w0 (W.drewN m) g A0 c0 l gr G cG F sz fz := ⟨h.items, h.room, pw_below_drewN h.below m, h.slv, h.size, h.frozen, h.cap, h.lo, h.loG, h.loF⟩
theorem St.drew (h : St w0 W g A0 c0 l gr G cG F sz fz) : St w0 W.drew g A0 c0 l gr G cG F sz fz := ⟨h.items, h.room, h.below.drew, h.slv, h.size, h.frozen, h.cap, h.lo, h.loG, h.loF⟩
theorem St.gG (h : St w0 W g A0 c0 l gr G cG F sz fz) : g ≠ G := h.slv.ne h.size (by decide)
theorem St.gF (h : St w0 W g A0 c0 l gr G cG F sz fz) : g ≠ F := h.slv.ne h.frozen (by decide)
theorem St.GF (h : St w0 W g A0 c0 l gr G cG F sz fz) : G ≠ F := h.size.ne h.frozen (by decide)
theorem St.far (h : St w0 W g A0 c0 l gr G cG F sz fz) {p : Addr} (h0 : w0.heap.size ≤ p.block) (h1 : g ≠ p.block) (h2 : G ≠ p.block) (h3 : F ≠ p.block) (u : Value) : St w0 (W.setCell p u) g A0 c0 l gr G cG F sz fz :=
  ⟨h.items, h.room, h.below.setCell h0 u, h.slv.far h1 u, h.size.far h2 u, h.frozen.far h3 u, h.cap.far h2 u, h.lo, h.loG, h.loF⟩
theorem St.setG (h : St w0 W g A0 c0 l gr G cG F sz fz) (i : Nat) (v : Int) : St w0 (W.setCell ⟨G, i, none⟩ (.int .i64 v)) g A0 c0 l gr G cG F (fun j => if j = i then v else sz j) fz :=
  ⟨h.items, h.room, h.below.setCell h.loG _, h.slv.far h.gG _, h.size.set i v, h.frozen.far (p := ⟨G, i, none⟩) (fun e => h.GF e.symm) _, h.cap.set i _, h.lo, h.loG, h.loF⟩
theorem St.setF (h : St w0 W g A0 c0 l gr G cG F sz fz) (i : Nat) (v : Bool) : St w0 (W.setCell ⟨F, i, none⟩ (.bool v)) g A0 c0 l gr G cG F sz (fun j => if j = i then v else fz j) :=
  ⟨h.items, h.room, h.below.setCell h.loF _, h.slv.far h.gF _, h.size.far (p := ⟨F, i, none⟩) h.GF _, h.frozen.set i v, h.cap.far (p := ⟨F, i, none⟩) h.GF _, h.lo, h.loG, h.loF⟩
theorem St.congr {sz' : Nat → Int} {fz' : Nat → Bool} (h : St w0 W g A0 c0 l gr G cG F sz fz) (h1 : ∀ i, i < l.length → sz i = sz' i) (h2 : ∀ i, i < l.length → fz i = fz' i) : St w0 W g A0 c0 l gr G cG F sz' fz' :=
  ⟨h.items, h.room, h.below, h.slv, h.size.congr h1, h.frozen.congr h2, h.cap, h.lo, h.loG, h.loF⟩
theorem St.isS_items (h : St w0 W g A0 c0 l gr G cG F sz fz) : Kd.C k39 W A0 l.length l := Kd.C_below h.items h.below
theorem St.isS (h : St w0 W g A0 c0 l gr G cG F sz fz) (hn : l.length ≤ 1000) : IsS54 W W g l gr (lst l.length sz) (lst l.length fz) := by
  refine ⟨A0, c0, some ⟨G, 0, none⟩, cG, some ⟨F, 0, none⟩, l.length, ?_, trivial, Kd.C_below h.items h.below, h.size.reads (by omega), h.frozen.reads (by omega)⟩
  rw [lst_length, lst_length]
  exact h.slv
end

/-- Item i. -/
def itm (l : List S39) (i : Nat) : S39 := l.getD i z39
theorem itm_T (l : List S39) (i : Nat) : rd_T39 l (i : Int) = itm l i := by simp [rd_T39, itm]
/-- What items may be. -/
def OkX (x : S39) : Prop := 0 ≤ x.f0 ∧ x.f0 ≤ 8796093022208 ∧ 0 ≤ x.f1 ∧ x.f1 ≤ 8796093022208 ∧ -1 ≤ x.f2 ∧ x.f2 ≤ 8796093022208 ∧ 0 ≤ x.f3 ∧ x.f3 ≤ 100 ∧ 0 ≤ x.f4 ∧ x.f4 ≤ 100 ∧ -8796093022208 ≤ x.f5 ∧ x.f5 ≤ 8796093022208
/-- What is left of the room ahead of item i. -/
def inAt (l : List S39) (sz : Nat → Int) (fz : Nat → Bool) (inner : Int) : Nat → Int
  | 0 => inner
  | i + 1 => inAt l sz fz inner i - (itm l i).f5 - (if fz i = true then sz i else (itm l i).f0)
def wgt (gr : Bool) (x : S39) : Int := if gr = true then x.f3 else x.f0 * x.f4
def wts (l : List S39) (gr : Bool) (fz : Nat → Bool) (n : Nat) : List Int := lst n (fun i => if fz i = true then 0 else wgt gr (itm l i))
/-- What is shared. -/
def toS (gr : Bool) (n : Int) : Int := if (gr != decide (n > 0)) = true then 0 else n
/-- A size between an item's bounds. -/
def clampI (x : S39) (n : Int) : Int := if x.f2 = -1 then max (max n x.f1) 0 else max (max (min n x.f2) x.f1) 0
theorem clampI_bd {x : S39} (h : OkX x) (n : Int) : 0 ≤ clampI x n ∧ (n ≤ 1000000000000000000 → clampI x n ≤ 1000000000000000000) := by
  obtain ⟨a0, a1, a2, a3, a4, a5, a6, a7, a8, a9, a10, a11⟩ := h
  unfold clampI
  split <;> (refine ⟨?_, fun _ => ?_⟩ <;> omega)
def newS (l : List S39) (p sz : Nat → Int) (fz : Nat → Bool) (i : Nat) : Int := if fz i = true then sz i else clampI (itm l i) ((itm l i).f0 + p i)
def wrg (l : List S39) (p : Nat → Int) (fz : Nat → Bool) (i : Nat) : Int := if fz i = true then 0 else clampI (itm l i) ((itm l i).f0 + p i) - ((itm l i).f0 + p i)
def smA (l : List S39) (p : Nat → Int) (fz : Nat → Bool) : Nat → Int
  | 0 => 0
  | i + 1 => smA l p fz i + wrg l p fz i
def moreA (fz : Nat → Bool) : Nat → Bool
  | 0 => false
  | i + 1 => moreA fz i || !fz i
def newF (s : Int) (f : Bool) (x : Int) : Bool := f || decide (s = 0) || (decide (0 < s) && decide (0 < x)) || (decide (s < 0) && decide (x < 0))
end Go.Proofs.Ytlcghlcpngafgaa.PFree
