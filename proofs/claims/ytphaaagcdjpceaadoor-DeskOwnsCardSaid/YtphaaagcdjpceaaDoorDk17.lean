/- desk: the calls, said of a desk with its sessions. -/
import Derived.Test.YtphaaagcdjpceaaDoorDk15
namespace Go.Proofs.YtphaaagcdjpceaaDoor
open Go.RowKit Go.Extern.Stop Go.Stop Go.Extern Go.Proofs.YtphaaagcdjpceaaDoorW.PrintWords Go.Proofs.YtphaaagcdjpceaaDoorW.PrintLast Go.Proofs.YtphaaagcdjpceaaDoorW.PrintMore
open Go.Maps (Keyed)
set_option linter.unusedVariables false
/-- The types of what a desk's calls turn. -/
abbrev DT : List Nat := [106, 108, 136]
theorem keeps_pool {W W' : World} {base g M : Nat} {most n : Int} {ps : List S108} {es : Array MapEntry} {clock : Nat} (hp : PL W base g most ps n) (hm : W.heap[M]? = some (.map es clock)) (hd : DF g M W W') : Keeps DT W W' := by
  refine ⟨hd.size, fun k cs t fr hk ht => hd.block k (blk_lt hk) ?_ ?_ ?_⟩
  · rintro rfl
    obtain ⟨g0, A, c, p1, p2⟩ := hp
    rw [p1] at hk; injection hk with hk; injection hk with _ hk _; subst hk; exact ht (by decide)
  · intro he
    obtain ⟨g0, A, c, p1, p2⟩ := hp
    rw [abk_of ((blk_cell p1 1).trans (show _ = some (Value.slice A ps.length c) from rfl))] at he
    obtain ⟨cells, hc⟩ := Kd.R_typed p2 k he.symm
    rw [hc] at hk; injection hk with hk; injection hk with _ hk _; subst hk; exact ht (by decide)
  · rintro rfl; rw [hm] at hk; cases hk
theorem keeps_SF {W W' : World} {base sb : Nat} {sm : Int} {s : Sn} (h : SS W base sb sm s) (hd : SF sb W W') : Keeps DT W W' :=
  ⟨hd.size, fun k cs t fr hk ht => hd.block k (blk_lt hk) (by
    rintro rfl
    rw [h.hd] at hk; injection hk with hk; injection hk with _ hk _; subst hk; exact ht (by decide))⟩
theorem keepsD {W W' : World} {base d pg M : Nat} {most n : Int} {ps : List S108} {snaps : Int} {cap : Nat} {D : DataW Unit} (h : DK W base d pg M most n ps snaps cap D) (hd : DF pg M W W') : Keeps DT W W' := by
  obtain ⟨_, hp, ⟨es, clock, hm, _⟩⟩ := h
  exact keeps_pool hp hm hd
theorem keepsS {W W' : World} {base sb : Nat} {sm : Int} {s : Sn} (h : SS W base sb sm s) (hd : DF s.sg s.mb W W') : Keeps DT W W' := by
  obtain ⟨_, hp, ⟨es, clock, hm, _⟩, _, _⟩ := h
  exact keeps_pool hp hm hd
set_option maxHeartbeats 4000000 in
set_option maxRecDepth 100000 in
theorem newdesk2 (a b : Int) (w : World) : Calls Tryd.prog 39 #[.int .i64 a, .int .i64 b] w fun e w' => ∃ d M, e = .returned (.pointer (some ⟨d, 0, none⟩)) ∧ DK w' w.heap.size d w.heap.size M (min (max a 0) 10000) 0 [] b 0 (.map []) ∧ Below w.heap.size w w' ∧ w.heap.size ≤ M := by
  go_enter Tryd.func39, Tryd.ntmps39
  go_wp2_with (fail)
  go_at_call 15
  (with_reducible refine (newpool_calls a _).mono ?_)
  rintro e w1 ⟨rfl, h1, hb⟩
  have H1 := Lib.hid h1; have HB := Lib.hid hb
  clear h1 hb
  have hmk := mk131
  have B2 := below_alloc (Below.refl w1.heap.size w1) (.map #[] 0)
  have B3 := below_alloc B2 (.cells #[.pointer (some ⟨w.heap.size, 0, none⟩), .int .i64 b, .map (some w1.heap.size)] 133)
  have hm := World.ownsMap_made w1 Tryd.prog 3 ptrEl
  have hn := heap_alloc_new (w1.alloc (.map #[] 0)) (.cells #[.pointer (some ⟨w.heap.size, 0, none⟩), .int .i64 b, .map (some w1.heap.size)] 133)
  rw [World.size_alloc] at hn
  have HD : Hid (DK ((w1.alloc (.map #[] 0)).alloc (.cells #[.pointer (some ⟨w.heap.size, 0, none⟩), .int .i64 b, .map (some w1.heap.size)] 133)) w.heap.size (w1.heap.size + 1) w.heap.size w1.heap.size (min (max a 0) 10000) 0 [] b 0 (.map [])) := Lib.hid ⟨hn, H1.out.below B3, World.ownsMap.alloc hm _⟩
  have HB3 := Lib.hid (below_step HB.out B3)
  clear B2 B3 hm hn
  go_wp2
  go_ret
  exact ⟨_, _, rfl, HD.out, HB3.out, HB.out.size⟩
/-- A desk in a law: its base is the world that the law began in. -/
structure DS (w W : World) (d pg M : Nat) (most n : Int) (ps : List S108) (snaps : Int) (cap : Nat) (D : DataW Unit) (sm : Int) (F : Int → Nat × Sn) : Prop where
  ds : Dsk W w.heap.size d pg M most n ps snaps cap D sm F
  bl : Below w.heap.size w W
  lm : w.heap.size ≤ M
theorem DK.lower {W : World} {base b2 d pg M : Nat} {most n : Int} {ps : List S108} {snaps : Int} {cap : Nat} {D : DataW Unit} (h : DK W base d pg M most n ps snaps cap D) (hb : b2 ≤ base) : DK W b2 d pg M most n ps snaps cap D := ⟨h.hd, h.pl.lower hb, h.mp⟩
section
variable {w W : World} {d pg M : Nat} {most n : Int} {ps : List S108} {snaps : Int} {cap : Nat} {D : DataW Unit} {sm : Int} {F : Int → Nat × Sn}
theorem DS.below {W1 : World} (h : DS w W d pg M most n ps snaps cap D sm F) (hb : Below W.heap.size W W1) : DS w W1 d pg M most n ps snaps cap D sm F := ⟨h.ds.below hb, below_step h.bl hb, h.lm⟩
theorem DS.good (h : DS w W d pg M most n ps snaps cap D sm F) (hG : Good w) : Good W := hG.below h.bl
/-- No session. -/
def F0 : Int → Nat × Sn := fun _ => (0, newS 0 0)
theorem dnew (a b : Int) (hb : Below w.heap.size w W) : Calls Tryd.prog 39 #[.int .i64 a, .int .i64 b] W fun e w' => ∃ d pg M, e = .returned (.pointer (some ⟨d, 0, none⟩)) ∧ DS w w' d pg M (min (max a 0) 10000) 0 [] b 0 (.map []) (min (max b 0) 10000) F0 ∧ Below W.heap.size W w' := by
  refine (newdesk2 a b W).mono ?_
  rintro e w' ⟨d, M, rfl, hk, hl, hM⟩
  have hno : ∀ x, ¬ hasI (.map []) x := fun x h => by simp [hasI, Go.Maps.has] at h
  have hlo := hb.size
  exact ⟨d, _, M, rfl, ⟨⟨hk.lower hlo, fun x hx => absurd hx (hno x), fun x hx => absurd hx (hno x), fun x y hx => absurd hx (hno x)⟩, below_step hb hl, Nat.le_trans hlo hM⟩, hl⟩
theorem dopen (h : DS w W d pg M most n ps snaps cap D sm F) (hsm : sm = min (max snaps 0) 10000) (i : Nat) (hni : ¬ hasI D (i : Int)) (hcap : cap < 1000) (hi : i ≤ ps.length) (hf : ∀ j, j < i → (plc ps j).f1 = true) (hf2 : i < ps.length → (plc ps i).f1 = false) (hm : (i : Int) ≠ most) (hl : ps.length ≤ 1000) (ht0 : 0 ≤ turnOf ps i) (ht1 : turnOf ps i ≤ 1000000) (hn0 : -1000000 ≤ n) (hn1 : n ≤ 1000000) :
    Calls Tryd.prog 40 #[.pointer (some ⟨d, 0, none⟩)] W fun e w' => ∃ sb sg mb : Nat, e = .returned (.tuple #[.agg #[.int .i64 (i : Int), .int .i64 (turnOf ps i)], .nilIface]) ∧ DS w w' d pg M most (n + 1) (tookL ps i) snaps (cap + 1) (D.put (.int .i64 (i : Int)) (.lit (.int .i64 (sb : Int)))) sm (upF F (i : Int) (sb, newS sg mb)) ∧ Keeps DT W w' := by
  subst hsm
  refine (open_ok d w.heap.size pg M most n ps snaps cap D i W h.ds.dk h.bl.size h.lm hcap hi hf hf2 hm hl ht0 ht1 hn0 hn1).mono ?_
  rintro e w' ⟨sb, sg, mb, rfl, ho⟩
  exact ⟨sb, sg, mb, rfl, ⟨h.ds.open_ h.bl.size hni ho, h.bl.trans ho.be, h.lm⟩, keepsD h.ds.dk ho.df⟩
theorem dopen_full {i : Nat} (h : DS w W d pg M (i : Int) n ps snaps cap D sm F) (hG : Good w) (hi : i ≤ ps.length) (hf : ∀ j, j < i → (plc ps j).f1 = true) (hf2 : i < ps.length → (plc ps i).f1 = false) (hl : ps.length ≤ 1000) :
    Calls Tryd.prog 40 #[.pointer (some ⟨d, 0, none⟩)] W fun e w' => ∃ k, e = .returned (.tuple #[.agg #[.int .i64 0, .int .i64 0], .iface 179 (.pointer (some ⟨k, 0, none⟩))]) ∧ Joined w' k 2 ∧ DS w w' d pg M (i : Int) n ps snaps cap D sm F ∧ Below W.heap.size W w' := by
  refine (open_full d w.heap.size pg M n ps snaps cap D i W (h.good hG) h.ds.dk hi hf hf2 hl).mono ?_
  rintro e w' ⟨k, rfl, hj, hb⟩
  exact ⟨k, rfl, hj, h.below hb, hb⟩
theorem dsend (h : DS w W d pg M most n ps snaps cap D sm F) {p t : Int} (hp : (Lit.int .i64 p).wf = true) (hh : hasB ps p t = true) (hx : hasI D p) (hw : (F p).2.wt = false) (A : Option Addr) (c : Nat) (bs : List Int) (hb : Kd.C (Kd.int .u8) W A bs.length bs) (hl : bs.length ≤ 100000) :
    Calls Tryd.prog 41 #[.pointer (some ⟨d, 0, none⟩), .agg #[.int .i64 p, .int .i64 t], .slice A bs.length c] W fun e w' => ∃ v', e = .returned .nilIface ∧ DS w w' d pg M most n ps snaps cap D sm (upF F p ((F p).1, { (F p).2 with wt := true, bv := v', bs := bs })) ∧ Keeps DT W w' := by
  obtain ⟨h1, h2⟩ := h.ds.at_ p hx
  refine (send_ok d w.heap.size pg M (F p).1 most n ps snaps cap D p t sm (F p).2 W h.ds.dk hp hh h1 h2 hw A c bs hb hl).mono ?_
  rintro e w' ⟨v', rfl, hs, hr, hf, hbl⟩
  exact ⟨v', rfl, ⟨h.ds.turnSF hx hs rfl rfl (fun k hk => ((Kd.R_bound hr).1 k hk.symm).2.1) hf, h.bl.trans hbl, h.lm⟩, keeps_SF h2 hf⟩
theorem dsend_busy (h : DS w W d pg M most n ps snaps cap D sm F) (hG : Good w) {p t : Int} (hp : (Lit.int .i64 p).wf = true) (hh : hasB ps p t = true) (hx : hasI D p) (hw : (F p).2.wt = true) (A : Option Addr) (m c : Nat) (hl : m ≤ 100000) :
    Calls Tryd.prog 41 #[.pointer (some ⟨d, 0, none⟩), .agg #[.int .i64 p, .int .i64 t], .slice A m c] W fun e w' => ∃ k, e = .returned (.iface 179 (.pointer (some ⟨k, 0, none⟩))) ∧ Joined w' k 17 ∧ DS w w' d pg M most n ps snaps cap D sm F ∧ Below W.heap.size W w' := by
  obtain ⟨h1, h2⟩ := h.ds.at_ p hx
  refine (send_busy d w.heap.size pg M (F p).1 most n ps snaps cap D p t sm (F p).2 W h.ds.dk hp hh h1 h2 (h.good hG) hw A m c hl).mono ?_
  rintro e w' ⟨k, rfl, hj, hb⟩
  exact ⟨k, rfl, hj, h.below hb, hb⟩
theorem dsend_no (h : DS w W d pg M most n ps snaps cap D sm F) (hG : Good w) {p t : Int} (hp : -9223372036854775808 ≤ p ∧ p ≤ 9223372036854775807) (hh : hasB ps p t = false) (A : Option Addr) (m c : Nat) :
    Calls Tryd.prog 41 #[.pointer (some ⟨d, 0, none⟩), .agg #[.int .i64 p, .int .i64 t], .slice A m c] W fun e w' => ∃ k, e = .returned (.iface 179 (.pointer (some ⟨k, 0, none⟩))) ∧ Joined w' k 3 ∧ DS w w' d pg M most n ps snaps cap D sm F ∧ Below W.heap.size W w' := by
  refine (send_no d w.heap.size pg M most n ps snaps cap D p t W (h.good hG) h.ds.dk hp hh A m c).mono ?_
  rintro e w' ⟨k, rfl, hj, hb⟩
  exact ⟨k, rfl, hj, h.below hb, hb⟩
theorem dwaits (h : DS w W d pg M most n ps snaps cap D sm F) {p t : Int} (hp : (Lit.int .i64 p).wf = true) (hh : hasB ps p t = true) (hx : hasI D p) (hw : (F p).2.wt = true) (hl : (F p).2.bs.length ≤ 100000) :
    Calls Tryd.prog 45 #[.pointer (some ⟨d, 0, none⟩), .agg #[.int .i64 p, .int .i64 t]] W fun e w' => ∃ v', e = .returned (.tuple #[v', .bool true]) ∧ Kd.R (Kd.int .u8) 5 w' W.heap.size (fun _ => True) v' (F p).2.bs ∧ DS w w' d pg M most n ps snaps cap D sm F ∧ Below W.heap.size W w' := by
  obtain ⟨h1, h2⟩ := h.ds.at_ p hx
  refine (waits_yes d w.heap.size pg M (F p).1 most n ps snaps cap D p t sm (F p).2 W h.ds.dk hp hh h1 h2 hw hl).mono ?_
  rintro e w' ⟨v', rfl, hr, hb⟩
  exact ⟨v', rfl, hr, h.below hb, hb⟩
theorem dwaits_none (h : DS w W d pg M most n ps snaps cap D sm F) {p t : Int} (hp : (Lit.int .i64 p).wf = true) (hh : hasB ps p t = true) (hx : hasI D p) (hw : (F p).2.wt = false) :
    Calls Tryd.prog 45 #[.pointer (some ⟨d, 0, none⟩), .agg #[.int .i64 p, .int .i64 t]] W fun e w' => e = .returned (.tuple #[.slice none 0 0, .bool false]) ∧ DS w w' d pg M most n ps snaps cap D sm F ∧ Below W.heap.size W w' := by
  obtain ⟨h1, h2⟩ := h.ds.at_ p hx
  refine (waits_none d w.heap.size pg M (F p).1 most n ps snaps cap D p t sm (F p).2 W h.ds.dk hp hh h1 h2 hw).mono ?_
  rintro e w' ⟨rfl, hb⟩
  exact ⟨rfl, h.below hb, hb⟩
theorem dwaits_no (h : DS w W d pg M most n ps snaps cap D sm F) (hG : Good w) {p t : Int} (hp : -9223372036854775808 ≤ p ∧ p ≤ 9223372036854775807) (hh : hasB ps p t = false) :
    Calls Tryd.prog 45 #[.pointer (some ⟨d, 0, none⟩), .agg #[.int .i64 p, .int .i64 t]] W fun e w' => e = .returned (.tuple #[.slice none 0 0, .bool false]) ∧ DS w w' d pg M most n ps snaps cap D sm F ∧ Below W.heap.size W w' := by
  refine (waits_no d w.heap.size pg M most n ps snaps cap D p t W (h.good hG) h.ds.dk hp hh).mono ?_
  rintro e w' ⟨rfl, hb⟩
  exact ⟨rfl, h.below hb, hb⟩
theorem dtake (h : DS w W d pg M most n ps snaps cap D sm F) {p t : Int} (hp : (Lit.int .i64 p).wf = true) (hh : hasB ps p t = true) (hx : hasI D p) (hw : (F p).2.wt = true) :
    Calls Tryd.prog 49 #[.pointer (some ⟨d, 0, none⟩), .agg #[.int .i64 p, .int .i64 t]] W fun e w' => e = .returned (.tuple #[(F p).2.bv, .nilIface]) ∧ Kd.R (Kd.int .u8) 5 w' w.heap.size (fun _ => True) (F p).2.bv (F p).2.bs ∧ DS w w' d pg M most n ps snaps cap D sm (upF F p ((F p).1, { (F p).2 with wt := false, bv := .slice none 0 0, bs := [] })) ∧ Keeps DT W w' := by
  obtain ⟨h1, h2⟩ := h.ds.at_ p hx
  refine (takes_yes d w.heap.size pg M (F p).1 most n ps snaps cap D p t sm (F p).2 W h.ds.dk hp hh h1 h2 hw).mono ?_
  rintro e w' ⟨rfl, hs, hr, hf, hbl⟩
  exact ⟨rfl, hr, ⟨h.ds.turnSF hx hs rfl rfl (fun k hk => by simp [Value.ownBlock] at hk) hf, h.bl.trans hbl, h.lm⟩, keeps_SF h2 hf⟩
theorem dtake_idle (h : DS w W d pg M most n ps snaps cap D sm F) (hG : Good w) {p t : Int} (hp : (Lit.int .i64 p).wf = true) (hh : hasB ps p t = true) (hx : hasI D p) (hw : (F p).2.wt = false) :
    Calls Tryd.prog 49 #[.pointer (some ⟨d, 0, none⟩), .agg #[.int .i64 p, .int .i64 t]] W fun e w' => ∃ k, e = .returned (.tuple #[.slice none 0 0, .iface 179 (.pointer (some ⟨k, 0, none⟩))]) ∧ Joined w' k 18 ∧ DS w w' d pg M most n ps snaps cap D sm F ∧ Below W.heap.size W w' := by
  obtain ⟨h1, h2⟩ := h.ds.at_ p hx
  refine (takes_idle d w.heap.size pg M (F p).1 most n ps snaps cap D p t sm (F p).2 W h.ds.dk hp hh h1 h2 (h.good hG) hw).mono ?_
  rintro e w' ⟨k, rfl, hj, hb⟩
  exact ⟨k, rfl, hj, h.below hb, hb⟩
/-- A session that has kept a ref. -/
def keptS (s : Sn) (i : Nat) (r : Int) : Sn := { s with ps := tookL s.ps i, n := s.n + 1, cap := s.cap + 1, D := s.D.put (.int .i64 (i : Int)) (.lit (.int .i64 r)) }
theorem dkeep (h : DS w W d pg M most n ps snaps cap D sm F) {p t : Int} (hp : (Lit.int .i64 p).wf = true) (hh : hasB ps p t = true) (hx : hasI D p) {r : Int} {i : Nat} (hcap : (F p).2.cap < 1000000) (hr : (Lit.int .i64 r).wf = true) (hi : i ≤ (F p).2.ps.length) (hf : ∀ j, j < i → (plc (F p).2.ps j).f1 = true) (hf2 : i < (F p).2.ps.length → (plc (F p).2.ps i).f1 = false) (hm : (i : Int) ≠ sm) (hl : (F p).2.ps.length ≤ 1000) (ht0 : 0 ≤ turnOf (F p).2.ps i) (ht1 : turnOf (F p).2.ps i ≤ 1000000) (hn0 : -1000000 ≤ (F p).2.n) (hn1 : (F p).2.n ≤ 1000000) :
    Calls Tryd.prog 42 #[.pointer (some ⟨d, 0, none⟩), .agg #[.int .i64 p, .int .i64 t], .int .i64 r] W fun e w' => e = .returned (.tuple #[.agg #[.int .i64 (i : Int), .int .i64 (turnOf (F p).2.ps i)], .nilIface]) ∧ DS w w' d pg M most n ps snaps cap D sm (upF F p ((F p).1, keptS (F p).2 i r)) ∧ Keeps DT W w' := by
  obtain ⟨h1, h2⟩ := h.ds.at_ p hx
  refine (keep_ok d w.heap.size pg M (F p).1 most n ps snaps cap D p t sm (F p).2 r i W h.ds.dk hp hh h1 h2 hcap hr hi hf hf2 hm hl ht0 ht1 hn0 hn1).mono ?_
  rintro e w' ⟨rfl, hs, hd, hbl⟩
  exact ⟨rfl, ⟨h.ds.turnDF hx (s' := keptS (F p).2 i r) hs rfl rfl rfl hd, h.bl.trans hbl, h.lm⟩, keepsS h2 hd⟩
theorem dfind (h : DS w W d pg M most n ps snaps cap D sm F) {p t : Int} (hp : (Lit.int .i64 p).wf = true) (hh : hasB ps p t = true) (hx : hasI D p) {p2 t2 r : Int} (hp2 : (Lit.int .i64 p2).wf = true) (hh2 : hasB (F p).2.ps p2 t2 = true) (hr : (F p).2.D.atKey (.int .i64 p2) (.lit (.int .i64 0)) = .lit (.int .i64 r)) :
    Calls Tryd.prog 47 #[.pointer (some ⟨d, 0, none⟩), .agg #[.int .i64 p, .int .i64 t], .agg #[.int .i64 p2, .int .i64 t2]] W fun e w' => e = .returned (.tuple #[.int .i64 r, .nilIface]) ∧ DS w w' d pg M most n ps snaps cap D sm F ∧ Below W.heap.size W w' := by
  obtain ⟨h1, h2⟩ := h.ds.at_ p hx
  refine (find_ok d w.heap.size pg M (F p).1 most n ps snaps cap D p t sm (F p).2 p2 t2 r W h.ds.dk hp hh h1 h2 hp2 hh2 hr).mono ?_
  rintro e w' ⟨rfl, hb⟩
  exact ⟨rfl, h.below hb, hb⟩
theorem dkept (h : DS w W d pg M most n ps snaps cap D sm F) (val : Int → Int → Int) (hV : ∀ x, hasI D x → ∀ k, hasI (F x).2.D k → (F x).2.D.atKey (.int .i64 k) .nil = .lit (.int .i64 (val x k))) (hs1 : Go.Maps.size D ≤ 1000) (hs2 : ∀ x, hasI D x → Go.Maps.size (F x).2.D ≤ 1000) :
    Calls Tryd.prog 46 #[.pointer (some ⟨d, 0, none⟩)] W fun e w' => ∃ v V, e = .returned v ∧ Kd.R (Kd.int .i64) 3 w' W.heap.size (fun _ => True) v ((V : List Int).mergeSort (fun x y => decide (x ≤ y))) ∧ V.Perm ((Go.intKeys D).flatMap fun x => (Go.intKeys (F x).2.D).map (val x)) ∧ DS w w' d pg M most n ps snaps cap D sm F ∧ Below W.heap.size W w' := by
  refine (kept_ok d w.heap.size pg M most n ps snaps cap D sm F W h.ds val hV hs1 hs2).mono ?_
  rintro e w' ⟨v, V, rfl, h1, h2, hb⟩
  exact ⟨v, V, rfl, h1, h2, h.below hb, hb⟩
theorem dclose (h : DS w W d pg M most n ps snaps cap D sm F) (i : Nat) {t : Int} (hi : i < ps.length) (hl : ps.length ≤ 1000) (hh : hasB ps (i : Int) t = true) (hx : hasI D (i : Int)) (hn0 : -1000000 ≤ n) (hn1 : n ≤ 1000000) (hmax : Go.Maps.size (F (i : Int)).2.D ≤ 1000000) (val : Int → Int) (hval : ∀ k ∈ Go.intKeys (F (i : Int)).2.D, (Lit.int .i64 k).wf = true ∧ (F (i : Int)).2.D.atKey (.int .i64 k) (.lit (.int .i64 0)) = .lit (.int .i64 (val k))) :
    Calls Tryd.prog 43 #[.pointer (some ⟨d, 0, none⟩), .agg #[.int .i64 (i : Int), .int .i64 t]] W fun e w' => ∃ v, e = .returned (.tuple #[v, .nilIface]) ∧ Kd.R (Kd.int .i64) 3 w' W.heap.size (fun _ => True) v (((Go.intKeys (F (i : Int)).2.D).mergeSort (fun x y => decide (x ≤ y))).map val) ∧ DS w w' d pg M most (n - 1) (ps.set i ⟨(plc ps i).f0, false⟩) snaps cap (D.del (.int .i64 (i : Int))) sm F ∧ Keeps DT W w' := by
  obtain ⟨h1, h2⟩ := h.ds.at_ i hx
  refine (close_ok d w.heap.size pg M (F (i : Int)).1 most n ps snaps cap D i t sm (F (i : Int)).2 W h.ds.dk hi hl hh h1 hn0 hn1 h.lm h2 hmax val hval (fun k hk => ⟨(h.ds.far i hx k hk).2.1, (h.ds.far i hx k hk).2.2.1, (h.ds.far i hx k hk).2.2.2⟩)).mono ?_
  rintro e w' ⟨v, rfl, hr, hk, hd, hb⟩
  exact ⟨v, rfl, hr, ⟨h.ds.close hk hd, h.bl.trans hb, h.lm⟩, keepsD h.ds.dk hd⟩
end
end Go.Proofs.YtphaaagcdjpceaaDoor
