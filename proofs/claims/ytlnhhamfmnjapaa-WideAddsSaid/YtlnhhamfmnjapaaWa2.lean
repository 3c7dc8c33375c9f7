import Derived.Test.YtlnhhamfmnjapaaPParsex1
import Derived.Test.YtlnhhamfmnjapaaUUnitRounds
namespace Go.Proofs.Ytlnhhamfmnjapaa
open Go.RowKit Go.Proofs.YtlnhhamfmnjapaaW.PrintWords Go.Proofs.YtlnhhamfmnjapaaW.PrintLast Go.Proofs.YtlnhhamfmnjapaaW.PrintMore
open PParse
set_option linter.unusedVariables false
set_option linter.unusedSimpArgs false
theorem words_len (p : Int) : ∃ r, quoinref4_words.f p = some r ∧ r.length ≤ 5 := by
  unfold quoinref4_words.f
  repeat' split
  all_goals exact ⟨_, rfl, by decide⟩
def OkD (p w q n : Int) : Prop := (1 ≤ p ∧ p ≤ 32) ∧ (-1000 ≤ w ∧ w ≤ 1000) ∧ (q = 0 ∨ q = 1 ∨ q = 2) ∧ (-6400000 ≤ n ∧ n ≤ 6400000)
theorem eq23 (a b c d : Int) (W : World) : (binOp .eql 23 (.agg #[.int .i64 a, .int .i64 b]) (.agg #[.int .i64 c, .int .i64 d])).run Try.prog W = .ok (.bool (a == c && b == d)) W := by
  have h : ∀ k : Nat, (Op.equalIn (k + 2) 23 (.agg #[.int .i64 a, .int .i64 b]) (.agg #[.int .i64 c, .int .i64 d])).run Try.prog W = .ok (a == c && b == d) W := fun k => by
    have p0 : (part 3 #[.int .i64 a, .int .i64 b] 0).run Try.prog W = .ok (.int .i64 a) W := by go_simp
    have p1 : (part 2 #[.int .i64 a, .int .i64 b] 1).run Try.prog W = .ok (.int .i64 b) W := by go_simp
    have q0 : (part 3 #[.int .i64 c, .int .i64 d] 0).run Try.prog W = .ok (.int .i64 c) W := by go_simp
    have q1 : (part 2 #[.int .i64 c, .int .i64 d] 1).run Try.prog W = .ok (.int .i64 d) W := by go_simp
    refine eqA_of Try.underlying23 (by kernel_rfl) ?_
    exact eqf_cons (s := b == d) (r := a == c) (by rfl) p0 q0 (by rw [run_equalIn_int W k 3 .i64 .i64 a c Try.underlying3]) (eqf_last (by rfl) p1 q1 (by rw [run_equalIn_int W k 2 .i64 .i64 b d Try.underlying2]))
  simp only [binOp]
  simp [Op.equal, Op.maxDepth, h 9998]
attribute [local go_sem high] eq23
def MayPost (p w q n : Int) (z : Nat) (W : World) (e : Ending) (W' : World) : Prop := ∃ b, e = .returned (.bool b) ∧ (b = true → OkD p w q n) ∧ Below z W W'
theorem may_ret {p w q n : Int} {z : Nat} {W W' : World} {b : Bool} (h : b = true → OkD p w q n) (hb : Below z W W') : MayPost p w q n z W (.returned (.bool b)) W' := ⟨b, rfl, h, hb⟩
theorem and_eq {a b c d : Int} (h : (a == b && c == d) = true) : a = b ∧ c = d := by simpa using h
set_option maxHeartbeats 8000000 in
set_option maxRecDepth 100000 in
theorem may_calls (p w q n : Int) (W : World) : Calls Try.prog 69 #[.agg #[.int .i64 p, .int .i64 w, .int .i64 q, .int .i64 n]] W fun e W' => MayPost p w q n W.heap.size W e W' := by
  obtain ⟨l, hl, hl5⟩ := words_len p
  have HL := Lib.hid hl5
  clear hl5
  have B1 := below_alloc (Below.refl W.heap.size W) (.cells #[.int .i64 p, .int .i64 w, .int .i64 q, .int .i64 n] 78)
  have HD := Lib.hid (heap_alloc_new W (.cells #[.int .i64 p, .int .i64 w, .int .i64 q, .int .i64 n] 78))
  have HB := Lib.hid B1
  clear B1
  go_enter Try.func69, Try.ntmps69
  go_upto_region 1 with (fail)
  generalize W.alloc (.cells #[.int .i64 p, .int .i64 w, .int .i64 q, .int .i64 n] 78) = w1 at *
  have d0 := (blk_cell HD.out 0).trans (show _ = some (Value.int .i64 p) from rfl)
  go_upto_region 4 with (go_at_call 65; (with_reducible refine (quoinref4_words.calls p l _ hl).mono ?_); rintro e w2 ⟨v, rfl, hr, hb⟩; obtain ⟨A, c, rfl⟩ := Kd.R_slice hr; clear hr; have HD2 := Lib.hid (blk_below HD.out hb); have HB2 := Lib.hid (below_step HB.out hb); clear hb; have d0 := (blk_cell HD2.out 0).trans (show _ = some (Value.int .i64 p) from rfl))
  have B3 := below_alloc (Below.refl w2.heap.size w2) (.cells #[.int .i64 0, .int .i64 0] 23)
  have HD3 := Lib.hid (blk_below HD2.out B3)
  have HZ3 := Lib.hid (heap_alloc_new w2 (.cells #[.int .i64 0, .int .i64 0] 23))
  have HB3 := Lib.hid (below_step HB2.out B3)
  clear B3 HD2 HB2 d0
  generalize w2.alloc (.cells #[.int .i64 0, .int .i64 0] 23) = w3 at *
  generalize w2.heap.size = z at *
  have d0 := (blk_cell HD3.out 0).trans (show _ = some (Value.int .i64 p) from rfl)
  have d1 := (blk_cell HD3.out 1).trans (show _ = some (Value.int .i64 w) from rfl)
  have d2 := (blk_cell HD3.out 2).trans (show _ = some (Value.int .i64 q) from rfl)
  have d3 := (blk_cell HD3.out 3).trans (show _ = some (Value.int .i64 n) from rfl)
  have z0 := (blk_cell HZ3.out 0).trans (show _ = some (Value.int .i64 0) from rfl)
  have z1 := (blk_cell HZ3.out 1).trans (show _ = some (Value.int .i64 0) from rfl)
  clear HD3 HZ3 HD HB
  go_cut [6] (fun v6 wc => ∃ x6, v6 = .bool x6 ∧ Hid (x6 = true → w = 0 ∧ q = 1 ∧ -6400000 ≤ n ∧ n ≤ 6400000) ∧ w3 = wc)
  case first => as_aux_lemma =>
    cases e1 : (w == 0)
    · go_wp2
      go_meet
      case rel => exact ⟨_, rfl, fun h => absurd h (by decide), rfl⟩
    · cases e2 : (q == 1)
      · go_wp2
        go_meet
        case rel => exact ⟨_, rfl, fun h => absurd h (by decide), rfl⟩
      · cases e3 : decide (-6400000 ≤ n)
        · go_wp2
          go_meet
          case rel => exact ⟨_, rfl, fun h => absurd h (by decide), rfl⟩
        · go_wp2
          go_meet
          case rel => exact ⟨_, rfl, fun h => ⟨eq_of_beq e1, eq_of_beq e2, of_decide_eq_true e3, of_decide_eq_true h⟩, rfl⟩
  case rest => as_aux_lemma =>
    obtain ⟨x6, rfl, H6, rfl⟩ := hcut
    go_upto_region 5 with (fail)
    go_cut [7] (fun v7 wc => ∃ x7, v7 = .bool x7 ∧ Hid (x7 = true → w = 0 ∧ q = 2 ∧ -999999 ≤ n ∧ n ≤ 999999) ∧ w3 = wc)
    case first => as_aux_lemma =>
      cases e1 : (w == 0)
      · go_wp2
        go_meet
        case rel => exact ⟨_, rfl, fun h => absurd h (by decide), rfl⟩
      · cases e2 : (q == 2)
        · go_wp2
          go_meet
          case rel => exact ⟨_, rfl, fun h => absurd h (by decide), rfl⟩
        · cases e3 : decide (-999999 ≤ n)
          · go_wp2
            go_meet
            case rel => exact ⟨_, rfl, fun h => absurd h (by decide), rfl⟩
          · go_wp2
            go_meet
            case rel => exact ⟨_, rfl, fun h => ⟨eq_of_beq e1, eq_of_beq e2, of_decide_eq_true e3, of_decide_eq_true h⟩, rfl⟩
    case rest => as_aux_lemma =>
      obtain ⟨x7, rfl, H7, rfl⟩ := hcut
      go_upto_region 6 with (fail)
      go_cut [8] (fun v8 wc => ∃ x8, v8 = .bool x8 ∧ Hid (x8 = true → w = 0 ∧ q = 0 ∧ n = 0) ∧ w3 = wc)
      case first => as_aux_lemma =>
        cases e1 : (w == 0)
        · go_wp2
          go_meet
          case rel => exact ⟨_, rfl, fun h => absurd h (by decide), rfl⟩
        · go_wp2
          go_meet
          case rel => exact ⟨_, rfl, fun h => ⟨eq_of_beq e1, by have := and_eq h; exact this.1, by have := and_eq h; exact this.2⟩, rfl⟩
      case rest => as_aux_lemma =>
        obtain ⟨x8, rfl, H8, rfl⟩ := hcut
        go_upto_region 7 with (fail)
        go_cut [66] (fun v66 wc => ∃ x66, v66 = .bool x66 ∧ Hid (x66 = false → 1 ≤ p ∧ p ≤ 32) ∧ w3 = wc)
        case first => as_aux_lemma =>
          cases e1 : decide (p < 1)
          · go_wp2
            go_meet
            case rel => exact ⟨_, rfl, fun h => ⟨by have := of_decide_eq_false e1; omega, by have := of_decide_eq_false h; omega⟩, rfl⟩
          · go_wp2
            go_meet
            case rel => exact ⟨_, rfl, fun h => absurd h (by decide), rfl⟩
        case rest => as_aux_lemma =>
          obtain ⟨x66, rfl, H66, rfl⟩ := hcut
          cases x66
          case true => as_aux_lemma =>
            go_wp2
            go_ret
            exact may_ret (fun h => absurd h (by decide)) (by first | exact HB3.out | exact pw_below_drewN HB3.out _)
          case false => as_aux_lemma =>
            have HP := Lib.hid (H66.out rfl)
            clear H66
            go_upto_region 9 with (fail)
            by_cases c0 : l.length = 0
            · have c0b0 : decide (0 < (l.length : Int)) = false := decide_eq_false (by omega)
              have c0b1 : decide (0 < l.length) = false := decide_eq_false (by omega)
              go_upto_region 11 with (fail)
              go_cut [93] (fun v93 wc => ∃ x, v93 = .bool x ∧ w3 = wc)
              case first => as_aux_lemma =>
                cases e1 : (p == 23)
                · go_wp2
                  go_meet
                  case rel => exact ⟨_, rfl, rfl⟩
                · go_wp2
                  go_meet
                  case rel => exact ⟨_, rfl, rfl⟩
              case rest => as_aux_lemma =>
                obtain ⟨x93, rfl, rfl⟩ := hcut
                cases x93
                case true => as_aux_lemma =>
                  go_upto_region 12 with (fail)
                  cases e1 : decide (0 ≤ w)
                  · go_wp2
                    go_ret
                    exact may_ret (fun h => absurd h (by decide)) (by first | exact HB3.out | exact pw_below_drewN HB3.out _)
                  · cases e2 : decide (w ≤ 100)
                    · go_wp2
                      go_ret
                      exact may_ret (fun h => absurd h (by decide)) (by first | exact HB3.out | exact pw_below_drewN HB3.out _)
                    · go_wp2
                      go_ret
                      exact may_ret (fun h => by have := and_eq h; have := HP.out; have := of_decide_eq_true e1; have := of_decide_eq_true e2; unfold OkD; omega) (by first | exact HB3.out | exact pw_below_drewN HB3.out _)
                case false => as_aux_lemma =>
                  go_upto_region 13 with (fail)
                  go_cut [114] (fun v114 wc => ∃ x, v114 = .bool x ∧ w3 = wc)
                  case first => as_aux_lemma =>
                    go_wp2
                    go_meet
                    case rel => exact ⟨_, rfl, rfl⟩
                  case rest => as_aux_lemma =>
                    obtain ⟨x114, rfl, rfl⟩ := hcut
                    cases x114
                    case true => as_aux_lemma =>
                      go_upto_region 14 with (fail)
                      cases e1 : decide (-1000 ≤ w)
                      · go_wp2
                        go_ret
                        exact may_ret (fun h => absurd h (by decide)) (by first | exact HB3.out | exact pw_below_drewN HB3.out _)
                      · cases e2 : decide (w ≤ 1000)
                        · go_wp2
                          go_ret
                          exact may_ret (fun h => absurd h (by decide)) (by first | exact HB3.out | exact pw_below_drewN HB3.out _)
                        · go_wp2
                          go_ret
                          exact may_ret (fun h => by have := and_eq h; have := HP.out; have := of_decide_eq_true e1; have := of_decide_eq_true e2; unfold OkD; omega) (by first | exact HB3.out | exact pw_below_drewN HB3.out _)
                    case false => as_aux_lemma =>
                      go_upto_region 15 with (fail)
                      go_cut [131] (fun v131 wc => ∃ x, v131 = .bool x ∧ w3 = wc)
                      case first => as_aux_lemma =>
                        cases e1 : decide (12 ≤ p)
                        · go_wp2
                          go_meet
                          case rel => exact ⟨_, rfl, rfl⟩
                        · cases e2 : decide (p ≤ 19)
                          · go_wp2
                            go_meet
                            case rel => exact ⟨_, rfl, rfl⟩
                          · go_wp2
                            go_meet
                            case rel => exact ⟨_, rfl, rfl⟩
                      case rest => as_aux_lemma =>
                        obtain ⟨x131, rfl, rfl⟩ := hcut
                        cases x131
                        case true => as_aux_lemma =>
                          go_upto_region 16 with (fail)
                          cases x6
                          · go_wp2
                            go_ret
                            exact may_ret (fun h => absurd h (by decide)) (by first | exact HB3.out | exact pw_below_drewN HB3.out _)
                          · go_wp2
                            go_ret
                            exact may_ret (fun h => by have := H6.out (by trivial); have := HP.out; unfold OkD; omega) (by first | exact HB3.out | exact pw_below_drewN HB3.out _)
                        case false => as_aux_lemma =>
                          go_upto_region 17 with (fail)
                          go_cut [149] (fun v149 wc => ∃ x, v149 = .bool x ∧ w3 = wc)
                          case first => as_aux_lemma =>
                            cases e1 : decide (8 ≤ p)
                            · go_wp2
                              go_meet
                              case rel => exact ⟨_, rfl, rfl⟩
                            · go_wp2
                              go_meet
                              case rel => exact ⟨_, rfl, rfl⟩
                          case rest => as_aux_lemma =>
                            obtain ⟨x149, rfl, rfl⟩ := hcut
                            cases x149
                            case true => as_aux_lemma =>
                              go_upto_region 18 with (fail)
                              cases x6
                              · cases x7
                                · go_wp2
                                  go_ret
                                  exact may_ret (fun h => by have := H8.out h; have := HP.out; unfold OkD; omega) (by first | exact HB3.out | exact pw_below_drewN HB3.out _)
                                · go_wp2
                                  go_ret
                                  exact may_ret (fun h => by have := H7.out (by trivial); have := HP.out; unfold OkD; omega) (by first | exact HB3.out | exact pw_below_drewN HB3.out _)
                              · go_wp2
                                go_ret
                                exact may_ret (fun h => by have := H6.out (by trivial); have := HP.out; unfold OkD; omega) (by first | exact HB3.out | exact pw_below_drewN HB3.out _)
                            case false => as_aux_lemma =>
                              go_upto_region 19 with (fail)
                              go_cut [163] (fun v163 wc => ∃ x, v163 = .bool x ∧ w3 = wc)
                              case first => as_aux_lemma =>
                                cases e1 : (p == 4)
                                · go_wp2
                                  go_meet
                                  case rel => exact ⟨_, rfl, rfl⟩
                                · go_wp2
                                  go_meet
                                  case rel => exact ⟨_, rfl, rfl⟩
                              case rest => as_aux_lemma =>
                                obtain ⟨x163, rfl, rfl⟩ := hcut
                                cases x163
                                case true => as_aux_lemma =>
                                  go_upto_region 20 with (fail)
                                  cases x6
                                  · cases x7
                                    · go_wp2
                                      go_ret
                                      exact may_ret (fun h => absurd h (by decide)) (by first | exact HB3.out | exact pw_below_drewN HB3.out _)
                                    · go_wp2
                                      go_ret
                                      exact may_ret (fun h => by have := H7.out (by trivial); have := HP.out; unfold OkD; omega) (by first | exact HB3.out | exact pw_below_drewN HB3.out _)
                                  · go_wp2
                                    go_ret
                                    exact may_ret (fun h => by have := H6.out (by trivial); have := HP.out; unfold OkD; omega) (by first | exact HB3.out | exact pw_below_drewN HB3.out _)
                                case false => as_aux_lemma =>
                                  go_upto_region 21 with (fail)
                                  cases x6
                                  · cases x7
                                    · go_wp2
                                      go_ret
                                      exact may_ret (fun h => by have := H8.out h; have := HP.out; unfold OkD; omega) (by first | exact HB3.out | exact pw_below_drewN HB3.out _)
                                    · cases e3 : decide (0 ≤ n)
                                      · go_wp2
                                        go_ret
                                        exact may_ret (fun h => by have := H8.out h; have := HP.out; unfold OkD; omega) (by first | exact HB3.out | exact pw_below_drewN HB3.out _)
                                      · go_wp2
                                        go_ret
                                        exact may_ret (fun h => by have := H7.out (by trivial); have := HP.out; unfold OkD; omega) (by first | exact HB3.out | exact pw_below_drewN HB3.out _)
                                  · cases e3 : decide (0 ≤ n)
                                    · go_wp2
                                      go_ret
                                      exact may_ret (fun h => by have := H8.out h; have := HP.out; unfold OkD; omega) (by first | exact HB3.out | exact pw_below_drewN HB3.out _)
                                    · go_wp2
                                      go_ret
                                      exact may_ret (fun h => by have := H6.out (by trivial); have := HP.out; unfold OkD; omega) (by first | exact HB3.out | exact pw_below_drewN HB3.out _)
            · have c0b0 : decide (0 < (l.length : Int)) = true := decide_eq_true (by omega)
              have c0b1 : decide (0 < l.length) = true := decide_eq_true (by omega)
              go_upto_region 10 with (fail)
              cases e1 : decide (0 ≤ w)
              · go_wp2
                go_ret
                exact may_ret (fun h => absurd h (by decide)) (by first | exact HB3.out | exact pw_below_drewN HB3.out _)
              · cases e2 : decide (w < (l.length : Int))
                · go_wp2
                  go_ret
                  exact may_ret (fun h => absurd h (by decide)) (by first | exact HB3.out | exact pw_below_drewN HB3.out _)
                · go_wp2
                  go_ret
                  exact may_ret (fun h => by have := and_eq h; have := HP.out; have := HL.out; have := of_decide_eq_true e1; have := of_decide_eq_true e2; unfold OkD; omega) (by first | exact HB3.out | exact pw_below_drewN HB3.out _)
end Go.Proofs.Ytlnhhamfmnjapaa
