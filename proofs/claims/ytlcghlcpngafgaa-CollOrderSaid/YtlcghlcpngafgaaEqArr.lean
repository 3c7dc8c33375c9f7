/- '==' of two arrays of two whole numbers. -/
import Derived.Test.YtlcghlcpngafgaaWMore
import Derived.Test.YtlcghlcpngafgaaProg
namespace Go.Proofs.Ytlcghlcpngafgaa
open Go.RowKit Go.Proofs.YtlcghlcpngafgaaW.PrintWords

theorem eqArr25 (d : Nat) (w : World) (x0 y0 : Int) (x1 y1 : Int) :
    (Op.equalIn (d + 2) 25 (.agg #[.int .i64 x0, .int .i64 x1]) (.agg #[.int .i64 y0, .int .i64 y1])).run Try.prog w = .ok (x0 == y0 && (x1 == y1)) w := by
  have p0 : ∀ a b : Int, (part 3 #[.int .i64 a, .int .i64 b] 0).run Try.prog w = .ok (.int .i64 a) w := fun a b => by go_simp
  have p1 : ∀ a b : Int, (part 3 #[.int .i64 a, .int .i64 b] 1).run Try.prog w = .ok (.int .i64 b) w := fun a b => by go_simp
  have e : ∀ a b : Int, (Op.equalIn (d + 1) 3 (.int .i64 a) (.int .i64 b)).run Try.prog w = .ok (a == b) w := fun a b => run_equalIn_int w d 3 .i64 .i64 a b Try.underlying3
  rw [show d + 2 = (d + 1) + 1 from rfl, Op.equalIn]
  simp only [Sem.run_bind, run_underlying Try.underlying25, Result.andThen_ok, Try.sizeOf3, Std.Legacy.Range.forIn_eq_forIn_range', Std.Legacy.Range.size]
  simp only [List.range', List.forIn_cons, List.forIn_nil, Sem.run_bind, Nat.zero_mul, Nat.zero_add, Nat.one_mul, p0, e, Result.andThen_ok]
  cases h0 : (x0 == y0) <;> cases h1 : (x1 == y1) <;> simp [Sem.run_bind, p1, e, h1]
end Go.Proofs.Ytlcghlcpngafgaa
