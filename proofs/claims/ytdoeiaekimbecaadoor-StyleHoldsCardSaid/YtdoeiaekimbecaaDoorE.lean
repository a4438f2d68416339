/- style: when two colors, two pens are equal. -/
import Derived.Test.YtdoeiaekimbecaaDoorMQ
import Derived.Outline
set_option linter.unusedSimpArgs false
set_option linter.unusedVariables false
set_option linter.unnecessarySimpa false
namespace Go.Proofs.YtdoeiaekimbecaaDoor
open Go.RowKit

theorem part_c0 (w : World) (a b c d e : Value) : (part 22 #[a, b, c, d, e] 0).run Tryd.prog w = .ok a w := rfl
theorem part_c1 (w : World) (a b c d e : Value) : (part 5 #[a, b, c, d, e] 1).run Tryd.prog w = .ok b w := rfl
theorem part_c2 (w : World) (a b c d e : Value) : (part 5 #[a, b, c, d, e] 2).run Tryd.prog w = .ok c w := rfl
theorem part_c3 (w : World) (a b c d e : Value) : (part 5 #[a, b, c, d, e] 3).run Tryd.prog w = .ok d w := rfl
theorem part_c4 (w : World) (a b c d e : Value) : (part 5 #[a, b, c, d, e] 4).run Tryd.prog w = .ok e w := rfl
set_option maxHeartbeats 1000000 in
theorem eq_coN (n : Nat) (w : World) (k i r g b k' i' r' g' b' : Int) : (Op.equalIn (n + 1 + 1) 24 (.agg #[.int .i64 k, .int .u8 i, .int .u8 r, .int .u8 g, .int .u8 b]) (.agg #[.int .i64 k', .int .u8 i', .int .u8 r', .int .u8 g', .int .u8 b'])).run Tryd.prog w = .ok ((k == k') && (i == i') && (r == r') && (g == g') && (b == b')) w := by
  have hst : Tryd.prog.stoodInHeld 24 = false := by kernel_rfl
  have e1 : ∀ (w : World) (a b : Int), (Op.equalIn (n + 1) 22 (.int .i64 a) (.int .i64 b)).run Tryd.prog w = .ok (a == b) w := fun w a b => run_equalIn_int w n 22 .i64 .i64 a b Tryd.underlying22
  have e2 : ∀ (w : World) (a b : Int), (Op.equalIn (n + 1) 5 (.int .u8 a) (.int .u8 b)).run Tryd.prog w = .ok (a == b) w := fun w a b => run_equalIn_int w n 5 .u8 .u8 a b Tryd.underlying5
  conv => lhs; unfold Op.equalIn
  simp only [Sem.run_bind, run_underlying Tryd.underlying24, Result.andThen_ok]
  simp [hst, e1, e2, part_c0, part_c1, part_c2, part_c3, part_c4]
  by_cases h1 : k = k'
  · by_cases h2 : i = i'
    · by_cases h3 : r = r'
      · by_cases h4 : g = g'
        · by_cases h5 : b = b' <;> simp [h1, h2, h3, h4, h5]
        · simp [h1, h2, h3, h4]
      · simp [h1, h2, h3]
    · simp [h1, h2]
  · simp [h1]
theorem eq_co (w : World) (k i r g b k' i' r' g' b' : Int) : (Op.equalIn 10000 24 (.agg #[.int .i64 k, .int .u8 i, .int .u8 r, .int .u8 g, .int .u8 b]) (.agg #[.int .i64 k', .int .u8 i', .int .u8 r', .int .u8 g', .int .u8 b'])).run Tryd.prog w = .ok ((k == k') && (i == i') && (r == r') && (g == g') && (b == b')) w := eq_coN 9998 w k i r g b k' i' r' g' b'

/-! The same for pens: two colors and the flags. -/
theorem part_p0 (w : World) (a b c d e f g h i j k : Value) : (part 24 #[a, b, c, d, e, f, g, h, i, j, k] 0).run Tryd.prog w = .ok (.agg #[a, b, c, d, e]) w := rfl
theorem part_p1 (w : World) (a b c d e f g h i j k : Value) : (part 24 #[a, b, c, d, e, f, g, h, i, j, k] 5).run Tryd.prog w = .ok (.agg #[f, g, h, i, j]) w := rfl
theorem part_p2 (w : World) (a b c d e f g h i j k : Value) : (part 25 #[a, b, c, d, e, f, g, h, i, j, k] 10).run Tryd.prog w = .ok k w := rfl
set_option maxHeartbeats 1000000 in
theorem eq_pen (w : World) (k i r g b l j s h c f k' i' r' g' b' l' j' s' h' c' f' : Int) :
    (Op.equalIn 10000 27 (.agg #[.int .i64 k, .int .u8 i, .int .u8 r, .int .u8 g, .int .u8 b, .int .i64 l, .int .u8 j, .int .u8 s, .int .u8 h, .int .u8 c, .int .u8 f]) (.agg #[.int .i64 k', .int .u8 i', .int .u8 r', .int .u8 g', .int .u8 b', .int .i64 l', .int .u8 j', .int .u8 s', .int .u8 h', .int .u8 c', .int .u8 f'])).run Tryd.prog w =
      .ok (((k == k') && (i == i') && (r == r') && (g == g') && (b == b')) && ((l == l') && (j == j') && (s == s') && (h == h') && (c == c')) && (f == f')) w := by
  show (Op.equalIn (9997 + 1 + 1 + 1) 27 _ _).run Tryd.prog w = _
  have hst : Tryd.prog.stoodInHeld 27 = false := by kernel_rfl
  have e1 := fun w k i r g b k' i' r' g' b' => eq_coN 9997 w k i r g b k' i' r' g' b'
  have e2 : ∀ (w : World) (a b : Int), (Op.equalIn (9997 + 1 + 1) 25 (.int .u8 a) (.int .u8 b)).run Tryd.prog w = .ok (a == b) w := fun w a b => run_equalIn_int w 9998 25 .u8 .u8 a b Tryd.underlying25
  conv => lhs; unfold Op.equalIn
  simp only [Sem.run_bind, run_underlying Tryd.underlying27, Result.andThen_ok]
  generalize hX : ((k == k') && (i == i') && (r == r') && (g == g') && (b == b')) = X
  generalize hY : ((l == l') && (j == j') && (s == s') && (h == h') && (c == c')) = Y
  simp [hst, e1, e2, part_p0, part_p1, part_p2, hX, hY]
  cases X <;> cases Y <;> by_cases h5 : f = f' <;> simp [h5]
@[go_sem high] theorem eql_co (w : World) (k i r g b k' i' r' g' b' : Int) : (binOp .eql 24 (.agg #[.int .i64 k, .int .u8 i, .int .u8 r, .int .u8 g, .int .u8 b]) (.agg #[.int .i64 k', .int .u8 i', .int .u8 r', .int .u8 g', .int .u8 b'])).run Tryd.prog w = .ok (.bool (((k == k') && (i == i') && (r == r') && (g == g') && (b == b')))) w := by rw [run_eql_struct, eq_co]; rfl
@[go_sem high] theorem eql_pen (w : World) (k i r g b l j s h c f k' i' r' g' b' l' j' s' h' c' f' : Int) : (binOp .eql 27 (.agg #[.int .i64 k, .int .u8 i, .int .u8 r, .int .u8 g, .int .u8 b, .int .i64 l, .int .u8 j, .int .u8 s, .int .u8 h, .int .u8 c, .int .u8 f]) (.agg #[.int .i64 k', .int .u8 i', .int .u8 r', .int .u8 g', .int .u8 b', .int .i64 l', .int .u8 j', .int .u8 s', .int .u8 h', .int .u8 c', .int .u8 f'])).run Tryd.prog w = .ok (.bool ((((k == k') && (i == i') && (r == r') && (g == g') && (b == b')) && ((l == l') && (j == j') && (s == s') && (h == h') && (c == c')) && (f == f')))) w := by rw [run_eql_struct, eq_pen]; rfl
@[go_sem high] theorem neq_co (w : World) (k i r g b k' i' r' g' b' : Int) : (binOp .neq 24 (.agg #[.int .i64 k, .int .u8 i, .int .u8 r, .int .u8 g, .int .u8 b]) (.agg #[.int .i64 k', .int .u8 i', .int .u8 r', .int .u8 g', .int .u8 b'])).run Tryd.prog w = .ok (.bool (!((k == k') && (i == i') && (r == r') && (g == g') && (b == b')))) w := by rw [run_neq_struct, eq_co]; rfl
@[go_sem high] theorem neq_pen (w : World) (k i r g b l j s h c f k' i' r' g' b' l' j' s' h' c' f' : Int) : (binOp .neq 27 (.agg #[.int .i64 k, .int .u8 i, .int .u8 r, .int .u8 g, .int .u8 b, .int .i64 l, .int .u8 j, .int .u8 s, .int .u8 h, .int .u8 c, .int .u8 f]) (.agg #[.int .i64 k', .int .u8 i', .int .u8 r', .int .u8 g', .int .u8 b', .int .i64 l', .int .u8 j', .int .u8 s', .int .u8 h', .int .u8 c', .int .u8 f'])).run Tryd.prog w = .ok (.bool (!(((k == k') && (i == i') && (r == r') && (g == g') && (b == b')) && ((l == l') && (j == j') && (s == s') && (h == h') && (c == c')) && (f == f')))) w := by rw [run_neq_struct, eq_pen]; rfl

end Go.Proofs.YtdoeiaekimbecaaDoor
