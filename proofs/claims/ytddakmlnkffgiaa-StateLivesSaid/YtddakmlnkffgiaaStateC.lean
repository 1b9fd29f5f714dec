/- Layer 11: the reference's table. -/
import Derived.Test.YtddakmlnkffgiaaStateB
namespace Go.Proofs.Ytddakmlnkffgiaa
open Go.RowKit

/-- a row of the table, as a value -/
def rowA : Int → Array Value
  | 0 => #[.int .i64 1, .int .i64 9, .int .i64 9, .int .i64 9, .int .i64 9, .int .i64 9, .int .i64 9, .int .i64 9, .int .i64 9, .int .i64 9, .int .i64 7, .int .i64 9]
  | 1 => #[.int .i64 9, .int .i64 0, .int .i64 2, .int .i64 9, .int .i64 4, .int .i64 5, .int .i64 6, .int .i64 3, .int .i64 9, .int .i64 9, .int .i64 7, .int .i64 9]
  | 2 => #[.int .i64 9, .int .i64 0, .int .i64 9, .int .i64 1, .int .i64 9, .int .i64 9, .int .i64 9, .int .i64 3, .int .i64 9, .int .i64 9, .int .i64 7, .int .i64 9]
  | 3 => #[.int .i64 9, .int .i64 0, .int .i64 9, .int .i64 9, .int .i64 9, .int .i64 9, .int .i64 9, .int .i64 9, .int .i64 1, .int .i64 9, .int .i64 7, .int .i64 9]
  | 4 => #[.int .i64 9, .int .i64 0, .int .i64 9, .int .i64 9, .int .i64 4, .int .i64 5, .int .i64 6, .int .i64 3, .int .i64 9, .int .i64 1, .int .i64 7, .int .i64 9]
  | 5 => #[.int .i64 9, .int .i64 0, .int .i64 9, .int .i64 9, .int .i64 4, .int .i64 5, .int .i64 6, .int .i64 3, .int .i64 9, .int .i64 1, .int .i64 7, .int .i64 9]
  | 6 => #[.int .i64 9, .int .i64 0, .int .i64 9, .int .i64 9, .int .i64 4, .int .i64 5, .int .i64 6, .int .i64 3, .int .i64 9, .int .i64 1, .int .i64 7, .int .i64 9]
  | _ => #[.int .i64 9, .int .i64 0, .int .i64 9, .int .i64 9, .int .i64 9, .int .i64 9, .int .i64 9, .int .i64 9, .int .i64 9, .int .i64 9, .int .i64 7, .int .i64 1]

set_option maxRecDepth 100000 in
theorem index_table_0 (w : World) : (Instr.index 85 (.agg ((((((((((((((((((((((((((((((((((((((((((((((((((((((((((((((((((((((((((((((((((((((((((((((((Try.zeroCells85.setIfInBounds 0 (.int .i64 1)).setIfInBounds 1 (.int .i64 9)).setIfInBounds 2 (.int .i64 9)).setIfInBounds 3 (.int .i64 9)).setIfInBounds 4 (.int .i64 9)).setIfInBounds 5 (.int .i64 9)).setIfInBounds 6 (.int .i64 9)).setIfInBounds 7 (.int .i64 9)).setIfInBounds 8 (.int .i64 9)).setIfInBounds 9 (.int .i64 9)).setIfInBounds 10 (.int .i64 7)).setIfInBounds 11 (.int .i64 9)).setIfInBounds 12 (.int .i64 9)).setIfInBounds 13 (.int .i64 0)).setIfInBounds 14 (.int .i64 2)).setIfInBounds 15 (.int .i64 9)).setIfInBounds 16 (.int .i64 4)).setIfInBounds 17 (.int .i64 5)).setIfInBounds 18 (.int .i64 6)).setIfInBounds 19 (.int .i64 3)).setIfInBounds 20 (.int .i64 9)).setIfInBounds 21 (.int .i64 9)).setIfInBounds 22 (.int .i64 7)).setIfInBounds 23 (.int .i64 9)).setIfInBounds 24 (.int .i64 9)).setIfInBounds 25 (.int .i64 0)).setIfInBounds 26 (.int .i64 9)).setIfInBounds 27 (.int .i64 1)).setIfInBounds 28 (.int .i64 9)).setIfInBounds 29 (.int .i64 9)).setIfInBounds 30 (.int .i64 9)).setIfInBounds 31 (.int .i64 3)).setIfInBounds 32 (.int .i64 9)).setIfInBounds 33 (.int .i64 9)).setIfInBounds 34 (.int .i64 7)).setIfInBounds 35 (.int .i64 9)).setIfInBounds 36 (.int .i64 9)).setIfInBounds 37 (.int .i64 0)).setIfInBounds 38 (.int .i64 9)).setIfInBounds 39 (.int .i64 9)).setIfInBounds 40 (.int .i64 9)).setIfInBounds 41 (.int .i64 9)).setIfInBounds 42 (.int .i64 9)).setIfInBounds 43 (.int .i64 9)).setIfInBounds 44 (.int .i64 1)).setIfInBounds 45 (.int .i64 9)).setIfInBounds 46 (.int .i64 7)).setIfInBounds 47 (.int .i64 9)).setIfInBounds 48 (.int .i64 9)).setIfInBounds 49 (.int .i64 0)).setIfInBounds 50 (.int .i64 9)).setIfInBounds 51 (.int .i64 9)).setIfInBounds 52 (.int .i64 4)).setIfInBounds 53 (.int .i64 5)).setIfInBounds 54 (.int .i64 6)).setIfInBounds 55 (.int .i64 3)).setIfInBounds 56 (.int .i64 9)).setIfInBounds 57 (.int .i64 1)).setIfInBounds 58 (.int .i64 7)).setIfInBounds 59 (.int .i64 9)).setIfInBounds 60 (.int .i64 9)).setIfInBounds 61 (.int .i64 0)).setIfInBounds 62 (.int .i64 9)).setIfInBounds 63 (.int .i64 9)).setIfInBounds 64 (.int .i64 4)).setIfInBounds 65 (.int .i64 5)).setIfInBounds 66 (.int .i64 6)).setIfInBounds 67 (.int .i64 3)).setIfInBounds 68 (.int .i64 9)).setIfInBounds 69 (.int .i64 1)).setIfInBounds 70 (.int .i64 7)).setIfInBounds 71 (.int .i64 9)).setIfInBounds 72 (.int .i64 9)).setIfInBounds 73 (.int .i64 0)).setIfInBounds 74 (.int .i64 9)).setIfInBounds 75 (.int .i64 9)).setIfInBounds 76 (.int .i64 4)).setIfInBounds 77 (.int .i64 5)).setIfInBounds 78 (.int .i64 6)).setIfInBounds 79 (.int .i64 3)).setIfInBounds 80 (.int .i64 9)).setIfInBounds 81 (.int .i64 1)).setIfInBounds 82 (.int .i64 7)).setIfInBounds 83 (.int .i64 9)).setIfInBounds 84 (.int .i64 9)).setIfInBounds 85 (.int .i64 0)).setIfInBounds 86 (.int .i64 9)).setIfInBounds 87 (.int .i64 9)).setIfInBounds 88 (.int .i64 9)).setIfInBounds 89 (.int .i64 9)).setIfInBounds 90 (.int .i64 9)).setIfInBounds 91 (.int .i64 9)).setIfInBounds 92 (.int .i64 9)).setIfInBounds 93 (.int .i64 9)).setIfInBounds 94 (.int .i64 7)).setIfInBounds 95 (.int .i64 1))) (.int .i64 0)).run Try.prog w = .ok (.agg (rowA 0)) w := by kernel_rfl
set_option maxRecDepth 100000 in
theorem index_table_1 (w : World) : (Instr.index 85 (.agg ((((((((((((((((((((((((((((((((((((((((((((((((((((((((((((((((((((((((((((((((((((((((((((((((Try.zeroCells85.setIfInBounds 0 (.int .i64 1)).setIfInBounds 1 (.int .i64 9)).setIfInBounds 2 (.int .i64 9)).setIfInBounds 3 (.int .i64 9)).setIfInBounds 4 (.int .i64 9)).setIfInBounds 5 (.int .i64 9)).setIfInBounds 6 (.int .i64 9)).setIfInBounds 7 (.int .i64 9)).setIfInBounds 8 (.int .i64 9)).setIfInBounds 9 (.int .i64 9)).setIfInBounds 10 (.int .i64 7)).setIfInBounds 11 (.int .i64 9)).setIfInBounds 12 (.int .i64 9)).setIfInBounds 13 (.int .i64 0)).setIfInBounds 14 (.int .i64 2)).setIfInBounds 15 (.int .i64 9)).setIfInBounds 16 (.int .i64 4)).setIfInBounds 17 (.int .i64 5)).setIfInBounds 18 (.int .i64 6)).setIfInBounds 19 (.int .i64 3)).setIfInBounds 20 (.int .i64 9)).setIfInBounds 21 (.int .i64 9)).setIfInBounds 22 (.int .i64 7)).setIfInBounds 23 (.int .i64 9)).setIfInBounds 24 (.int .i64 9)).setIfInBounds 25 (.int .i64 0)).setIfInBounds 26 (.int .i64 9)).setIfInBounds 27 (.int .i64 1)).setIfInBounds 28 (.int .i64 9)).setIfInBounds 29 (.int .i64 9)).setIfInBounds 30 (.int .i64 9)).setIfInBounds 31 (.int .i64 3)).setIfInBounds 32 (.int .i64 9)).setIfInBounds 33 (.int .i64 9)).setIfInBounds 34 (.int .i64 7)).setIfInBounds 35 (.int .i64 9)).setIfInBounds 36 (.int .i64 9)).setIfInBounds 37 (.int .i64 0)).setIfInBounds 38 (.int .i64 9)).setIfInBounds 39 (.int .i64 9)).setIfInBounds 40 (.int .i64 9)).setIfInBounds 41 (.int .i64 9)).setIfInBounds 42 (.int .i64 9)).setIfInBounds 43 (.int .i64 9)).setIfInBounds 44 (.int .i64 1)).setIfInBounds 45 (.int .i64 9)).setIfInBounds 46 (.int .i64 7)).setIfInBounds 47 (.int .i64 9)).setIfInBounds 48 (.int .i64 9)).setIfInBounds 49 (.int .i64 0)).setIfInBounds 50 (.int .i64 9)).setIfInBounds 51 (.int .i64 9)).setIfInBounds 52 (.int .i64 4)).setIfInBounds 53 (.int .i64 5)).setIfInBounds 54 (.int .i64 6)).setIfInBounds 55 (.int .i64 3)).setIfInBounds 56 (.int .i64 9)).setIfInBounds 57 (.int .i64 1)).setIfInBounds 58 (.int .i64 7)).setIfInBounds 59 (.int .i64 9)).setIfInBounds 60 (.int .i64 9)).setIfInBounds 61 (.int .i64 0)).setIfInBounds 62 (.int .i64 9)).setIfInBounds 63 (.int .i64 9)).setIfInBounds 64 (.int .i64 4)).setIfInBounds 65 (.int .i64 5)).setIfInBounds 66 (.int .i64 6)).setIfInBounds 67 (.int .i64 3)).setIfInBounds 68 (.int .i64 9)).setIfInBounds 69 (.int .i64 1)).setIfInBounds 70 (.int .i64 7)).setIfInBounds 71 (.int .i64 9)).setIfInBounds 72 (.int .i64 9)).setIfInBounds 73 (.int .i64 0)).setIfInBounds 74 (.int .i64 9)).setIfInBounds 75 (.int .i64 9)).setIfInBounds 76 (.int .i64 4)).setIfInBounds 77 (.int .i64 5)).setIfInBounds 78 (.int .i64 6)).setIfInBounds 79 (.int .i64 3)).setIfInBounds 80 (.int .i64 9)).setIfInBounds 81 (.int .i64 1)).setIfInBounds 82 (.int .i64 7)).setIfInBounds 83 (.int .i64 9)).setIfInBounds 84 (.int .i64 9)).setIfInBounds 85 (.int .i64 0)).setIfInBounds 86 (.int .i64 9)).setIfInBounds 87 (.int .i64 9)).setIfInBounds 88 (.int .i64 9)).setIfInBounds 89 (.int .i64 9)).setIfInBounds 90 (.int .i64 9)).setIfInBounds 91 (.int .i64 9)).setIfInBounds 92 (.int .i64 9)).setIfInBounds 93 (.int .i64 9)).setIfInBounds 94 (.int .i64 7)).setIfInBounds 95 (.int .i64 1))) (.int .i64 1)).run Try.prog w = .ok (.agg (rowA 1)) w := by kernel_rfl
set_option maxRecDepth 100000 in
theorem index_table_2 (w : World) : (Instr.index 85 (.agg ((((((((((((((((((((((((((((((((((((((((((((((((((((((((((((((((((((((((((((((((((((((((((((((((Try.zeroCells85.setIfInBounds 0 (.int .i64 1)).setIfInBounds 1 (.int .i64 9)).setIfInBounds 2 (.int .i64 9)).setIfInBounds 3 (.int .i64 9)).setIfInBounds 4 (.int .i64 9)).setIfInBounds 5 (.int .i64 9)).setIfInBounds 6 (.int .i64 9)).setIfInBounds 7 (.int .i64 9)).setIfInBounds 8 (.int .i64 9)).setIfInBounds 9 (.int .i64 9)).setIfInBounds 10 (.int .i64 7)).setIfInBounds 11 (.int .i64 9)).setIfInBounds 12 (.int .i64 9)).setIfInBounds 13 (.int .i64 0)).setIfInBounds 14 (.int .i64 2)).setIfInBounds 15 (.int .i64 9)).setIfInBounds 16 (.int .i64 4)).setIfInBounds 17 (.int .i64 5)).setIfInBounds 18 (.int .i64 6)).setIfInBounds 19 (.int .i64 3)).setIfInBounds 20 (.int .i64 9)).setIfInBounds 21 (.int .i64 9)).setIfInBounds 22 (.int .i64 7)).setIfInBounds 23 (.int .i64 9)).setIfInBounds 24 (.int .i64 9)).setIfInBounds 25 (.int .i64 0)).setIfInBounds 26 (.int .i64 9)).setIfInBounds 27 (.int .i64 1)).setIfInBounds 28 (.int .i64 9)).setIfInBounds 29 (.int .i64 9)).setIfInBounds 30 (.int .i64 9)).setIfInBounds 31 (.int .i64 3)).setIfInBounds 32 (.int .i64 9)).setIfInBounds 33 (.int .i64 9)).setIfInBounds 34 (.int .i64 7)).setIfInBounds 35 (.int .i64 9)).setIfInBounds 36 (.int .i64 9)).setIfInBounds 37 (.int .i64 0)).setIfInBounds 38 (.int .i64 9)).setIfInBounds 39 (.int .i64 9)).setIfInBounds 40 (.int .i64 9)).setIfInBounds 41 (.int .i64 9)).setIfInBounds 42 (.int .i64 9)).setIfInBounds 43 (.int .i64 9)).setIfInBounds 44 (.int .i64 1)).setIfInBounds 45 (.int .i64 9)).setIfInBounds 46 (.int .i64 7)).setIfInBounds 47 (.int .i64 9)).setIfInBounds 48 (.int .i64 9)).setIfInBounds 49 (.int .i64 0)).setIfInBounds 50 (.int .i64 9)).setIfInBounds 51 (.int .i64 9)).setIfInBounds 52 (.int .i64 4)).setIfInBounds 53 (.int .i64 5)).setIfInBounds 54 (.int .i64 6)).setIfInBounds 55 (.int .i64 3)).setIfInBounds 56 (.int .i64 9)).setIfInBounds 57 (.int .i64 1)).setIfInBounds 58 (.int .i64 7)).setIfInBounds 59 (.int .i64 9)).setIfInBounds 60 (.int .i64 9)).setIfInBounds 61 (.int .i64 0)).setIfInBounds 62 (.int .i64 9)).setIfInBounds 63 (.int .i64 9)).setIfInBounds 64 (.int .i64 4)).setIfInBounds 65 (.int .i64 5)).setIfInBounds 66 (.int .i64 6)).setIfInBounds 67 (.int .i64 3)).setIfInBounds 68 (.int .i64 9)).setIfInBounds 69 (.int .i64 1)).setIfInBounds 70 (.int .i64 7)).setIfInBounds 71 (.int .i64 9)).setIfInBounds 72 (.int .i64 9)).setIfInBounds 73 (.int .i64 0)).setIfInBounds 74 (.int .i64 9)).setIfInBounds 75 (.int .i64 9)).setIfInBounds 76 (.int .i64 4)).setIfInBounds 77 (.int .i64 5)).setIfInBounds 78 (.int .i64 6)).setIfInBounds 79 (.int .i64 3)).setIfInBounds 80 (.int .i64 9)).setIfInBounds 81 (.int .i64 1)).setIfInBounds 82 (.int .i64 7)).setIfInBounds 83 (.int .i64 9)).setIfInBounds 84 (.int .i64 9)).setIfInBounds 85 (.int .i64 0)).setIfInBounds 86 (.int .i64 9)).setIfInBounds 87 (.int .i64 9)).setIfInBounds 88 (.int .i64 9)).setIfInBounds 89 (.int .i64 9)).setIfInBounds 90 (.int .i64 9)).setIfInBounds 91 (.int .i64 9)).setIfInBounds 92 (.int .i64 9)).setIfInBounds 93 (.int .i64 9)).setIfInBounds 94 (.int .i64 7)).setIfInBounds 95 (.int .i64 1))) (.int .i64 2)).run Try.prog w = .ok (.agg (rowA 2)) w := by kernel_rfl
set_option maxRecDepth 100000 in
theorem index_table_3 (w : World) : (Instr.index 85 (.agg ((((((((((((((((((((((((((((((((((((((((((((((((((((((((((((((((((((((((((((((((((((((((((((((((Try.zeroCells85.setIfInBounds 0 (.int .i64 1)).setIfInBounds 1 (.int .i64 9)).setIfInBounds 2 (.int .i64 9)).setIfInBounds 3 (.int .i64 9)).setIfInBounds 4 (.int .i64 9)).setIfInBounds 5 (.int .i64 9)).setIfInBounds 6 (.int .i64 9)).setIfInBounds 7 (.int .i64 9)).setIfInBounds 8 (.int .i64 9)).setIfInBounds 9 (.int .i64 9)).setIfInBounds 10 (.int .i64 7)).setIfInBounds 11 (.int .i64 9)).setIfInBounds 12 (.int .i64 9)).setIfInBounds 13 (.int .i64 0)).setIfInBounds 14 (.int .i64 2)).setIfInBounds 15 (.int .i64 9)).setIfInBounds 16 (.int .i64 4)).setIfInBounds 17 (.int .i64 5)).setIfInBounds 18 (.int .i64 6)).setIfInBounds 19 (.int .i64 3)).setIfInBounds 20 (.int .i64 9)).setIfInBounds 21 (.int .i64 9)).setIfInBounds 22 (.int .i64 7)).setIfInBounds 23 (.int .i64 9)).setIfInBounds 24 (.int .i64 9)).setIfInBounds 25 (.int .i64 0)).setIfInBounds 26 (.int .i64 9)).setIfInBounds 27 (.int .i64 1)).setIfInBounds 28 (.int .i64 9)).setIfInBounds 29 (.int .i64 9)).setIfInBounds 30 (.int .i64 9)).setIfInBounds 31 (.int .i64 3)).setIfInBounds 32 (.int .i64 9)).setIfInBounds 33 (.int .i64 9)).setIfInBounds 34 (.int .i64 7)).setIfInBounds 35 (.int .i64 9)).setIfInBounds 36 (.int .i64 9)).setIfInBounds 37 (.int .i64 0)).setIfInBounds 38 (.int .i64 9)).setIfInBounds 39 (.int .i64 9)).setIfInBounds 40 (.int .i64 9)).setIfInBounds 41 (.int .i64 9)).setIfInBounds 42 (.int .i64 9)).setIfInBounds 43 (.int .i64 9)).setIfInBounds 44 (.int .i64 1)).setIfInBounds 45 (.int .i64 9)).setIfInBounds 46 (.int .i64 7)).setIfInBounds 47 (.int .i64 9)).setIfInBounds 48 (.int .i64 9)).setIfInBounds 49 (.int .i64 0)).setIfInBounds 50 (.int .i64 9)).setIfInBounds 51 (.int .i64 9)).setIfInBounds 52 (.int .i64 4)).setIfInBounds 53 (.int .i64 5)).setIfInBounds 54 (.int .i64 6)).setIfInBounds 55 (.int .i64 3)).setIfInBounds 56 (.int .i64 9)).setIfInBounds 57 (.int .i64 1)).setIfInBounds 58 (.int .i64 7)).setIfInBounds 59 (.int .i64 9)).setIfInBounds 60 (.int .i64 9)).setIfInBounds 61 (.int .i64 0)).setIfInBounds 62 (.int .i64 9)).setIfInBounds 63 (.int .i64 9)).setIfInBounds 64 (.int .i64 4)).setIfInBounds 65 (.int .i64 5)).setIfInBounds 66 (.int .i64 6)).setIfInBounds 67 (.int .i64 3)).setIfInBounds 68 (.int .i64 9)).setIfInBounds 69 (.int .i64 1)).setIfInBounds 70 (.int .i64 7)).setIfInBounds 71 (.int .i64 9)).setIfInBounds 72 (.int .i64 9)).setIfInBounds 73 (.int .i64 0)).setIfInBounds 74 (.int .i64 9)).setIfInBounds 75 (.int .i64 9)).setIfInBounds 76 (.int .i64 4)).setIfInBounds 77 (.int .i64 5)).setIfInBounds 78 (.int .i64 6)).setIfInBounds 79 (.int .i64 3)).setIfInBounds 80 (.int .i64 9)).setIfInBounds 81 (.int .i64 1)).setIfInBounds 82 (.int .i64 7)).setIfInBounds 83 (.int .i64 9)).setIfInBounds 84 (.int .i64 9)).setIfInBounds 85 (.int .i64 0)).setIfInBounds 86 (.int .i64 9)).setIfInBounds 87 (.int .i64 9)).setIfInBounds 88 (.int .i64 9)).setIfInBounds 89 (.int .i64 9)).setIfInBounds 90 (.int .i64 9)).setIfInBounds 91 (.int .i64 9)).setIfInBounds 92 (.int .i64 9)).setIfInBounds 93 (.int .i64 9)).setIfInBounds 94 (.int .i64 7)).setIfInBounds 95 (.int .i64 1))) (.int .i64 3)).run Try.prog w = .ok (.agg (rowA 3)) w := by kernel_rfl
set_option maxRecDepth 100000 in
theorem index_table_4 (w : World) : (Instr.index 85 (.agg ((((((((((((((((((((((((((((((((((((((((((((((((((((((((((((((((((((((((((((((((((((((((((((((((Try.zeroCells85.setIfInBounds 0 (.int .i64 1)).setIfInBounds 1 (.int .i64 9)).setIfInBounds 2 (.int .i64 9)).setIfInBounds 3 (.int .i64 9)).setIfInBounds 4 (.int .i64 9)).setIfInBounds 5 (.int .i64 9)).setIfInBounds 6 (.int .i64 9)).setIfInBounds 7 (.int .i64 9)).setIfInBounds 8 (.int .i64 9)).setIfInBounds 9 (.int .i64 9)).setIfInBounds 10 (.int .i64 7)).setIfInBounds 11 (.int .i64 9)).setIfInBounds 12 (.int .i64 9)).setIfInBounds 13 (.int .i64 0)).setIfInBounds 14 (.int .i64 2)).setIfInBounds 15 (.int .i64 9)).setIfInBounds 16 (.int .i64 4)).setIfInBounds 17 (.int .i64 5)).setIfInBounds 18 (.int .i64 6)).setIfInBounds 19 (.int .i64 3)).setIfInBounds 20 (.int .i64 9)).setIfInBounds 21 (.int .i64 9)).setIfInBounds 22 (.int .i64 7)).setIfInBounds 23 (.int .i64 9)).setIfInBounds 24 (.int .i64 9)).setIfInBounds 25 (.int .i64 0)).setIfInBounds 26 (.int .i64 9)).setIfInBounds 27 (.int .i64 1)).setIfInBounds 28 (.int .i64 9)).setIfInBounds 29 (.int .i64 9)).setIfInBounds 30 (.int .i64 9)).setIfInBounds 31 (.int .i64 3)).setIfInBounds 32 (.int .i64 9)).setIfInBounds 33 (.int .i64 9)).setIfInBounds 34 (.int .i64 7)).setIfInBounds 35 (.int .i64 9)).setIfInBounds 36 (.int .i64 9)).setIfInBounds 37 (.int .i64 0)).setIfInBounds 38 (.int .i64 9)).setIfInBounds 39 (.int .i64 9)).setIfInBounds 40 (.int .i64 9)).setIfInBounds 41 (.int .i64 9)).setIfInBounds 42 (.int .i64 9)).setIfInBounds 43 (.int .i64 9)).setIfInBounds 44 (.int .i64 1)).setIfInBounds 45 (.int .i64 9)).setIfInBounds 46 (.int .i64 7)).setIfInBounds 47 (.int .i64 9)).setIfInBounds 48 (.int .i64 9)).setIfInBounds 49 (.int .i64 0)).setIfInBounds 50 (.int .i64 9)).setIfInBounds 51 (.int .i64 9)).setIfInBounds 52 (.int .i64 4)).setIfInBounds 53 (.int .i64 5)).setIfInBounds 54 (.int .i64 6)).setIfInBounds 55 (.int .i64 3)).setIfInBounds 56 (.int .i64 9)).setIfInBounds 57 (.int .i64 1)).setIfInBounds 58 (.int .i64 7)).setIfInBounds 59 (.int .i64 9)).setIfInBounds 60 (.int .i64 9)).setIfInBounds 61 (.int .i64 0)).setIfInBounds 62 (.int .i64 9)).setIfInBounds 63 (.int .i64 9)).setIfInBounds 64 (.int .i64 4)).setIfInBounds 65 (.int .i64 5)).setIfInBounds 66 (.int .i64 6)).setIfInBounds 67 (.int .i64 3)).setIfInBounds 68 (.int .i64 9)).setIfInBounds 69 (.int .i64 1)).setIfInBounds 70 (.int .i64 7)).setIfInBounds 71 (.int .i64 9)).setIfInBounds 72 (.int .i64 9)).setIfInBounds 73 (.int .i64 0)).setIfInBounds 74 (.int .i64 9)).setIfInBounds 75 (.int .i64 9)).setIfInBounds 76 (.int .i64 4)).setIfInBounds 77 (.int .i64 5)).setIfInBounds 78 (.int .i64 6)).setIfInBounds 79 (.int .i64 3)).setIfInBounds 80 (.int .i64 9)).setIfInBounds 81 (.int .i64 1)).setIfInBounds 82 (.int .i64 7)).setIfInBounds 83 (.int .i64 9)).setIfInBounds 84 (.int .i64 9)).setIfInBounds 85 (.int .i64 0)).setIfInBounds 86 (.int .i64 9)).setIfInBounds 87 (.int .i64 9)).setIfInBounds 88 (.int .i64 9)).setIfInBounds 89 (.int .i64 9)).setIfInBounds 90 (.int .i64 9)).setIfInBounds 91 (.int .i64 9)).setIfInBounds 92 (.int .i64 9)).setIfInBounds 93 (.int .i64 9)).setIfInBounds 94 (.int .i64 7)).setIfInBounds 95 (.int .i64 1))) (.int .i64 4)).run Try.prog w = .ok (.agg (rowA 4)) w := by kernel_rfl
set_option maxRecDepth 100000 in
theorem index_table_5 (w : World) : (Instr.index 85 (.agg ((((((((((((((((((((((((((((((((((((((((((((((((((((((((((((((((((((((((((((((((((((((((((((((((Try.zeroCells85.setIfInBounds 0 (.int .i64 1)).setIfInBounds 1 (.int .i64 9)).setIfInBounds 2 (.int .i64 9)).setIfInBounds 3 (.int .i64 9)).setIfInBounds 4 (.int .i64 9)).setIfInBounds 5 (.int .i64 9)).setIfInBounds 6 (.int .i64 9)).setIfInBounds 7 (.int .i64 9)).setIfInBounds 8 (.int .i64 9)).setIfInBounds 9 (.int .i64 9)).setIfInBounds 10 (.int .i64 7)).setIfInBounds 11 (.int .i64 9)).setIfInBounds 12 (.int .i64 9)).setIfInBounds 13 (.int .i64 0)).setIfInBounds 14 (.int .i64 2)).setIfInBounds 15 (.int .i64 9)).setIfInBounds 16 (.int .i64 4)).setIfInBounds 17 (.int .i64 5)).setIfInBounds 18 (.int .i64 6)).setIfInBounds 19 (.int .i64 3)).setIfInBounds 20 (.int .i64 9)).setIfInBounds 21 (.int .i64 9)).setIfInBounds 22 (.int .i64 7)).setIfInBounds 23 (.int .i64 9)).setIfInBounds 24 (.int .i64 9)).setIfInBounds 25 (.int .i64 0)).setIfInBounds 26 (.int .i64 9)).setIfInBounds 27 (.int .i64 1)).setIfInBounds 28 (.int .i64 9)).setIfInBounds 29 (.int .i64 9)).setIfInBounds 30 (.int .i64 9)).setIfInBounds 31 (.int .i64 3)).setIfInBounds 32 (.int .i64 9)).setIfInBounds 33 (.int .i64 9)).setIfInBounds 34 (.int .i64 7)).setIfInBounds 35 (.int .i64 9)).setIfInBounds 36 (.int .i64 9)).setIfInBounds 37 (.int .i64 0)).setIfInBounds 38 (.int .i64 9)).setIfInBounds 39 (.int .i64 9)).setIfInBounds 40 (.int .i64 9)).setIfInBounds 41 (.int .i64 9)).setIfInBounds 42 (.int .i64 9)).setIfInBounds 43 (.int .i64 9)).setIfInBounds 44 (.int .i64 1)).setIfInBounds 45 (.int .i64 9)).setIfInBounds 46 (.int .i64 7)).setIfInBounds 47 (.int .i64 9)).setIfInBounds 48 (.int .i64 9)).setIfInBounds 49 (.int .i64 0)).setIfInBounds 50 (.int .i64 9)).setIfInBounds 51 (.int .i64 9)).setIfInBounds 52 (.int .i64 4)).setIfInBounds 53 (.int .i64 5)).setIfInBounds 54 (.int .i64 6)).setIfInBounds 55 (.int .i64 3)).setIfInBounds 56 (.int .i64 9)).setIfInBounds 57 (.int .i64 1)).setIfInBounds 58 (.int .i64 7)).setIfInBounds 59 (.int .i64 9)).setIfInBounds 60 (.int .i64 9)).setIfInBounds 61 (.int .i64 0)).setIfInBounds 62 (.int .i64 9)).setIfInBounds 63 (.int .i64 9)).setIfInBounds 64 (.int .i64 4)).setIfInBounds 65 (.int .i64 5)).setIfInBounds 66 (.int .i64 6)).setIfInBounds 67 (.int .i64 3)).setIfInBounds 68 (.int .i64 9)).setIfInBounds 69 (.int .i64 1)).setIfInBounds 70 (.int .i64 7)).setIfInBounds 71 (.int .i64 9)).setIfInBounds 72 (.int .i64 9)).setIfInBounds 73 (.int .i64 0)).setIfInBounds 74 (.int .i64 9)).setIfInBounds 75 (.int .i64 9)).setIfInBounds 76 (.int .i64 4)).setIfInBounds 77 (.int .i64 5)).setIfInBounds 78 (.int .i64 6)).setIfInBounds 79 (.int .i64 3)).setIfInBounds 80 (.int .i64 9)).setIfInBounds 81 (.int .i64 1)).setIfInBounds 82 (.int .i64 7)).setIfInBounds 83 (.int .i64 9)).setIfInBounds 84 (.int .i64 9)).setIfInBounds 85 (.int .i64 0)).setIfInBounds 86 (.int .i64 9)).setIfInBounds 87 (.int .i64 9)).setIfInBounds 88 (.int .i64 9)).setIfInBounds 89 (.int .i64 9)).setIfInBounds 90 (.int .i64 9)).setIfInBounds 91 (.int .i64 9)).setIfInBounds 92 (.int .i64 9)).setIfInBounds 93 (.int .i64 9)).setIfInBounds 94 (.int .i64 7)).setIfInBounds 95 (.int .i64 1))) (.int .i64 5)).run Try.prog w = .ok (.agg (rowA 5)) w := by kernel_rfl
set_option maxRecDepth 100000 in
theorem index_table_6 (w : World) : (Instr.index 85 (.agg ((((((((((((((((((((((((((((((((((((((((((((((((((((((((((((((((((((((((((((((((((((((((((((((((Try.zeroCells85.setIfInBounds 0 (.int .i64 1)).setIfInBounds 1 (.int .i64 9)).setIfInBounds 2 (.int .i64 9)).setIfInBounds 3 (.int .i64 9)).setIfInBounds 4 (.int .i64 9)).setIfInBounds 5 (.int .i64 9)).setIfInBounds 6 (.int .i64 9)).setIfInBounds 7 (.int .i64 9)).setIfInBounds 8 (.int .i64 9)).setIfInBounds 9 (.int .i64 9)).setIfInBounds 10 (.int .i64 7)).setIfInBounds 11 (.int .i64 9)).setIfInBounds 12 (.int .i64 9)).setIfInBounds 13 (.int .i64 0)).setIfInBounds 14 (.int .i64 2)).setIfInBounds 15 (.int .i64 9)).setIfInBounds 16 (.int .i64 4)).setIfInBounds 17 (.int .i64 5)).setIfInBounds 18 (.int .i64 6)).setIfInBounds 19 (.int .i64 3)).setIfInBounds 20 (.int .i64 9)).setIfInBounds 21 (.int .i64 9)).setIfInBounds 22 (.int .i64 7)).setIfInBounds 23 (.int .i64 9)).setIfInBounds 24 (.int .i64 9)).setIfInBounds 25 (.int .i64 0)).setIfInBounds 26 (.int .i64 9)).setIfInBounds 27 (.int .i64 1)).setIfInBounds 28 (.int .i64 9)).setIfInBounds 29 (.int .i64 9)).setIfInBounds 30 (.int .i64 9)).setIfInBounds 31 (.int .i64 3)).setIfInBounds 32 (.int .i64 9)).setIfInBounds 33 (.int .i64 9)).setIfInBounds 34 (.int .i64 7)).setIfInBounds 35 (.int .i64 9)).setIfInBounds 36 (.int .i64 9)).setIfInBounds 37 (.int .i64 0)).setIfInBounds 38 (.int .i64 9)).setIfInBounds 39 (.int .i64 9)).setIfInBounds 40 (.int .i64 9)).setIfInBounds 41 (.int .i64 9)).setIfInBounds 42 (.int .i64 9)).setIfInBounds 43 (.int .i64 9)).setIfInBounds 44 (.int .i64 1)).setIfInBounds 45 (.int .i64 9)).setIfInBounds 46 (.int .i64 7)).setIfInBounds 47 (.int .i64 9)).setIfInBounds 48 (.int .i64 9)).setIfInBounds 49 (.int .i64 0)).setIfInBounds 50 (.int .i64 9)).setIfInBounds 51 (.int .i64 9)).setIfInBounds 52 (.int .i64 4)).setIfInBounds 53 (.int .i64 5)).setIfInBounds 54 (.int .i64 6)).setIfInBounds 55 (.int .i64 3)).setIfInBounds 56 (.int .i64 9)).setIfInBounds 57 (.int .i64 1)).setIfInBounds 58 (.int .i64 7)).setIfInBounds 59 (.int .i64 9)).setIfInBounds 60 (.int .i64 9)).setIfInBounds 61 (.int .i64 0)).setIfInBounds 62 (.int .i64 9)).setIfInBounds 63 (.int .i64 9)).setIfInBounds 64 (.int .i64 4)).setIfInBounds 65 (.int .i64 5)).setIfInBounds 66 (.int .i64 6)).setIfInBounds 67 (.int .i64 3)).setIfInBounds 68 (.int .i64 9)).setIfInBounds 69 (.int .i64 1)).setIfInBounds 70 (.int .i64 7)).setIfInBounds 71 (.int .i64 9)).setIfInBounds 72 (.int .i64 9)).setIfInBounds 73 (.int .i64 0)).setIfInBounds 74 (.int .i64 9)).setIfInBounds 75 (.int .i64 9)).setIfInBounds 76 (.int .i64 4)).setIfInBounds 77 (.int .i64 5)).setIfInBounds 78 (.int .i64 6)).setIfInBounds 79 (.int .i64 3)).setIfInBounds 80 (.int .i64 9)).setIfInBounds 81 (.int .i64 1)).setIfInBounds 82 (.int .i64 7)).setIfInBounds 83 (.int .i64 9)).setIfInBounds 84 (.int .i64 9)).setIfInBounds 85 (.int .i64 0)).setIfInBounds 86 (.int .i64 9)).setIfInBounds 87 (.int .i64 9)).setIfInBounds 88 (.int .i64 9)).setIfInBounds 89 (.int .i64 9)).setIfInBounds 90 (.int .i64 9)).setIfInBounds 91 (.int .i64 9)).setIfInBounds 92 (.int .i64 9)).setIfInBounds 93 (.int .i64 9)).setIfInBounds 94 (.int .i64 7)).setIfInBounds 95 (.int .i64 1))) (.int .i64 6)).run Try.prog w = .ok (.agg (rowA 6)) w := by kernel_rfl
set_option maxRecDepth 100000 in
theorem index_table_7 (w : World) : (Instr.index 85 (.agg ((((((((((((((((((((((((((((((((((((((((((((((((((((((((((((((((((((((((((((((((((((((((((((((((Try.zeroCells85.setIfInBounds 0 (.int .i64 1)).setIfInBounds 1 (.int .i64 9)).setIfInBounds 2 (.int .i64 9)).setIfInBounds 3 (.int .i64 9)).setIfInBounds 4 (.int .i64 9)).setIfInBounds 5 (.int .i64 9)).setIfInBounds 6 (.int .i64 9)).setIfInBounds 7 (.int .i64 9)).setIfInBounds 8 (.int .i64 9)).setIfInBounds 9 (.int .i64 9)).setIfInBounds 10 (.int .i64 7)).setIfInBounds 11 (.int .i64 9)).setIfInBounds 12 (.int .i64 9)).setIfInBounds 13 (.int .i64 0)).setIfInBounds 14 (.int .i64 2)).setIfInBounds 15 (.int .i64 9)).setIfInBounds 16 (.int .i64 4)).setIfInBounds 17 (.int .i64 5)).setIfInBounds 18 (.int .i64 6)).setIfInBounds 19 (.int .i64 3)).setIfInBounds 20 (.int .i64 9)).setIfInBounds 21 (.int .i64 9)).setIfInBounds 22 (.int .i64 7)).setIfInBounds 23 (.int .i64 9)).setIfInBounds 24 (.int .i64 9)).setIfInBounds 25 (.int .i64 0)).setIfInBounds 26 (.int .i64 9)).setIfInBounds 27 (.int .i64 1)).setIfInBounds 28 (.int .i64 9)).setIfInBounds 29 (.int .i64 9)).setIfInBounds 30 (.int .i64 9)).setIfInBounds 31 (.int .i64 3)).setIfInBounds 32 (.int .i64 9)).setIfInBounds 33 (.int .i64 9)).setIfInBounds 34 (.int .i64 7)).setIfInBounds 35 (.int .i64 9)).setIfInBounds 36 (.int .i64 9)).setIfInBounds 37 (.int .i64 0)).setIfInBounds 38 (.int .i64 9)).setIfInBounds 39 (.int .i64 9)).setIfInBounds 40 (.int .i64 9)).setIfInBounds 41 (.int .i64 9)).setIfInBounds 42 (.int .i64 9)).setIfInBounds 43 (.int .i64 9)).setIfInBounds 44 (.int .i64 1)).setIfInBounds 45 (.int .i64 9)).setIfInBounds 46 (.int .i64 7)).setIfInBounds 47 (.int .i64 9)).setIfInBounds 48 (.int .i64 9)).setIfInBounds 49 (.int .i64 0)).setIfInBounds 50 (.int .i64 9)).setIfInBounds 51 (.int .i64 9)).setIfInBounds 52 (.int .i64 4)).setIfInBounds 53 (.int .i64 5)).setIfInBounds 54 (.int .i64 6)).setIfInBounds 55 (.int .i64 3)).setIfInBounds 56 (.int .i64 9)).setIfInBounds 57 (.int .i64 1)).setIfInBounds 58 (.int .i64 7)).setIfInBounds 59 (.int .i64 9)).setIfInBounds 60 (.int .i64 9)).setIfInBounds 61 (.int .i64 0)).setIfInBounds 62 (.int .i64 9)).setIfInBounds 63 (.int .i64 9)).setIfInBounds 64 (.int .i64 4)).setIfInBounds 65 (.int .i64 5)).setIfInBounds 66 (.int .i64 6)).setIfInBounds 67 (.int .i64 3)).setIfInBounds 68 (.int .i64 9)).setIfInBounds 69 (.int .i64 1)).setIfInBounds 70 (.int .i64 7)).setIfInBounds 71 (.int .i64 9)).setIfInBounds 72 (.int .i64 9)).setIfInBounds 73 (.int .i64 0)).setIfInBounds 74 (.int .i64 9)).setIfInBounds 75 (.int .i64 9)).setIfInBounds 76 (.int .i64 4)).setIfInBounds 77 (.int .i64 5)).setIfInBounds 78 (.int .i64 6)).setIfInBounds 79 (.int .i64 3)).setIfInBounds 80 (.int .i64 9)).setIfInBounds 81 (.int .i64 1)).setIfInBounds 82 (.int .i64 7)).setIfInBounds 83 (.int .i64 9)).setIfInBounds 84 (.int .i64 9)).setIfInBounds 85 (.int .i64 0)).setIfInBounds 86 (.int .i64 9)).setIfInBounds 87 (.int .i64 9)).setIfInBounds 88 (.int .i64 9)).setIfInBounds 89 (.int .i64 9)).setIfInBounds 90 (.int .i64 9)).setIfInBounds 91 (.int .i64 9)).setIfInBounds 92 (.int .i64 9)).setIfInBounds 93 (.int .i64 9)).setIfInBounds 94 (.int .i64 7)).setIfInBounds 95 (.int .i64 1))) (.int .i64 7)).run Try.prog w = .ok (.agg (rowA 7)) w := by kernel_rfl
set_option maxRecDepth 100000 in
theorem index_table (s : Int) (hs : 0 ≤ s ∧ s ≤ 7) (w : World) : (Instr.index 85 (.agg ((((((((((((((((((((((((((((((((((((((((((((((((((((((((((((((((((((((((((((((((((((((((((((((((Try.zeroCells85.setIfInBounds 0 (.int .i64 1)).setIfInBounds 1 (.int .i64 9)).setIfInBounds 2 (.int .i64 9)).setIfInBounds 3 (.int .i64 9)).setIfInBounds 4 (.int .i64 9)).setIfInBounds 5 (.int .i64 9)).setIfInBounds 6 (.int .i64 9)).setIfInBounds 7 (.int .i64 9)).setIfInBounds 8 (.int .i64 9)).setIfInBounds 9 (.int .i64 9)).setIfInBounds 10 (.int .i64 7)).setIfInBounds 11 (.int .i64 9)).setIfInBounds 12 (.int .i64 9)).setIfInBounds 13 (.int .i64 0)).setIfInBounds 14 (.int .i64 2)).setIfInBounds 15 (.int .i64 9)).setIfInBounds 16 (.int .i64 4)).setIfInBounds 17 (.int .i64 5)).setIfInBounds 18 (.int .i64 6)).setIfInBounds 19 (.int .i64 3)).setIfInBounds 20 (.int .i64 9)).setIfInBounds 21 (.int .i64 9)).setIfInBounds 22 (.int .i64 7)).setIfInBounds 23 (.int .i64 9)).setIfInBounds 24 (.int .i64 9)).setIfInBounds 25 (.int .i64 0)).setIfInBounds 26 (.int .i64 9)).setIfInBounds 27 (.int .i64 1)).setIfInBounds 28 (.int .i64 9)).setIfInBounds 29 (.int .i64 9)).setIfInBounds 30 (.int .i64 9)).setIfInBounds 31 (.int .i64 3)).setIfInBounds 32 (.int .i64 9)).setIfInBounds 33 (.int .i64 9)).setIfInBounds 34 (.int .i64 7)).setIfInBounds 35 (.int .i64 9)).setIfInBounds 36 (.int .i64 9)).setIfInBounds 37 (.int .i64 0)).setIfInBounds 38 (.int .i64 9)).setIfInBounds 39 (.int .i64 9)).setIfInBounds 40 (.int .i64 9)).setIfInBounds 41 (.int .i64 9)).setIfInBounds 42 (.int .i64 9)).setIfInBounds 43 (.int .i64 9)).setIfInBounds 44 (.int .i64 1)).setIfInBounds 45 (.int .i64 9)).setIfInBounds 46 (.int .i64 7)).setIfInBounds 47 (.int .i64 9)).setIfInBounds 48 (.int .i64 9)).setIfInBounds 49 (.int .i64 0)).setIfInBounds 50 (.int .i64 9)).setIfInBounds 51 (.int .i64 9)).setIfInBounds 52 (.int .i64 4)).setIfInBounds 53 (.int .i64 5)).setIfInBounds 54 (.int .i64 6)).setIfInBounds 55 (.int .i64 3)).setIfInBounds 56 (.int .i64 9)).setIfInBounds 57 (.int .i64 1)).setIfInBounds 58 (.int .i64 7)).setIfInBounds 59 (.int .i64 9)).setIfInBounds 60 (.int .i64 9)).setIfInBounds 61 (.int .i64 0)).setIfInBounds 62 (.int .i64 9)).setIfInBounds 63 (.int .i64 9)).setIfInBounds 64 (.int .i64 4)).setIfInBounds 65 (.int .i64 5)).setIfInBounds 66 (.int .i64 6)).setIfInBounds 67 (.int .i64 3)).setIfInBounds 68 (.int .i64 9)).setIfInBounds 69 (.int .i64 1)).setIfInBounds 70 (.int .i64 7)).setIfInBounds 71 (.int .i64 9)).setIfInBounds 72 (.int .i64 9)).setIfInBounds 73 (.int .i64 0)).setIfInBounds 74 (.int .i64 9)).setIfInBounds 75 (.int .i64 9)).setIfInBounds 76 (.int .i64 4)).setIfInBounds 77 (.int .i64 5)).setIfInBounds 78 (.int .i64 6)).setIfInBounds 79 (.int .i64 3)).setIfInBounds 80 (.int .i64 9)).setIfInBounds 81 (.int .i64 1)).setIfInBounds 82 (.int .i64 7)).setIfInBounds 83 (.int .i64 9)).setIfInBounds 84 (.int .i64 9)).setIfInBounds 85 (.int .i64 0)).setIfInBounds 86 (.int .i64 9)).setIfInBounds 87 (.int .i64 9)).setIfInBounds 88 (.int .i64 9)).setIfInBounds 89 (.int .i64 9)).setIfInBounds 90 (.int .i64 9)).setIfInBounds 91 (.int .i64 9)).setIfInBounds 92 (.int .i64 9)).setIfInBounds 93 (.int .i64 9)).setIfInBounds 94 (.int .i64 7)).setIfInBounds 95 (.int .i64 1))) (.int .i64 s)).run Try.prog w = .ok (.agg (rowA s)) w := by
  have h : s = 0 ∨ s = 1 ∨ s = 2 ∨ s = 3 ∨ s = 4 ∨ s = 5 ∨ s = 6 ∨ s = 7 := by omega
  rcases h with h | h | h | h | h | h | h | h
  · rw [h]; exact index_table_0 w
  · rw [h]; exact index_table_1 w
  · rw [h]; exact index_table_2 w
  · rw [h]; exact index_table_3 w
  · rw [h]; exact index_table_4 w
  · rw [h]; exact index_table_5 w
  · rw [h]; exact index_table_6 w
  · rw [h]; exact index_table_7 w
theorem index_row_0_1 (w : World) : (Instr.index 84 (.agg (rowA 0)) (.int .i64 0)).run Try.prog w = .ok (.int .i64 (stT 0 1)) w := by kernel_rfl
theorem index_row_0_2 (w : World) : (Instr.index 84 (.agg (rowA 0)) (.int .i64 1)).run Try.prog w = .ok (.int .i64 (stT 0 2)) w := by kernel_rfl
theorem index_row_0_3 (w : World) : (Instr.index 84 (.agg (rowA 0)) (.int .i64 2)).run Try.prog w = .ok (.int .i64 (stT 0 3)) w := by kernel_rfl
theorem index_row_0_4 (w : World) : (Instr.index 84 (.agg (rowA 0)) (.int .i64 3)).run Try.prog w = .ok (.int .i64 (stT 0 4)) w := by kernel_rfl
theorem index_row_0_5 (w : World) : (Instr.index 84 (.agg (rowA 0)) (.int .i64 4)).run Try.prog w = .ok (.int .i64 (stT 0 5)) w := by kernel_rfl
theorem index_row_0_6 (w : World) : (Instr.index 84 (.agg (rowA 0)) (.int .i64 5)).run Try.prog w = .ok (.int .i64 (stT 0 6)) w := by kernel_rfl
theorem index_row_0_7 (w : World) : (Instr.index 84 (.agg (rowA 0)) (.int .i64 6)).run Try.prog w = .ok (.int .i64 (stT 0 7)) w := by kernel_rfl
theorem index_row_0_8 (w : World) : (Instr.index 84 (.agg (rowA 0)) (.int .i64 7)).run Try.prog w = .ok (.int .i64 (stT 0 8)) w := by kernel_rfl
theorem index_row_0_9 (w : World) : (Instr.index 84 (.agg (rowA 0)) (.int .i64 8)).run Try.prog w = .ok (.int .i64 (stT 0 9)) w := by kernel_rfl
theorem index_row_0_10 (w : World) : (Instr.index 84 (.agg (rowA 0)) (.int .i64 9)).run Try.prog w = .ok (.int .i64 (stT 0 10)) w := by kernel_rfl
theorem index_row_0_11 (w : World) : (Instr.index 84 (.agg (rowA 0)) (.int .i64 10)).run Try.prog w = .ok (.int .i64 (stT 0 11)) w := by kernel_rfl
theorem index_row_0_12 (w : World) : (Instr.index 84 (.agg (rowA 0)) (.int .i64 11)).run Try.prog w = .ok (.int .i64 (stT 0 12)) w := by kernel_rfl
theorem index_row_1_1 (w : World) : (Instr.index 84 (.agg (rowA 1)) (.int .i64 0)).run Try.prog w = .ok (.int .i64 (stT 1 1)) w := by kernel_rfl
theorem index_row_1_2 (w : World) : (Instr.index 84 (.agg (rowA 1)) (.int .i64 1)).run Try.prog w = .ok (.int .i64 (stT 1 2)) w := by kernel_rfl
theorem index_row_1_3 (w : World) : (Instr.index 84 (.agg (rowA 1)) (.int .i64 2)).run Try.prog w = .ok (.int .i64 (stT 1 3)) w := by kernel_rfl
theorem index_row_1_4 (w : World) : (Instr.index 84 (.agg (rowA 1)) (.int .i64 3)).run Try.prog w = .ok (.int .i64 (stT 1 4)) w := by kernel_rfl
theorem index_row_1_5 (w : World) : (Instr.index 84 (.agg (rowA 1)) (.int .i64 4)).run Try.prog w = .ok (.int .i64 (stT 1 5)) w := by kernel_rfl
theorem index_row_1_6 (w : World) : (Instr.index 84 (.agg (rowA 1)) (.int .i64 5)).run Try.prog w = .ok (.int .i64 (stT 1 6)) w := by kernel_rfl
theorem index_row_1_7 (w : World) : (Instr.index 84 (.agg (rowA 1)) (.int .i64 6)).run Try.prog w = .ok (.int .i64 (stT 1 7)) w := by kernel_rfl
theorem index_row_1_8 (w : World) : (Instr.index 84 (.agg (rowA 1)) (.int .i64 7)).run Try.prog w = .ok (.int .i64 (stT 1 8)) w := by kernel_rfl
theorem index_row_1_9 (w : World) : (Instr.index 84 (.agg (rowA 1)) (.int .i64 8)).run Try.prog w = .ok (.int .i64 (stT 1 9)) w := by kernel_rfl
theorem index_row_1_10 (w : World) : (Instr.index 84 (.agg (rowA 1)) (.int .i64 9)).run Try.prog w = .ok (.int .i64 (stT 1 10)) w := by kernel_rfl
theorem index_row_1_11 (w : World) : (Instr.index 84 (.agg (rowA 1)) (.int .i64 10)).run Try.prog w = .ok (.int .i64 (stT 1 11)) w := by kernel_rfl
theorem index_row_1_12 (w : World) : (Instr.index 84 (.agg (rowA 1)) (.int .i64 11)).run Try.prog w = .ok (.int .i64 (stT 1 12)) w := by kernel_rfl
theorem index_row_2_1 (w : World) : (Instr.index 84 (.agg (rowA 2)) (.int .i64 0)).run Try.prog w = .ok (.int .i64 (stT 2 1)) w := by kernel_rfl
theorem index_row_2_2 (w : World) : (Instr.index 84 (.agg (rowA 2)) (.int .i64 1)).run Try.prog w = .ok (.int .i64 (stT 2 2)) w := by kernel_rfl
theorem index_row_2_3 (w : World) : (Instr.index 84 (.agg (rowA 2)) (.int .i64 2)).run Try.prog w = .ok (.int .i64 (stT 2 3)) w := by kernel_rfl
theorem index_row_2_4 (w : World) : (Instr.index 84 (.agg (rowA 2)) (.int .i64 3)).run Try.prog w = .ok (.int .i64 (stT 2 4)) w := by kernel_rfl
theorem index_row_2_5 (w : World) : (Instr.index 84 (.agg (rowA 2)) (.int .i64 4)).run Try.prog w = .ok (.int .i64 (stT 2 5)) w := by kernel_rfl
theorem index_row_2_6 (w : World) : (Instr.index 84 (.agg (rowA 2)) (.int .i64 5)).run Try.prog w = .ok (.int .i64 (stT 2 6)) w := by kernel_rfl
theorem index_row_2_7 (w : World) : (Instr.index 84 (.agg (rowA 2)) (.int .i64 6)).run Try.prog w = .ok (.int .i64 (stT 2 7)) w := by kernel_rfl
theorem index_row_2_8 (w : World) : (Instr.index 84 (.agg (rowA 2)) (.int .i64 7)).run Try.prog w = .ok (.int .i64 (stT 2 8)) w := by kernel_rfl
theorem index_row_2_9 (w : World) : (Instr.index 84 (.agg (rowA 2)) (.int .i64 8)).run Try.prog w = .ok (.int .i64 (stT 2 9)) w := by kernel_rfl
theorem index_row_2_10 (w : World) : (Instr.index 84 (.agg (rowA 2)) (.int .i64 9)).run Try.prog w = .ok (.int .i64 (stT 2 10)) w := by kernel_rfl
theorem index_row_2_11 (w : World) : (Instr.index 84 (.agg (rowA 2)) (.int .i64 10)).run Try.prog w = .ok (.int .i64 (stT 2 11)) w := by kernel_rfl
theorem index_row_2_12 (w : World) : (Instr.index 84 (.agg (rowA 2)) (.int .i64 11)).run Try.prog w = .ok (.int .i64 (stT 2 12)) w := by kernel_rfl
theorem index_row_3_1 (w : World) : (Instr.index 84 (.agg (rowA 3)) (.int .i64 0)).run Try.prog w = .ok (.int .i64 (stT 3 1)) w := by kernel_rfl
theorem index_row_3_2 (w : World) : (Instr.index 84 (.agg (rowA 3)) (.int .i64 1)).run Try.prog w = .ok (.int .i64 (stT 3 2)) w := by kernel_rfl
theorem index_row_3_3 (w : World) : (Instr.index 84 (.agg (rowA 3)) (.int .i64 2)).run Try.prog w = .ok (.int .i64 (stT 3 3)) w := by kernel_rfl
theorem index_row_3_4 (w : World) : (Instr.index 84 (.agg (rowA 3)) (.int .i64 3)).run Try.prog w = .ok (.int .i64 (stT 3 4)) w := by kernel_rfl
theorem index_row_3_5 (w : World) : (Instr.index 84 (.agg (rowA 3)) (.int .i64 4)).run Try.prog w = .ok (.int .i64 (stT 3 5)) w := by kernel_rfl
theorem index_row_3_6 (w : World) : (Instr.index 84 (.agg (rowA 3)) (.int .i64 5)).run Try.prog w = .ok (.int .i64 (stT 3 6)) w := by kernel_rfl
theorem index_row_3_7 (w : World) : (Instr.index 84 (.agg (rowA 3)) (.int .i64 6)).run Try.prog w = .ok (.int .i64 (stT 3 7)) w := by kernel_rfl
theorem index_row_3_8 (w : World) : (Instr.index 84 (.agg (rowA 3)) (.int .i64 7)).run Try.prog w = .ok (.int .i64 (stT 3 8)) w := by kernel_rfl
theorem index_row_3_9 (w : World) : (Instr.index 84 (.agg (rowA 3)) (.int .i64 8)).run Try.prog w = .ok (.int .i64 (stT 3 9)) w := by kernel_rfl
theorem index_row_3_10 (w : World) : (Instr.index 84 (.agg (rowA 3)) (.int .i64 9)).run Try.prog w = .ok (.int .i64 (stT 3 10)) w := by kernel_rfl
theorem index_row_3_11 (w : World) : (Instr.index 84 (.agg (rowA 3)) (.int .i64 10)).run Try.prog w = .ok (.int .i64 (stT 3 11)) w := by kernel_rfl
theorem index_row_3_12 (w : World) : (Instr.index 84 (.agg (rowA 3)) (.int .i64 11)).run Try.prog w = .ok (.int .i64 (stT 3 12)) w := by kernel_rfl
theorem index_row_4_1 (w : World) : (Instr.index 84 (.agg (rowA 4)) (.int .i64 0)).run Try.prog w = .ok (.int .i64 (stT 4 1)) w := by kernel_rfl
theorem index_row_4_2 (w : World) : (Instr.index 84 (.agg (rowA 4)) (.int .i64 1)).run Try.prog w = .ok (.int .i64 (stT 4 2)) w := by kernel_rfl
theorem index_row_4_3 (w : World) : (Instr.index 84 (.agg (rowA 4)) (.int .i64 2)).run Try.prog w = .ok (.int .i64 (stT 4 3)) w := by kernel_rfl
theorem index_row_4_4 (w : World) : (Instr.index 84 (.agg (rowA 4)) (.int .i64 3)).run Try.prog w = .ok (.int .i64 (stT 4 4)) w := by kernel_rfl
theorem index_row_4_5 (w : World) : (Instr.index 84 (.agg (rowA 4)) (.int .i64 4)).run Try.prog w = .ok (.int .i64 (stT 4 5)) w := by kernel_rfl
theorem index_row_4_6 (w : World) : (Instr.index 84 (.agg (rowA 4)) (.int .i64 5)).run Try.prog w = .ok (.int .i64 (stT 4 6)) w := by kernel_rfl
theorem index_row_4_7 (w : World) : (Instr.index 84 (.agg (rowA 4)) (.int .i64 6)).run Try.prog w = .ok (.int .i64 (stT 4 7)) w := by kernel_rfl
theorem index_row_4_8 (w : World) : (Instr.index 84 (.agg (rowA 4)) (.int .i64 7)).run Try.prog w = .ok (.int .i64 (stT 4 8)) w := by kernel_rfl
theorem index_row_4_9 (w : World) : (Instr.index 84 (.agg (rowA 4)) (.int .i64 8)).run Try.prog w = .ok (.int .i64 (stT 4 9)) w := by kernel_rfl
theorem index_row_4_10 (w : World) : (Instr.index 84 (.agg (rowA 4)) (.int .i64 9)).run Try.prog w = .ok (.int .i64 (stT 4 10)) w := by kernel_rfl
theorem index_row_4_11 (w : World) : (Instr.index 84 (.agg (rowA 4)) (.int .i64 10)).run Try.prog w = .ok (.int .i64 (stT 4 11)) w := by kernel_rfl
theorem index_row_4_12 (w : World) : (Instr.index 84 (.agg (rowA 4)) (.int .i64 11)).run Try.prog w = .ok (.int .i64 (stT 4 12)) w := by kernel_rfl
theorem index_row_5_1 (w : World) : (Instr.index 84 (.agg (rowA 5)) (.int .i64 0)).run Try.prog w = .ok (.int .i64 (stT 5 1)) w := by kernel_rfl
theorem index_row_5_2 (w : World) : (Instr.index 84 (.agg (rowA 5)) (.int .i64 1)).run Try.prog w = .ok (.int .i64 (stT 5 2)) w := by kernel_rfl
theorem index_row_5_3 (w : World) : (Instr.index 84 (.agg (rowA 5)) (.int .i64 2)).run Try.prog w = .ok (.int .i64 (stT 5 3)) w := by kernel_rfl
theorem index_row_5_4 (w : World) : (Instr.index 84 (.agg (rowA 5)) (.int .i64 3)).run Try.prog w = .ok (.int .i64 (stT 5 4)) w := by kernel_rfl
theorem index_row_5_5 (w : World) : (Instr.index 84 (.agg (rowA 5)) (.int .i64 4)).run Try.prog w = .ok (.int .i64 (stT 5 5)) w := by kernel_rfl
theorem index_row_5_6 (w : World) : (Instr.index 84 (.agg (rowA 5)) (.int .i64 5)).run Try.prog w = .ok (.int .i64 (stT 5 6)) w := by kernel_rfl
theorem index_row_5_7 (w : World) : (Instr.index 84 (.agg (rowA 5)) (.int .i64 6)).run Try.prog w = .ok (.int .i64 (stT 5 7)) w := by kernel_rfl
theorem index_row_5_8 (w : World) : (Instr.index 84 (.agg (rowA 5)) (.int .i64 7)).run Try.prog w = .ok (.int .i64 (stT 5 8)) w := by kernel_rfl
theorem index_row_5_9 (w : World) : (Instr.index 84 (.agg (rowA 5)) (.int .i64 8)).run Try.prog w = .ok (.int .i64 (stT 5 9)) w := by kernel_rfl
theorem index_row_5_10 (w : World) : (Instr.index 84 (.agg (rowA 5)) (.int .i64 9)).run Try.prog w = .ok (.int .i64 (stT 5 10)) w := by kernel_rfl
theorem index_row_5_11 (w : World) : (Instr.index 84 (.agg (rowA 5)) (.int .i64 10)).run Try.prog w = .ok (.int .i64 (stT 5 11)) w := by kernel_rfl
theorem index_row_5_12 (w : World) : (Instr.index 84 (.agg (rowA 5)) (.int .i64 11)).run Try.prog w = .ok (.int .i64 (stT 5 12)) w := by kernel_rfl
theorem index_row_6_1 (w : World) : (Instr.index 84 (.agg (rowA 6)) (.int .i64 0)).run Try.prog w = .ok (.int .i64 (stT 6 1)) w := by kernel_rfl
theorem index_row_6_2 (w : World) : (Instr.index 84 (.agg (rowA 6)) (.int .i64 1)).run Try.prog w = .ok (.int .i64 (stT 6 2)) w := by kernel_rfl
theorem index_row_6_3 (w : World) : (Instr.index 84 (.agg (rowA 6)) (.int .i64 2)).run Try.prog w = .ok (.int .i64 (stT 6 3)) w := by kernel_rfl
theorem index_row_6_4 (w : World) : (Instr.index 84 (.agg (rowA 6)) (.int .i64 3)).run Try.prog w = .ok (.int .i64 (stT 6 4)) w := by kernel_rfl
theorem index_row_6_5 (w : World) : (Instr.index 84 (.agg (rowA 6)) (.int .i64 4)).run Try.prog w = .ok (.int .i64 (stT 6 5)) w := by kernel_rfl
theorem index_row_6_6 (w : World) : (Instr.index 84 (.agg (rowA 6)) (.int .i64 5)).run Try.prog w = .ok (.int .i64 (stT 6 6)) w := by kernel_rfl
theorem index_row_6_7 (w : World) : (Instr.index 84 (.agg (rowA 6)) (.int .i64 6)).run Try.prog w = .ok (.int .i64 (stT 6 7)) w := by kernel_rfl
theorem index_row_6_8 (w : World) : (Instr.index 84 (.agg (rowA 6)) (.int .i64 7)).run Try.prog w = .ok (.int .i64 (stT 6 8)) w := by kernel_rfl
theorem index_row_6_9 (w : World) : (Instr.index 84 (.agg (rowA 6)) (.int .i64 8)).run Try.prog w = .ok (.int .i64 (stT 6 9)) w := by kernel_rfl
theorem index_row_6_10 (w : World) : (Instr.index 84 (.agg (rowA 6)) (.int .i64 9)).run Try.prog w = .ok (.int .i64 (stT 6 10)) w := by kernel_rfl
theorem index_row_6_11 (w : World) : (Instr.index 84 (.agg (rowA 6)) (.int .i64 10)).run Try.prog w = .ok (.int .i64 (stT 6 11)) w := by kernel_rfl
theorem index_row_6_12 (w : World) : (Instr.index 84 (.agg (rowA 6)) (.int .i64 11)).run Try.prog w = .ok (.int .i64 (stT 6 12)) w := by kernel_rfl
theorem index_row_7_1 (w : World) : (Instr.index 84 (.agg (rowA 7)) (.int .i64 0)).run Try.prog w = .ok (.int .i64 (stT 7 1)) w := by kernel_rfl
theorem index_row_7_2 (w : World) : (Instr.index 84 (.agg (rowA 7)) (.int .i64 1)).run Try.prog w = .ok (.int .i64 (stT 7 2)) w := by kernel_rfl
theorem index_row_7_3 (w : World) : (Instr.index 84 (.agg (rowA 7)) (.int .i64 2)).run Try.prog w = .ok (.int .i64 (stT 7 3)) w := by kernel_rfl
theorem index_row_7_4 (w : World) : (Instr.index 84 (.agg (rowA 7)) (.int .i64 3)).run Try.prog w = .ok (.int .i64 (stT 7 4)) w := by kernel_rfl
theorem index_row_7_5 (w : World) : (Instr.index 84 (.agg (rowA 7)) (.int .i64 4)).run Try.prog w = .ok (.int .i64 (stT 7 5)) w := by kernel_rfl
theorem index_row_7_6 (w : World) : (Instr.index 84 (.agg (rowA 7)) (.int .i64 5)).run Try.prog w = .ok (.int .i64 (stT 7 6)) w := by kernel_rfl
theorem index_row_7_7 (w : World) : (Instr.index 84 (.agg (rowA 7)) (.int .i64 6)).run Try.prog w = .ok (.int .i64 (stT 7 7)) w := by kernel_rfl
theorem index_row_7_8 (w : World) : (Instr.index 84 (.agg (rowA 7)) (.int .i64 7)).run Try.prog w = .ok (.int .i64 (stT 7 8)) w := by kernel_rfl
theorem index_row_7_9 (w : World) : (Instr.index 84 (.agg (rowA 7)) (.int .i64 8)).run Try.prog w = .ok (.int .i64 (stT 7 9)) w := by kernel_rfl
theorem index_row_7_10 (w : World) : (Instr.index 84 (.agg (rowA 7)) (.int .i64 9)).run Try.prog w = .ok (.int .i64 (stT 7 10)) w := by kernel_rfl
theorem index_row_7_11 (w : World) : (Instr.index 84 (.agg (rowA 7)) (.int .i64 10)).run Try.prog w = .ok (.int .i64 (stT 7 11)) w := by kernel_rfl
theorem index_row_7_12 (w : World) : (Instr.index 84 (.agg (rowA 7)) (.int .i64 11)).run Try.prog w = .ok (.int .i64 (stT 7 12)) w := by kernel_rfl

theorem index_row (s e : Int) (hs : 0 ≤ s ∧ s ≤ 7) (he : 1 ≤ e ∧ e ≤ 12) (w : World) : (Instr.index 84 (.agg (rowA s)) (.int .i64 (e - 1))).run Try.prog w = .ok (.int .i64 (stT s e)) w := by
  have h : s = 0 ∨ s = 1 ∨ s = 2 ∨ s = 3 ∨ s = 4 ∨ s = 5 ∨ s = 6 ∨ s = 7 := by omega
  have h2 : e = 1 ∨ e = 2 ∨ e = 3 ∨ e = 4 ∨ e = 5 ∨ e = 6 ∨ e = 7 ∨ e = 8 ∨ e = 9 ∨ e = 10 ∨ e = 11 ∨ e = 12 := by omega
  rcases h with h | h | h | h | h | h | h | h
  · rcases h2 with h2 | h2 | h2 | h2 | h2 | h2 | h2 | h2 | h2 | h2 | h2 | h2
    · rw [h, h2]; exact index_row_0_1 w
    · rw [h, h2]; exact index_row_0_2 w
    · rw [h, h2]; exact index_row_0_3 w
    · rw [h, h2]; exact index_row_0_4 w
    · rw [h, h2]; exact index_row_0_5 w
    · rw [h, h2]; exact index_row_0_6 w
    · rw [h, h2]; exact index_row_0_7 w
    · rw [h, h2]; exact index_row_0_8 w
    · rw [h, h2]; exact index_row_0_9 w
    · rw [h, h2]; exact index_row_0_10 w
    · rw [h, h2]; exact index_row_0_11 w
    · rw [h, h2]; exact index_row_0_12 w
  · rcases h2 with h2 | h2 | h2 | h2 | h2 | h2 | h2 | h2 | h2 | h2 | h2 | h2
    · rw [h, h2]; exact index_row_1_1 w
    · rw [h, h2]; exact index_row_1_2 w
    · rw [h, h2]; exact index_row_1_3 w
    · rw [h, h2]; exact index_row_1_4 w
    · rw [h, h2]; exact index_row_1_5 w
    · rw [h, h2]; exact index_row_1_6 w
    · rw [h, h2]; exact index_row_1_7 w
    · rw [h, h2]; exact index_row_1_8 w
    · rw [h, h2]; exact index_row_1_9 w
    · rw [h, h2]; exact index_row_1_10 w
    · rw [h, h2]; exact index_row_1_11 w
    · rw [h, h2]; exact index_row_1_12 w
  · rcases h2 with h2 | h2 | h2 | h2 | h2 | h2 | h2 | h2 | h2 | h2 | h2 | h2
    · rw [h, h2]; exact index_row_2_1 w
    · rw [h, h2]; exact index_row_2_2 w
    · rw [h, h2]; exact index_row_2_3 w
    · rw [h, h2]; exact index_row_2_4 w
    · rw [h, h2]; exact index_row_2_5 w
    · rw [h, h2]; exact index_row_2_6 w
    · rw [h, h2]; exact index_row_2_7 w
    · rw [h, h2]; exact index_row_2_8 w
    · rw [h, h2]; exact index_row_2_9 w
    · rw [h, h2]; exact index_row_2_10 w
    · rw [h, h2]; exact index_row_2_11 w
    · rw [h, h2]; exact index_row_2_12 w
  · rcases h2 with h2 | h2 | h2 | h2 | h2 | h2 | h2 | h2 | h2 | h2 | h2 | h2
    · rw [h, h2]; exact index_row_3_1 w
    · rw [h, h2]; exact index_row_3_2 w
    · rw [h, h2]; exact index_row_3_3 w
    · rw [h, h2]; exact index_row_3_4 w
    · rw [h, h2]; exact index_row_3_5 w
    · rw [h, h2]; exact index_row_3_6 w
    · rw [h, h2]; exact index_row_3_7 w
    · rw [h, h2]; exact index_row_3_8 w
    · rw [h, h2]; exact index_row_3_9 w
    · rw [h, h2]; exact index_row_3_10 w
    · rw [h, h2]; exact index_row_3_11 w
    · rw [h, h2]; exact index_row_3_12 w
  · rcases h2 with h2 | h2 | h2 | h2 | h2 | h2 | h2 | h2 | h2 | h2 | h2 | h2
    · rw [h, h2]; exact index_row_4_1 w
    · rw [h, h2]; exact index_row_4_2 w
    · rw [h, h2]; exact index_row_4_3 w
    · rw [h, h2]; exact index_row_4_4 w
    · rw [h, h2]; exact index_row_4_5 w
    · rw [h, h2]; exact index_row_4_6 w
    · rw [h, h2]; exact index_row_4_7 w
    · rw [h, h2]; exact index_row_4_8 w
    · rw [h, h2]; exact index_row_4_9 w
    · rw [h, h2]; exact index_row_4_10 w
    · rw [h, h2]; exact index_row_4_11 w
    · rw [h, h2]; exact index_row_4_12 w
  · rcases h2 with h2 | h2 | h2 | h2 | h2 | h2 | h2 | h2 | h2 | h2 | h2 | h2
    · rw [h, h2]; exact index_row_5_1 w
    · rw [h, h2]; exact index_row_5_2 w
    · rw [h, h2]; exact index_row_5_3 w
    · rw [h, h2]; exact index_row_5_4 w
    · rw [h, h2]; exact index_row_5_5 w
    · rw [h, h2]; exact index_row_5_6 w
    · rw [h, h2]; exact index_row_5_7 w
    · rw [h, h2]; exact index_row_5_8 w
    · rw [h, h2]; exact index_row_5_9 w
    · rw [h, h2]; exact index_row_5_10 w
    · rw [h, h2]; exact index_row_5_11 w
    · rw [h, h2]; exact index_row_5_12 w
  · rcases h2 with h2 | h2 | h2 | h2 | h2 | h2 | h2 | h2 | h2 | h2 | h2 | h2
    · rw [h, h2]; exact index_row_6_1 w
    · rw [h, h2]; exact index_row_6_2 w
    · rw [h, h2]; exact index_row_6_3 w
    · rw [h, h2]; exact index_row_6_4 w
    · rw [h, h2]; exact index_row_6_5 w
    · rw [h, h2]; exact index_row_6_6 w
    · rw [h, h2]; exact index_row_6_7 w
    · rw [h, h2]; exact index_row_6_8 w
    · rw [h, h2]; exact index_row_6_9 w
    · rw [h, h2]; exact index_row_6_10 w
    · rw [h, h2]; exact index_row_6_11 w
    · rw [h, h2]; exact index_row_6_12 w
  · rcases h2 with h2 | h2 | h2 | h2 | h2 | h2 | h2 | h2 | h2 | h2 | h2 | h2
    · rw [h, h2]; exact index_row_7_1 w
    · rw [h, h2]; exact index_row_7_2 w
    · rw [h, h2]; exact index_row_7_3 w
    · rw [h, h2]; exact index_row_7_4 w
    · rw [h, h2]; exact index_row_7_5 w
    · rw [h, h2]; exact index_row_7_6 w
    · rw [h, h2]; exact index_row_7_7 w
    · rw [h, h2]; exact index_row_7_8 w
    · rw [h, h2]; exact index_row_7_9 w
    · rw [h, h2]; exact index_row_7_10 w
    · rw [h, h2]; exact index_row_7_11 w
    · rw [h, h2]; exact index_row_7_12 w

set_option maxRecDepth 100000 in
set_option maxHeartbeats 2000000 in
theorem rnext_in (s e : Int) (w : World) (hs : 0 ≤ s ∧ s ≤ 7) (he : 1 ≤ e ∧ e ≤ 12) : Calls Try.prog 17 #[.int .i64 s, .int .i64 e] w fun e' w' => e' = .returned (.tuple #[.int .i64 (stV s e), .bool (stB s e)]) ∧ w = w' := by
  have h1 := index_table s hs
  have h2 := index_row s e hs he
  have d1 : decide (s < 0) = false := by simp; omega
  have d2 : decide (7 < s) = false := by simp; omega
  have d3 : decide (e < 1) = false := by simp; omega
  have d4 : decide (12 < e) = false := by simp; omega
  have hin : stIn s e = true := by simp [stIn]; omega
  cases hc : (stT s e == 9)
  · have hv : stV s e = stT s e := by
      have : ¬ stT s e = 9 := by simpa using hc
      simp [stV, hin, this]
    have hb : stB s e = true := by simp [stB, hin, bne, hc]
    have HV := Lib.hid hv
    have HB := Lib.hid hb
    clear hv hb hin
    go_enter Try.func17, Try.ntmps17
    go_wp2
    go_ret2
    rw [HV.out, HB.out]
    exact ⟨rfl, rfl⟩
  · have hv : stV s e = s := by
      have : stT s e = 9 := by simpa using hc
      simp [stV, hin, this]
    have hb : stB s e = false := by simp [stB, hin, bne, hc]
    have HV := Lib.hid hv
    have HB := Lib.hid hb
    clear hv hb hin
    go_enter Try.func17, Try.ntmps17
    go_wp2
    go_ret2
    rw [HV.out, HB.out]
    exact ⟨rfl, rfl⟩

set_option maxHeartbeats 1000000 in
theorem rnext_out (s e : Int) (w : World) (h : s < 0 ∨ 7 < s ∨ e < 1 ∨ 12 < e) : Calls Try.prog 17 #[.int .i64 s, .int .i64 e] w fun e' w' => e' = .returned (.tuple #[.int .i64 s, .bool false]) ∧ w = w' := by
  by_cases h1 : s < 0
  · clear h
    go_enter Try.func17, Try.ntmps17
    go_wp2
    go_ret2
    exact ⟨rfl, rfl⟩
  by_cases h2 : 7 < s
  · clear h
    go_enter Try.func17, Try.ntmps17
    go_wp2
    go_ret2
    exact ⟨rfl, rfl⟩
  have d1 : decide (s < 0) = false := by simp; omega
  have d2 : decide (7 < s) = false := by simp; omega
  by_cases h3 : e < 1
  · clear h
    go_enter Try.func17, Try.ntmps17
    go_wp2
    go_ret2
    exact ⟨rfl, rfl⟩
  have d3 : decide (e < 1) = false := by simp; omega
  have h4 : 12 < e := by omega
  clear h
  go_enter Try.func17, Try.ntmps17
  go_wp2
  go_ret2
  exact ⟨rfl, rfl⟩

theorem rnext_any (s e : Int) (w : World) : Calls Try.prog 17 #[.int .i64 s, .int .i64 e] w fun e' w' => e' = .returned (.tuple #[.int .i64 (stV s e), .bool (stB s e)]) ∧ w = w' := by
  by_cases h : s < 0 ∨ 7 < s ∨ e < 1 ∨ 12 < e
  · rw [stV_no s e h, stB_no s e h]
    exact rnext_out s e w h
  · exact rnext_in s e w (by omega) (by omega)

end Go.Proofs.Ytddakmlnkffgiaa
