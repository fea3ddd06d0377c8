/- What the program's tables say of its types and functions, asked of the kernel once. -/
import Derived.Test.YtdmkedbmoboamaaProg
import Derived.KernelRfl
import Derived.Test.YtdmkedbmoboamaaKxB
namespace Go.Proofs.Ytdmkedbmoboamaa
open Go.Kx
theorem mixed : Try.prog.follows .mixedOrders = true := by kernel_rfl
theorem sz1 : cellsz Try.prog 1 = some 1 := by kernel_rfl
theorem sc1 : scal Try.prog 1 = true := by kernel_rfl
theorem zv1 : zerov Try.prog 1 = some (.nilFunc) := by kernel_rfl
theorem sz2 : cellsz Try.prog 2 = some 1 := by kernel_rfl
theorem sc2 : scal Try.prog 2 = true := by kernel_rfl
theorem zv2 : zerov Try.prog 2 = some (.int .i64 0) := by kernel_rfl
theorem sz3 : cellsz Try.prog 3 = some 1 := by kernel_rfl
theorem sc3 : scal Try.prog 3 = true := by kernel_rfl
theorem zv3 : zerov Try.prog 3 = some (.int .i64 0) := by kernel_rfl
theorem sz4 : cellsz Try.prog 4 = some 1 := by kernel_rfl
theorem sc4 : scal Try.prog 4 = true := by kernel_rfl
theorem zv4 : zerov Try.prog 4 = some (.bool false) := by kernel_rfl
theorem sz5 : cellsz Try.prog 5 = some 1 := by kernel_rfl
theorem sc5 : scal Try.prog 5 = true := by kernel_rfl
theorem zv5 : zerov Try.prog 5 = some (.int .u8 0) := by kernel_rfl
theorem sz6 : cellsz Try.prog 6 = some 1 := by kernel_rfl
theorem sc6 : scal Try.prog 6 = true := by kernel_rfl
theorem zv6 : zerov Try.prog 6 = some (.int .u8 0) := by kernel_rfl
theorem sz7 : cellsz Try.prog 7 = some 4 := by kernel_rfl
theorem ag7 : aggn Try.prog 7 4 = true := by kernel_rfl
theorem zv7 : zerov Try.prog 7 = some (.agg #[.int .i64 0, .int .i64 0, .bool false, .int .u8 0]) := by kernel_rfl
theorem fa7_0 (g off : Nat) (w : World) : (Instr.fieldAt 7 (.pointer (some ⟨g, off, none⟩)) 0).run Try.prog w = .ok (.pointer (some ⟨g, off, none⟩)) w := by kernel_rfl
theorem fa7_1 (g off : Nat) (w : World) : (Instr.fieldAt 7 (.pointer (some ⟨g, off, none⟩)) 1).run Try.prog w = .ok (.pointer (some ⟨g, off + 1, none⟩)) w := by kernel_rfl
theorem fa7_2 (g off : Nat) (w : World) : (Instr.fieldAt 7 (.pointer (some ⟨g, off, none⟩)) 2).run Try.prog w = .ok (.pointer (some ⟨g, off + 2, none⟩)) w := by kernel_rfl
theorem fa7_3 (g off : Nat) (w : World) : (Instr.fieldAt 7 (.pointer (some ⟨g, off, none⟩)) 3).run Try.prog w = .ok (.pointer (some ⟨g, off + 3, none⟩)) w := by kernel_rfl
theorem sz8 : cellsz Try.prog 8 = some 4 := by kernel_rfl
theorem ag8 : aggn Try.prog 8 4 = true := by kernel_rfl
theorem zv8 : zerov Try.prog 8 = some (.agg #[.int .i64 0, .int .i64 0, .bool false, .int .u8 0]) := by kernel_rfl
theorem fa8_0 (g off : Nat) (w : World) : (Instr.fieldAt 8 (.pointer (some ⟨g, off, none⟩)) 0).run Try.prog w = .ok (.pointer (some ⟨g, off, none⟩)) w := by kernel_rfl
theorem fa8_1 (g off : Nat) (w : World) : (Instr.fieldAt 8 (.pointer (some ⟨g, off, none⟩)) 1).run Try.prog w = .ok (.pointer (some ⟨g, off + 1, none⟩)) w := by kernel_rfl
theorem fa8_2 (g off : Nat) (w : World) : (Instr.fieldAt 8 (.pointer (some ⟨g, off, none⟩)) 2).run Try.prog w = .ok (.pointer (some ⟨g, off + 2, none⟩)) w := by kernel_rfl
theorem fa8_3 (g off : Nat) (w : World) : (Instr.fieldAt 8 (.pointer (some ⟨g, off, none⟩)) 3).run Try.prog w = .ok (.pointer (some ⟨g, off + 3, none⟩)) w := by kernel_rfl
theorem sz9 : cellsz Try.prog 9 = some 1 := by kernel_rfl
theorem sc9 : scal Try.prog 9 = true := by kernel_rfl
theorem zv9 : zerov Try.prog 9 = some (.string ⟨#[]⟩) := by kernel_rfl
theorem sz10 : cellsz Try.prog 10 = some 1 := by kernel_rfl
theorem sc10 : scal Try.prog 10 = true := by kernel_rfl
theorem zv10 : zerov Try.prog 10 = some (.string ⟨#[]⟩) := by kernel_rfl
theorem sz11 : cellsz Try.prog 11 = some 1 := by kernel_rfl
theorem sc11 : scal Try.prog 11 = true := by kernel_rfl
theorem zv11 : zerov Try.prog 11 = some (.string ⟨#[]⟩) := by kernel_rfl
theorem sz12 : cellsz Try.prog 12 = some 1 := by kernel_rfl
theorem sc12 : scal Try.prog 12 = true := by kernel_rfl
theorem zv12 : zerov Try.prog 12 = some (.int .u64 0) := by kernel_rfl
theorem sz13 : cellsz Try.prog 13 = some 2 := by kernel_rfl
theorem ag13 : aggn Try.prog 13 2 = true := by kernel_rfl
theorem zv13 : zerov Try.prog 13 = some (.agg #[.string ⟨#[]⟩, .int .u64 0]) := by kernel_rfl
theorem fa13_0 (g off : Nat) (w : World) : (Instr.fieldAt 13 (.pointer (some ⟨g, off, none⟩)) 0).run Try.prog w = .ok (.pointer (some ⟨g, off, none⟩)) w := by kernel_rfl
theorem fa13_1 (g off : Nat) (w : World) : (Instr.fieldAt 13 (.pointer (some ⟨g, off, none⟩)) 1).run Try.prog w = .ok (.pointer (some ⟨g, off + 1, none⟩)) w := by kernel_rfl
theorem sz14 : cellsz Try.prog 14 = some 2 := by kernel_rfl
theorem ag14 : aggn Try.prog 14 2 = true := by kernel_rfl
theorem zv14 : zerov Try.prog 14 = some (.agg #[.string ⟨#[]⟩, .int .u64 0]) := by kernel_rfl
theorem fa14_0 (g off : Nat) (w : World) : (Instr.fieldAt 14 (.pointer (some ⟨g, off, none⟩)) 0).run Try.prog w = .ok (.pointer (some ⟨g, off, none⟩)) w := by kernel_rfl
theorem fa14_1 (g off : Nat) (w : World) : (Instr.fieldAt 14 (.pointer (some ⟨g, off, none⟩)) 1).run Try.prog w = .ok (.pointer (some ⟨g, off + 1, none⟩)) w := by kernel_rfl
theorem sz15 : cellsz Try.prog 15 = some 1 := by kernel_rfl
theorem sc15 : scal Try.prog 15 = true := by kernel_rfl
theorem zv15 : zerov Try.prog 15 = some (.pointer none) := by kernel_rfl
theorem sz16 : cellsz Try.prog 16 = some 1 := by kernel_rfl
theorem sc16 : scal Try.prog 16 = true := by kernel_rfl
theorem zv16 : zerov Try.prog 16 = some (.pointer none) := by kernel_rfl
theorem sz17 : cellsz Try.prog 17 = some 1 := by kernel_rfl
theorem sc17 : scal Try.prog 17 = true := by kernel_rfl
theorem zv17 : zerov Try.prog 17 = some (.pointer none) := by kernel_rfl
theorem sz18 : cellsz Try.prog 18 = some 1 := by kernel_rfl
theorem ag18 : aggn Try.prog 18 1 = true := by kernel_rfl
theorem zv18 : zerov Try.prog 18 = some (.agg #[.pointer none]) := by kernel_rfl
theorem fa18_0 (g off : Nat) (w : World) : (Instr.fieldAt 18 (.pointer (some ⟨g, off, none⟩)) 0).run Try.prog w = .ok (.pointer (some ⟨g, off, none⟩)) w := by kernel_rfl
theorem sz19 : cellsz Try.prog 19 = some 1 := by kernel_rfl
theorem ag19 : aggn Try.prog 19 1 = true := by kernel_rfl
theorem zv19 : zerov Try.prog 19 = some (.agg #[.pointer none]) := by kernel_rfl
theorem fa19_0 (g off : Nat) (w : World) : (Instr.fieldAt 19 (.pointer (some ⟨g, off, none⟩)) 0).run Try.prog w = .ok (.pointer (some ⟨g, off, none⟩)) w := by kernel_rfl
theorem sz21 : cellsz Try.prog 21 = some 1 := by kernel_rfl
theorem sc21 : scal Try.prog 21 = true := by kernel_rfl
theorem zv21 : zerov Try.prog 21 = some (.int .i32 0) := by kernel_rfl
theorem sz22 : cellsz Try.prog 22 = some 1 := by kernel_rfl
theorem sc22 : scal Try.prog 22 = true := by kernel_rfl
theorem zv22 : zerov Try.prog 22 = some (.slice none 0 0) := by kernel_rfl
theorem sz23 : cellsz Try.prog 23 = some 1 := by kernel_rfl
theorem sc23 : scal Try.prog 23 = true := by kernel_rfl
theorem zv23 : zerov Try.prog 23 = some (.slice none 0 0) := by kernel_rfl
theorem sz24 : cellsz Try.prog 24 = some 1 := by kernel_rfl
theorem sc24 : scal Try.prog 24 = true := by kernel_rfl
theorem zv24 : zerov Try.prog 24 = some (.slice none 0 0) := by kernel_rfl
theorem sz25 : cellsz Try.prog 25 = some 3 := by kernel_rfl
theorem ag25 : aggn Try.prog 25 3 = true := by kernel_rfl
theorem zv25 : zerov Try.prog 25 = some (.agg #[.slice none 0 0, .slice none 0 0, .slice none 0 0]) := by kernel_rfl
theorem fa25_0 (g off : Nat) (w : World) : (Instr.fieldAt 25 (.pointer (some ⟨g, off, none⟩)) 0).run Try.prog w = .ok (.pointer (some ⟨g, off, none⟩)) w := by kernel_rfl
theorem fa25_1 (g off : Nat) (w : World) : (Instr.fieldAt 25 (.pointer (some ⟨g, off, none⟩)) 1).run Try.prog w = .ok (.pointer (some ⟨g, off + 1, none⟩)) w := by kernel_rfl
theorem fa25_2 (g off : Nat) (w : World) : (Instr.fieldAt 25 (.pointer (some ⟨g, off, none⟩)) 2).run Try.prog w = .ok (.pointer (some ⟨g, off + 2, none⟩)) w := by kernel_rfl
theorem sz26 : cellsz Try.prog 26 = some 3 := by kernel_rfl
theorem ag26 : aggn Try.prog 26 3 = true := by kernel_rfl
theorem zv26 : zerov Try.prog 26 = some (.agg #[.slice none 0 0, .slice none 0 0, .slice none 0 0]) := by kernel_rfl
theorem fa26_0 (g off : Nat) (w : World) : (Instr.fieldAt 26 (.pointer (some ⟨g, off, none⟩)) 0).run Try.prog w = .ok (.pointer (some ⟨g, off, none⟩)) w := by kernel_rfl
theorem fa26_1 (g off : Nat) (w : World) : (Instr.fieldAt 26 (.pointer (some ⟨g, off, none⟩)) 1).run Try.prog w = .ok (.pointer (some ⟨g, off + 1, none⟩)) w := by kernel_rfl
theorem fa26_2 (g off : Nat) (w : World) : (Instr.fieldAt 26 (.pointer (some ⟨g, off, none⟩)) 2).run Try.prog w = .ok (.pointer (some ⟨g, off + 2, none⟩)) w := by kernel_rfl
theorem sz27 : cellsz Try.prog 27 = some 1 := by kernel_rfl
theorem sc27 : scal Try.prog 27 = true := by kernel_rfl
theorem zv27 : zerov Try.prog 27 = some (.slice none 0 0) := by kernel_rfl
theorem sz28 : cellsz Try.prog 28 = some 1 := by kernel_rfl
theorem sc28 : scal Try.prog 28 = true := by kernel_rfl
theorem zv28 : zerov Try.prog 28 = some (.slice none 0 0) := by kernel_rfl
theorem sz29 : cellsz Try.prog 29 = some 1 := by kernel_rfl
theorem sc29 : scal Try.prog 29 = true := by kernel_rfl
theorem zv29 : zerov Try.prog 29 = some (.nilFunc) := by kernel_rfl
theorem sz30 : cellsz Try.prog 30 = some 1 := by kernel_rfl
theorem sc30 : scal Try.prog 30 = true := by kernel_rfl
theorem zv30 : zerov Try.prog 30 = some (.nilFunc) := by kernel_rfl
theorem sz31 : cellsz Try.prog 31 = some 1 := by kernel_rfl
theorem sc31 : scal Try.prog 31 = true := by kernel_rfl
theorem zv31 : zerov Try.prog 31 = some (.nilFunc) := by kernel_rfl
theorem sz32 : cellsz Try.prog 32 = some 1 := by kernel_rfl
theorem sc32 : scal Try.prog 32 = true := by kernel_rfl
theorem zv32 : zerov Try.prog 32 = some (.int .i64 0) := by kernel_rfl
theorem sz34 : cellsz Try.prog 34 = some 1 := by kernel_rfl
theorem sc34 : scal Try.prog 34 = true := by kernel_rfl
theorem zv34 : zerov Try.prog 34 = some (.nilFunc) := by kernel_rfl
theorem sz35 : cellsz Try.prog 35 = some 1 := by kernel_rfl
theorem sc35 : scal Try.prog 35 = true := by kernel_rfl
theorem zv35 : zerov Try.prog 35 = some (.nilFunc) := by kernel_rfl
theorem sz36 : cellsz Try.prog 36 = some 1 := by kernel_rfl
theorem sc36 : scal Try.prog 36 = true := by kernel_rfl
theorem zv36 : zerov Try.prog 36 = some (.nilFunc) := by kernel_rfl
theorem sz37 : cellsz Try.prog 37 = some 3 := by kernel_rfl
theorem ag37 : aggn Try.prog 37 3 = true := by kernel_rfl
theorem zv37 : zerov Try.prog 37 = some (.agg #[.int .i64 0, .int .i64 0, .int .i64 0]) := by kernel_rfl
theorem fa37_0 (g off : Nat) (w : World) : (Instr.fieldAt 37 (.pointer (some ⟨g, off, none⟩)) 0).run Try.prog w = .ok (.pointer (some ⟨g, off, none⟩)) w := by kernel_rfl
theorem fa37_1 (g off : Nat) (w : World) : (Instr.fieldAt 37 (.pointer (some ⟨g, off, none⟩)) 1).run Try.prog w = .ok (.pointer (some ⟨g, off + 1, none⟩)) w := by kernel_rfl
theorem fa37_2 (g off : Nat) (w : World) : (Instr.fieldAt 37 (.pointer (some ⟨g, off, none⟩)) 2).run Try.prog w = .ok (.pointer (some ⟨g, off + 2, none⟩)) w := by kernel_rfl
theorem sz38 : cellsz Try.prog 38 = some 3 := by kernel_rfl
theorem ag38 : aggn Try.prog 38 3 = true := by kernel_rfl
theorem zv38 : zerov Try.prog 38 = some (.agg #[.int .i64 0, .int .i64 0, .int .i64 0]) := by kernel_rfl
theorem fa38_0 (g off : Nat) (w : World) : (Instr.fieldAt 38 (.pointer (some ⟨g, off, none⟩)) 0).run Try.prog w = .ok (.pointer (some ⟨g, off, none⟩)) w := by kernel_rfl
theorem fa38_1 (g off : Nat) (w : World) : (Instr.fieldAt 38 (.pointer (some ⟨g, off, none⟩)) 1).run Try.prog w = .ok (.pointer (some ⟨g, off + 1, none⟩)) w := by kernel_rfl
theorem fa38_2 (g off : Nat) (w : World) : (Instr.fieldAt 38 (.pointer (some ⟨g, off, none⟩)) 2).run Try.prog w = .ok (.pointer (some ⟨g, off + 2, none⟩)) w := by kernel_rfl
theorem sz40 : cellsz Try.prog 40 = some 1 := by kernel_rfl
theorem sc40 : scal Try.prog 40 = true := by kernel_rfl
theorem zv40 : zerov Try.prog 40 = some (.nilFunc) := by kernel_rfl
theorem sz42 : cellsz Try.prog 42 = some 1 := by kernel_rfl
theorem sc42 : scal Try.prog 42 = true := by kernel_rfl
theorem zv42 : zerov Try.prog 42 = some (.nilFunc) := by kernel_rfl
theorem sz44 : cellsz Try.prog 44 = some 1 := by kernel_rfl
theorem sc44 : scal Try.prog 44 = true := by kernel_rfl
theorem zv44 : zerov Try.prog 44 = some (.nilFunc) := by kernel_rfl
theorem sz46 : cellsz Try.prog 46 = some 1 := by kernel_rfl
theorem sc46 : scal Try.prog 46 = true := by kernel_rfl
theorem zv46 : zerov Try.prog 46 = some (.nilFunc) := by kernel_rfl
theorem sz47 : cellsz Try.prog 47 = some 1 := by kernel_rfl
theorem sc47 : scal Try.prog 47 = true := by kernel_rfl
theorem zv47 : zerov Try.prog 47 = some (.nilFunc) := by kernel_rfl
theorem sz48 : cellsz Try.prog 48 = some 1 := by kernel_rfl
theorem sc48 : scal Try.prog 48 = true := by kernel_rfl
theorem zv48 : zerov Try.prog 48 = some (.nilFunc) := by kernel_rfl
theorem sz49 : cellsz Try.prog 49 = some 1 := by kernel_rfl
theorem sc49 : scal Try.prog 49 = true := by kernel_rfl
theorem zv49 : zerov Try.prog 49 = some (.nilFunc) := by kernel_rfl
theorem sz50 : cellsz Try.prog 50 = some 1 := by kernel_rfl
theorem sc50 : scal Try.prog 50 = true := by kernel_rfl
theorem zv50 : zerov Try.prog 50 = some (.nilFunc) := by kernel_rfl
theorem sz51 : cellsz Try.prog 51 = some 1 := by kernel_rfl
theorem sc51 : scal Try.prog 51 = true := by kernel_rfl
theorem zv51 : zerov Try.prog 51 = some (.nilFunc) := by kernel_rfl
theorem sz53 : cellsz Try.prog 53 = some 1 := by kernel_rfl
theorem sc53 : scal Try.prog 53 = true := by kernel_rfl
theorem zv53 : zerov Try.prog 53 = some (.nilFunc) := by kernel_rfl
theorem sz54 : cellsz Try.prog 54 = some 1 := by kernel_rfl
theorem sc54 : scal Try.prog 54 = true := by kernel_rfl
theorem zv54 : zerov Try.prog 54 = some (.nilFunc) := by kernel_rfl
theorem sz55 : cellsz Try.prog 55 = some 1 := by kernel_rfl
theorem sc55 : scal Try.prog 55 = true := by kernel_rfl
theorem zv55 : zerov Try.prog 55 = some (.nilFunc) := by kernel_rfl
theorem sz56 : cellsz Try.prog 56 = some 3 := by kernel_rfl
theorem ag56 : aggn Try.prog 56 3 = true := by kernel_rfl
theorem zv56 : zerov Try.prog 56 = some (.agg #[.int .i64 0, .slice none 0 0, .int .i64 0]) := by kernel_rfl
theorem fa56_0 (g off : Nat) (w : World) : (Instr.fieldAt 56 (.pointer (some ⟨g, off, none⟩)) 0).run Try.prog w = .ok (.pointer (some ⟨g, off, none⟩)) w := by kernel_rfl
theorem fa56_1 (g off : Nat) (w : World) : (Instr.fieldAt 56 (.pointer (some ⟨g, off, none⟩)) 1).run Try.prog w = .ok (.pointer (some ⟨g, off + 1, none⟩)) w := by kernel_rfl
theorem fa56_2 (g off : Nat) (w : World) : (Instr.fieldAt 56 (.pointer (some ⟨g, off, none⟩)) 2).run Try.prog w = .ok (.pointer (some ⟨g, off + 2, none⟩)) w := by kernel_rfl
theorem sz57 : cellsz Try.prog 57 = some 3 := by kernel_rfl
theorem ag57 : aggn Try.prog 57 3 = true := by kernel_rfl
theorem zv57 : zerov Try.prog 57 = some (.agg #[.int .i64 0, .slice none 0 0, .int .i64 0]) := by kernel_rfl
theorem fa57_0 (g off : Nat) (w : World) : (Instr.fieldAt 57 (.pointer (some ⟨g, off, none⟩)) 0).run Try.prog w = .ok (.pointer (some ⟨g, off, none⟩)) w := by kernel_rfl
theorem fa57_1 (g off : Nat) (w : World) : (Instr.fieldAt 57 (.pointer (some ⟨g, off, none⟩)) 1).run Try.prog w = .ok (.pointer (some ⟨g, off + 1, none⟩)) w := by kernel_rfl
theorem fa57_2 (g off : Nat) (w : World) : (Instr.fieldAt 57 (.pointer (some ⟨g, off, none⟩)) 2).run Try.prog w = .ok (.pointer (some ⟨g, off + 2, none⟩)) w := by kernel_rfl
theorem sz58 : cellsz Try.prog 58 = some 2 := by kernel_rfl
theorem ag58 : aggn Try.prog 58 2 = true := by kernel_rfl
theorem zv58 : zerov Try.prog 58 = some (.agg #[.int .i64 0, .int .i64 0]) := by kernel_rfl
theorem fa58_0 (g off : Nat) (w : World) : (Instr.fieldAt 58 (.pointer (some ⟨g, off, none⟩)) 0).run Try.prog w = .ok (.pointer (some ⟨g, off, none⟩)) w := by kernel_rfl
theorem fa58_1 (g off : Nat) (w : World) : (Instr.fieldAt 58 (.pointer (some ⟨g, off, none⟩)) 1).run Try.prog w = .ok (.pointer (some ⟨g, off + 1, none⟩)) w := by kernel_rfl
theorem sz59 : cellsz Try.prog 59 = some 2 := by kernel_rfl
theorem ag59 : aggn Try.prog 59 2 = true := by kernel_rfl
theorem zv59 : zerov Try.prog 59 = some (.agg #[.int .i64 0, .int .i64 0]) := by kernel_rfl
theorem fa59_0 (g off : Nat) (w : World) : (Instr.fieldAt 59 (.pointer (some ⟨g, off, none⟩)) 0).run Try.prog w = .ok (.pointer (some ⟨g, off, none⟩)) w := by kernel_rfl
theorem fa59_1 (g off : Nat) (w : World) : (Instr.fieldAt 59 (.pointer (some ⟨g, off, none⟩)) 1).run Try.prog w = .ok (.pointer (some ⟨g, off + 1, none⟩)) w := by kernel_rfl
theorem sz60 : cellsz Try.prog 60 = some 1 := by kernel_rfl
theorem sc60 : scal Try.prog 60 = true := by kernel_rfl
theorem zv60 : zerov Try.prog 60 = some (.nilFunc) := by kernel_rfl
theorem sz61 : cellsz Try.prog 61 = some 1 := by kernel_rfl
theorem sc61 : scal Try.prog 61 = true := by kernel_rfl
theorem zv61 : zerov Try.prog 61 = some (.slice none 0 0) := by kernel_rfl
theorem sz62 : cellsz Try.prog 62 = some 1 := by kernel_rfl
theorem sc62 : scal Try.prog 62 = true := by kernel_rfl
theorem zv62 : zerov Try.prog 62 = some (.slice none 0 0) := by kernel_rfl
theorem sz63 : cellsz Try.prog 63 = some 1 := by kernel_rfl
theorem sc63 : scal Try.prog 63 = true := by kernel_rfl
theorem zv63 : zerov Try.prog 63 = some (.nilFunc) := by kernel_rfl
theorem sz64 : cellsz Try.prog 64 = some 1 := by kernel_rfl
theorem sc64 : scal Try.prog 64 = true := by kernel_rfl
theorem zv64 : zerov Try.prog 64 = some (.nilFunc) := by kernel_rfl
theorem sz66 : cellsz Try.prog 66 = some 1 := by kernel_rfl
theorem sc66 : scal Try.prog 66 = true := by kernel_rfl
theorem zv66 : zerov Try.prog 66 = some (.nilFunc) := by kernel_rfl
theorem sz68 : cellsz Try.prog 68 = some 1 := by kernel_rfl
theorem sc68 : scal Try.prog 68 = true := by kernel_rfl
theorem zv68 : zerov Try.prog 68 = some (.nilFunc) := by kernel_rfl
theorem sz69 : cellsz Try.prog 69 = some 1 := by kernel_rfl
theorem sc69 : scal Try.prog 69 = true := by kernel_rfl
theorem zv69 : zerov Try.prog 69 = some (.nilFunc) := by kernel_rfl
theorem sz70 : cellsz Try.prog 70 = some 1 := by kernel_rfl
theorem sc70 : scal Try.prog 70 = true := by kernel_rfl
theorem zv70 : zerov Try.prog 70 = some (.nilFunc) := by kernel_rfl
theorem sz71 : cellsz Try.prog 71 = some 4 := by kernel_rfl
theorem ag71 : aggn Try.prog 71 4 = true := by kernel_rfl
theorem zv71 : zerov Try.prog 71 = some (.agg #[.int .i64 0, .int .i64 0, .int .i64 0, .int .i64 0]) := by kernel_rfl
theorem fa71_0 (g off : Nat) (w : World) : (Instr.fieldAt 71 (.pointer (some ⟨g, off, none⟩)) 0).run Try.prog w = .ok (.pointer (some ⟨g, off, none⟩)) w := by kernel_rfl
theorem fa71_1 (g off : Nat) (w : World) : (Instr.fieldAt 71 (.pointer (some ⟨g, off, none⟩)) 1).run Try.prog w = .ok (.pointer (some ⟨g, off + 1, none⟩)) w := by kernel_rfl
theorem fa71_2 (g off : Nat) (w : World) : (Instr.fieldAt 71 (.pointer (some ⟨g, off, none⟩)) 2).run Try.prog w = .ok (.pointer (some ⟨g, off + 2, none⟩)) w := by kernel_rfl
theorem fa71_3 (g off : Nat) (w : World) : (Instr.fieldAt 71 (.pointer (some ⟨g, off, none⟩)) 3).run Try.prog w = .ok (.pointer (some ⟨g, off + 3, none⟩)) w := by kernel_rfl
theorem sz72 : cellsz Try.prog 72 = some 4 := by kernel_rfl
theorem ag72 : aggn Try.prog 72 4 = true := by kernel_rfl
theorem zv72 : zerov Try.prog 72 = some (.agg #[.int .i64 0, .int .i64 0, .int .i64 0, .int .i64 0]) := by kernel_rfl
theorem fa72_0 (g off : Nat) (w : World) : (Instr.fieldAt 72 (.pointer (some ⟨g, off, none⟩)) 0).run Try.prog w = .ok (.pointer (some ⟨g, off, none⟩)) w := by kernel_rfl
theorem fa72_1 (g off : Nat) (w : World) : (Instr.fieldAt 72 (.pointer (some ⟨g, off, none⟩)) 1).run Try.prog w = .ok (.pointer (some ⟨g, off + 1, none⟩)) w := by kernel_rfl
theorem fa72_2 (g off : Nat) (w : World) : (Instr.fieldAt 72 (.pointer (some ⟨g, off, none⟩)) 2).run Try.prog w = .ok (.pointer (some ⟨g, off + 2, none⟩)) w := by kernel_rfl
theorem fa72_3 (g off : Nat) (w : World) : (Instr.fieldAt 72 (.pointer (some ⟨g, off, none⟩)) 3).run Try.prog w = .ok (.pointer (some ⟨g, off + 3, none⟩)) w := by kernel_rfl
theorem sz73 : cellsz Try.prog 73 = some 1 := by kernel_rfl
theorem sc73 : scal Try.prog 73 = true := by kernel_rfl
theorem zv73 : zerov Try.prog 73 = some (.nilFunc) := by kernel_rfl
theorem sz74 : cellsz Try.prog 74 = some 1 := by kernel_rfl
theorem sc74 : scal Try.prog 74 = true := by kernel_rfl
theorem zv74 : zerov Try.prog 74 = some (.slice none 0 0) := by kernel_rfl
theorem sz75 : cellsz Try.prog 75 = some 1 := by kernel_rfl
theorem sc75 : scal Try.prog 75 = true := by kernel_rfl
theorem zv75 : zerov Try.prog 75 = some (.nilFunc) := by kernel_rfl
theorem sz76 : cellsz Try.prog 76 = some 1 := by kernel_rfl
theorem sc76 : scal Try.prog 76 = true := by kernel_rfl
theorem zv76 : zerov Try.prog 76 = some (.nilFunc) := by kernel_rfl
theorem sz77 : cellsz Try.prog 77 = some 1 := by kernel_rfl
theorem sc77 : scal Try.prog 77 = true := by kernel_rfl
theorem zv77 : zerov Try.prog 77 = some (.nilFunc) := by kernel_rfl
theorem sz78 : cellsz Try.prog 78 = some 1 := by kernel_rfl
theorem sc78 : scal Try.prog 78 = true := by kernel_rfl
theorem zv78 : zerov Try.prog 78 = some (.nilFunc) := by kernel_rfl
theorem sz79 : cellsz Try.prog 79 = some 1 := by kernel_rfl
theorem sc79 : scal Try.prog 79 = true := by kernel_rfl
theorem zv79 : zerov Try.prog 79 = some (.nilFunc) := by kernel_rfl
theorem sz80 : cellsz Try.prog 80 = some 1 := by kernel_rfl
theorem sc80 : scal Try.prog 80 = true := by kernel_rfl
theorem zv80 : zerov Try.prog 80 = some (.nilFunc) := by kernel_rfl
theorem sz81 : cellsz Try.prog 81 = some 1 := by kernel_rfl
theorem sc81 : scal Try.prog 81 = true := by kernel_rfl
theorem zv81 : zerov Try.prog 81 = some (.nilFunc) := by kernel_rfl
theorem sz82 : cellsz Try.prog 82 = some 1 := by kernel_rfl
theorem sc82 : scal Try.prog 82 = true := by kernel_rfl
theorem zv82 : zerov Try.prog 82 = some (.nilFunc) := by kernel_rfl
theorem sz83 : cellsz Try.prog 83 = some 1 := by kernel_rfl
theorem sc83 : scal Try.prog 83 = true := by kernel_rfl
theorem zv83 : zerov Try.prog 83 = some (.nilFunc) := by kernel_rfl
theorem sz84 : cellsz Try.prog 84 = some 1 := by kernel_rfl
theorem sc84 : scal Try.prog 84 = true := by kernel_rfl
theorem zv84 : zerov Try.prog 84 = some (.nilFunc) := by kernel_rfl
theorem sz85 : cellsz Try.prog 85 = some 1 := by kernel_rfl
theorem sc85 : scal Try.prog 85 = true := by kernel_rfl
theorem zv85 : zerov Try.prog 85 = some (.nilFunc) := by kernel_rfl
theorem sz86 : cellsz Try.prog 86 = some 1 := by kernel_rfl
theorem sc86 : scal Try.prog 86 = true := by kernel_rfl
theorem zv86 : zerov Try.prog 86 = some (.nilFunc) := by kernel_rfl
theorem sz87 : cellsz Try.prog 87 = some 1 := by kernel_rfl
theorem sc87 : scal Try.prog 87 = true := by kernel_rfl
theorem zv87 : zerov Try.prog 87 = some (.nilFunc) := by kernel_rfl
theorem sz88 : cellsz Try.prog 88 = some 1 := by kernel_rfl
theorem sc88 : scal Try.prog 88 = true := by kernel_rfl
theorem zv88 : zerov Try.prog 88 = some (.nilFunc) := by kernel_rfl
theorem sz89 : cellsz Try.prog 89 = some 1 := by kernel_rfl
theorem sc89 : scal Try.prog 89 = true := by kernel_rfl
theorem zv89 : zerov Try.prog 89 = some (.nilFunc) := by kernel_rfl
theorem sz90 : cellsz Try.prog 90 = some 1 := by kernel_rfl
theorem sc90 : scal Try.prog 90 = true := by kernel_rfl
theorem zv90 : zerov Try.prog 90 = some (.nilFunc) := by kernel_rfl
theorem sz91 : cellsz Try.prog 91 = some 1 := by kernel_rfl
theorem sc91 : scal Try.prog 91 = true := by kernel_rfl
theorem zv91 : zerov Try.prog 91 = some (.nilFunc) := by kernel_rfl
theorem sz92 : cellsz Try.prog 92 = some 1 := by kernel_rfl
theorem sc92 : scal Try.prog 92 = true := by kernel_rfl
theorem zv92 : zerov Try.prog 92 = some (.nilFunc) := by kernel_rfl
theorem sz93 : cellsz Try.prog 93 = some 1 := by kernel_rfl
theorem sc93 : scal Try.prog 93 = true := by kernel_rfl
theorem zv93 : zerov Try.prog 93 = some (.nilFunc) := by kernel_rfl
theorem sz94 : cellsz Try.prog 94 = some 1 := by kernel_rfl
theorem sc94 : scal Try.prog 94 = true := by kernel_rfl
theorem zv94 : zerov Try.prog 94 = some (.nilFunc) := by kernel_rfl
theorem sz95 : cellsz Try.prog 95 = some 1 := by kernel_rfl
theorem sc95 : scal Try.prog 95 = true := by kernel_rfl
theorem zv95 : zerov Try.prog 95 = some (.nilFunc) := by kernel_rfl
theorem sz96 : cellsz Try.prog 96 = some 1 := by kernel_rfl
theorem sc96 : scal Try.prog 96 = true := by kernel_rfl
theorem zv96 : zerov Try.prog 96 = some (.nilFunc) := by kernel_rfl
theorem sz97 : cellsz Try.prog 97 = some 1 := by kernel_rfl
theorem sc97 : scal Try.prog 97 = true := by kernel_rfl
theorem zv97 : zerov Try.prog 97 = some (.nilFunc) := by kernel_rfl
theorem sz99 : cellsz Try.prog 99 = some 1 := by kernel_rfl
theorem sc99 : scal Try.prog 99 = true := by kernel_rfl
theorem zv99 : zerov Try.prog 99 = some (.nilFunc) := by kernel_rfl
theorem sz100 : cellsz Try.prog 100 = some 1 := by kernel_rfl
theorem sc100 : scal Try.prog 100 = true := by kernel_rfl
theorem zv100 : zerov Try.prog 100 = some (.nilFunc) := by kernel_rfl
theorem sz101 : cellsz Try.prog 101 = some 1 := by kernel_rfl
theorem sc101 : scal Try.prog 101 = true := by kernel_rfl
theorem zv101 : zerov Try.prog 101 = some (.nilFunc) := by kernel_rfl
theorem sz102 : cellsz Try.prog 102 = some 5 := by kernel_rfl
theorem ag102 : aggn Try.prog 102 5 = true := by kernel_rfl
theorem zv102 : zerov Try.prog 102 = some (.agg #[.slice none 0 0, .slice none 0 0, .slice none 0 0, .slice none 0 0, .slice none 0 0]) := by kernel_rfl
theorem fa102_0 (g off : Nat) (w : World) : (Instr.fieldAt 102 (.pointer (some ⟨g, off, none⟩)) 0).run Try.prog w = .ok (.pointer (some ⟨g, off, none⟩)) w := by kernel_rfl
theorem fa102_1 (g off : Nat) (w : World) : (Instr.fieldAt 102 (.pointer (some ⟨g, off, none⟩)) 1).run Try.prog w = .ok (.pointer (some ⟨g, off + 3, none⟩)) w := by kernel_rfl
theorem fa102_2 (g off : Nat) (w : World) : (Instr.fieldAt 102 (.pointer (some ⟨g, off, none⟩)) 2).run Try.prog w = .ok (.pointer (some ⟨g, off + 4, none⟩)) w := by kernel_rfl
theorem sz103 : cellsz Try.prog 103 = some 5 := by kernel_rfl
theorem ag103 : aggn Try.prog 103 5 = true := by kernel_rfl
theorem zv103 : zerov Try.prog 103 = some (.agg #[.slice none 0 0, .slice none 0 0, .slice none 0 0, .slice none 0 0, .slice none 0 0]) := by kernel_rfl
theorem fa103_0 (g off : Nat) (w : World) : (Instr.fieldAt 103 (.pointer (some ⟨g, off, none⟩)) 0).run Try.prog w = .ok (.pointer (some ⟨g, off, none⟩)) w := by kernel_rfl
theorem fa103_1 (g off : Nat) (w : World) : (Instr.fieldAt 103 (.pointer (some ⟨g, off, none⟩)) 1).run Try.prog w = .ok (.pointer (some ⟨g, off + 3, none⟩)) w := by kernel_rfl
theorem fa103_2 (g off : Nat) (w : World) : (Instr.fieldAt 103 (.pointer (some ⟨g, off, none⟩)) 2).run Try.prog w = .ok (.pointer (some ⟨g, off + 4, none⟩)) w := by kernel_rfl
theorem sz104 : cellsz Try.prog 104 = some 1 := by kernel_rfl
theorem sc104 : scal Try.prog 104 = true := by kernel_rfl
theorem zv104 : zerov Try.prog 104 = some (.nilFunc) := by kernel_rfl
theorem sz105 : cellsz Try.prog 105 = some 1 := by kernel_rfl
theorem sc105 : scal Try.prog 105 = true := by kernel_rfl
theorem zv105 : zerov Try.prog 105 = some (.nilFunc) := by kernel_rfl
theorem sz106 : cellsz Try.prog 106 = some 2 := by kernel_rfl
theorem ag106 : aggn Try.prog 106 2 = true := by kernel_rfl
theorem zv106 : zerov Try.prog 106 = some (.agg #[.nilFunc, .int .i64 0]) := by kernel_rfl
theorem fa106_0 (g off : Nat) (w : World) : (Instr.fieldAt 106 (.pointer (some ⟨g, off, none⟩)) 0).run Try.prog w = .ok (.pointer (some ⟨g, off, none⟩)) w := by kernel_rfl
theorem fa106_1 (g off : Nat) (w : World) : (Instr.fieldAt 106 (.pointer (some ⟨g, off, none⟩)) 1).run Try.prog w = .ok (.pointer (some ⟨g, off + 1, none⟩)) w := by kernel_rfl
theorem sz107 : cellsz Try.prog 107 = some 2 := by kernel_rfl
theorem ag107 : aggn Try.prog 107 2 = true := by kernel_rfl
theorem zv107 : zerov Try.prog 107 = some (.agg #[.nilFunc, .int .i64 0]) := by kernel_rfl
theorem fa107_0 (g off : Nat) (w : World) : (Instr.fieldAt 107 (.pointer (some ⟨g, off, none⟩)) 0).run Try.prog w = .ok (.pointer (some ⟨g, off, none⟩)) w := by kernel_rfl
theorem fa107_1 (g off : Nat) (w : World) : (Instr.fieldAt 107 (.pointer (some ⟨g, off, none⟩)) 1).run Try.prog w = .ok (.pointer (some ⟨g, off + 1, none⟩)) w := by kernel_rfl
theorem sz108 : cellsz Try.prog 108 = some 1 := by kernel_rfl
theorem sc108 : scal Try.prog 108 = true := by kernel_rfl
theorem zv108 : zerov Try.prog 108 = some (.slice none 0 0) := by kernel_rfl
theorem sz109 : cellsz Try.prog 109 = some 1 := by kernel_rfl
theorem sc109 : scal Try.prog 109 = true := by kernel_rfl
theorem zv109 : zerov Try.prog 109 = some (.nilFunc) := by kernel_rfl
theorem sz110 : cellsz Try.prog 110 = some 1 := by kernel_rfl
theorem sc110 : scal Try.prog 110 = true := by kernel_rfl
theorem zv110 : zerov Try.prog 110 = some (.nilFunc) := by kernel_rfl
theorem sz111 : cellsz Try.prog 111 = some 1 := by kernel_rfl
theorem sc111 : scal Try.prog 111 = true := by kernel_rfl
theorem zv111 : zerov Try.prog 111 = some (.nilFunc) := by kernel_rfl
theorem sz112 : cellsz Try.prog 112 = some 1 := by kernel_rfl
theorem sc112 : scal Try.prog 112 = true := by kernel_rfl
theorem zv112 : zerov Try.prog 112 = some (.nilFunc) := by kernel_rfl
theorem sz113 : cellsz Try.prog 113 = some 1 := by kernel_rfl
theorem sc113 : scal Try.prog 113 = true := by kernel_rfl
theorem zv113 : zerov Try.prog 113 = some (.nilFunc) := by kernel_rfl
theorem sz114 : cellsz Try.prog 114 = some 1 := by kernel_rfl
theorem sc114 : scal Try.prog 114 = true := by kernel_rfl
theorem zv114 : zerov Try.prog 114 = some (.nilFunc) := by kernel_rfl
theorem sz116 : cellsz Try.prog 116 = some 1 := by kernel_rfl
theorem sc116 : scal Try.prog 116 = true := by kernel_rfl
theorem zv116 : zerov Try.prog 116 = some (.nilFunc) := by kernel_rfl
theorem sz117 : cellsz Try.prog 117 = some 1 := by kernel_rfl
theorem sc117 : scal Try.prog 117 = true := by kernel_rfl
theorem zv117 : zerov Try.prog 117 = some (.nilFunc) := by kernel_rfl
theorem sz118 : cellsz Try.prog 118 = some 1 := by kernel_rfl
theorem sc118 : scal Try.prog 118 = true := by kernel_rfl
theorem zv118 : zerov Try.prog 118 = some (.nilFunc) := by kernel_rfl
theorem sz119 : cellsz Try.prog 119 = some 1 := by kernel_rfl
theorem sc119 : scal Try.prog 119 = true := by kernel_rfl
theorem zv119 : zerov Try.prog 119 = some (.nilFunc) := by kernel_rfl
theorem sz120 : cellsz Try.prog 120 = some 1 := by kernel_rfl
theorem sc120 : scal Try.prog 120 = true := by kernel_rfl
theorem zv120 : zerov Try.prog 120 = some (.slice none 0 0) := by kernel_rfl
theorem sz121 : cellsz Try.prog 121 = some 1 := by kernel_rfl
theorem sc121 : scal Try.prog 121 = true := by kernel_rfl
theorem zv121 : zerov Try.prog 121 = some (.nilFunc) := by kernel_rfl
theorem sz122 : cellsz Try.prog 122 = some 1 := by kernel_rfl
theorem sc122 : scal Try.prog 122 = true := by kernel_rfl
theorem zv122 : zerov Try.prog 122 = some (.nilFunc) := by kernel_rfl
theorem sz123 : cellsz Try.prog 123 = some 1 := by kernel_rfl
theorem sc123 : scal Try.prog 123 = true := by kernel_rfl
theorem zv123 : zerov Try.prog 123 = some (.pointer none) := by kernel_rfl
theorem sz124 : cellsz Try.prog 124 = some 1 := by kernel_rfl
theorem sc124 : scal Try.prog 124 = true := by kernel_rfl
theorem zv124 : zerov Try.prog 124 = some (.nilFunc) := by kernel_rfl
theorem sz125 : cellsz Try.prog 125 = some 1 := by kernel_rfl
theorem sc125 : scal Try.prog 125 = true := by kernel_rfl
theorem zv125 : zerov Try.prog 125 = some (.nilFunc) := by kernel_rfl
theorem sz126 : cellsz Try.prog 126 = some 1 := by kernel_rfl
theorem sc126 : scal Try.prog 126 = true := by kernel_rfl
theorem zv126 : zerov Try.prog 126 = some (.slice none 0 0) := by kernel_rfl
theorem sz127 : cellsz Try.prog 127 = some 8 := by kernel_rfl
theorem ag127 : aggn Try.prog 127 8 = true := by kernel_rfl
theorem zv127 : zerov Try.prog 127 = some (.agg #[.slice none 0 0, .slice none 0 0, .slice none 0 0, .slice none 0 0, .slice none 0 0, .slice none 0 0, .slice none 0 0, .bool false]) := by kernel_rfl
theorem fa127_0 (g off : Nat) (w : World) : (Instr.fieldAt 127 (.pointer (some ⟨g, off, none⟩)) 0).run Try.prog w = .ok (.pointer (some ⟨g, off, none⟩)) w := by kernel_rfl
theorem fa127_1 (g off : Nat) (w : World) : (Instr.fieldAt 127 (.pointer (some ⟨g, off, none⟩)) 1).run Try.prog w = .ok (.pointer (some ⟨g, off + 3, none⟩)) w := by kernel_rfl
theorem fa127_2 (g off : Nat) (w : World) : (Instr.fieldAt 127 (.pointer (some ⟨g, off, none⟩)) 2).run Try.prog w = .ok (.pointer (some ⟨g, off + 4, none⟩)) w := by kernel_rfl
theorem fa127_3 (g off : Nat) (w : World) : (Instr.fieldAt 127 (.pointer (some ⟨g, off, none⟩)) 3).run Try.prog w = .ok (.pointer (some ⟨g, off + 5, none⟩)) w := by kernel_rfl
theorem fa127_4 (g off : Nat) (w : World) : (Instr.fieldAt 127 (.pointer (some ⟨g, off, none⟩)) 4).run Try.prog w = .ok (.pointer (some ⟨g, off + 6, none⟩)) w := by kernel_rfl
theorem fa127_5 (g off : Nat) (w : World) : (Instr.fieldAt 127 (.pointer (some ⟨g, off, none⟩)) 5).run Try.prog w = .ok (.pointer (some ⟨g, off + 7, none⟩)) w := by kernel_rfl
theorem sz128 : cellsz Try.prog 128 = some 8 := by kernel_rfl
theorem ag128 : aggn Try.prog 128 8 = true := by kernel_rfl
theorem zv128 : zerov Try.prog 128 = some (.agg #[.slice none 0 0, .slice none 0 0, .slice none 0 0, .slice none 0 0, .slice none 0 0, .slice none 0 0, .slice none 0 0, .bool false]) := by kernel_rfl
theorem fa128_0 (g off : Nat) (w : World) : (Instr.fieldAt 128 (.pointer (some ⟨g, off, none⟩)) 0).run Try.prog w = .ok (.pointer (some ⟨g, off, none⟩)) w := by kernel_rfl
theorem fa128_1 (g off : Nat) (w : World) : (Instr.fieldAt 128 (.pointer (some ⟨g, off, none⟩)) 1).run Try.prog w = .ok (.pointer (some ⟨g, off + 3, none⟩)) w := by kernel_rfl
theorem fa128_2 (g off : Nat) (w : World) : (Instr.fieldAt 128 (.pointer (some ⟨g, off, none⟩)) 2).run Try.prog w = .ok (.pointer (some ⟨g, off + 4, none⟩)) w := by kernel_rfl
theorem fa128_3 (g off : Nat) (w : World) : (Instr.fieldAt 128 (.pointer (some ⟨g, off, none⟩)) 3).run Try.prog w = .ok (.pointer (some ⟨g, off + 5, none⟩)) w := by kernel_rfl
theorem fa128_4 (g off : Nat) (w : World) : (Instr.fieldAt 128 (.pointer (some ⟨g, off, none⟩)) 4).run Try.prog w = .ok (.pointer (some ⟨g, off + 6, none⟩)) w := by kernel_rfl
theorem fa128_5 (g off : Nat) (w : World) : (Instr.fieldAt 128 (.pointer (some ⟨g, off, none⟩)) 5).run Try.prog w = .ok (.pointer (some ⟨g, off + 7, none⟩)) w := by kernel_rfl
theorem sz129 : cellsz Try.prog 129 = some 1 := by kernel_rfl
theorem sc129 : scal Try.prog 129 = true := by kernel_rfl
theorem zv129 : zerov Try.prog 129 = some (.nilFunc) := by kernel_rfl
theorem sz130 : cellsz Try.prog 130 = some 1 := by kernel_rfl
theorem sc130 : scal Try.prog 130 = true := by kernel_rfl
theorem zv130 : zerov Try.prog 130 = some (.nilFunc) := by kernel_rfl
theorem sz131 : cellsz Try.prog 131 = some 2 := by kernel_rfl
theorem ag131 : aggn Try.prog 131 2 = true := by kernel_rfl
theorem zv131 : zerov Try.prog 131 = some (.agg #[.int .i64 0, .slice none 0 0]) := by kernel_rfl
theorem fa131_0 (g off : Nat) (w : World) : (Instr.fieldAt 131 (.pointer (some ⟨g, off, none⟩)) 0).run Try.prog w = .ok (.pointer (some ⟨g, off, none⟩)) w := by kernel_rfl
theorem fa131_1 (g off : Nat) (w : World) : (Instr.fieldAt 131 (.pointer (some ⟨g, off, none⟩)) 1).run Try.prog w = .ok (.pointer (some ⟨g, off + 1, none⟩)) w := by kernel_rfl
theorem sz132 : cellsz Try.prog 132 = some 2 := by kernel_rfl
theorem ag132 : aggn Try.prog 132 2 = true := by kernel_rfl
theorem zv132 : zerov Try.prog 132 = some (.agg #[.int .i64 0, .slice none 0 0]) := by kernel_rfl
theorem fa132_0 (g off : Nat) (w : World) : (Instr.fieldAt 132 (.pointer (some ⟨g, off, none⟩)) 0).run Try.prog w = .ok (.pointer (some ⟨g, off, none⟩)) w := by kernel_rfl
theorem fa132_1 (g off : Nat) (w : World) : (Instr.fieldAt 132 (.pointer (some ⟨g, off, none⟩)) 1).run Try.prog w = .ok (.pointer (some ⟨g, off + 1, none⟩)) w := by kernel_rfl
theorem sz133 : cellsz Try.prog 133 = some 4 := by kernel_rfl
theorem ag133 : aggn Try.prog 133 4 = true := by kernel_rfl
theorem zv133 : zerov Try.prog 133 = some (.agg #[.slice none 0 0, .int .i64 0, .int .i64 0, .int .i64 0]) := by kernel_rfl
theorem fa133_0 (g off : Nat) (w : World) : (Instr.fieldAt 133 (.pointer (some ⟨g, off, none⟩)) 0).run Try.prog w = .ok (.pointer (some ⟨g, off, none⟩)) w := by kernel_rfl
theorem fa133_1 (g off : Nat) (w : World) : (Instr.fieldAt 133 (.pointer (some ⟨g, off, none⟩)) 1).run Try.prog w = .ok (.pointer (some ⟨g, off + 1, none⟩)) w := by kernel_rfl
theorem fa133_2 (g off : Nat) (w : World) : (Instr.fieldAt 133 (.pointer (some ⟨g, off, none⟩)) 2).run Try.prog w = .ok (.pointer (some ⟨g, off + 2, none⟩)) w := by kernel_rfl
theorem fa133_3 (g off : Nat) (w : World) : (Instr.fieldAt 133 (.pointer (some ⟨g, off, none⟩)) 3).run Try.prog w = .ok (.pointer (some ⟨g, off + 3, none⟩)) w := by kernel_rfl
theorem sz134 : cellsz Try.prog 134 = some 4 := by kernel_rfl
theorem ag134 : aggn Try.prog 134 4 = true := by kernel_rfl
theorem zv134 : zerov Try.prog 134 = some (.agg #[.slice none 0 0, .int .i64 0, .int .i64 0, .int .i64 0]) := by kernel_rfl
theorem fa134_0 (g off : Nat) (w : World) : (Instr.fieldAt 134 (.pointer (some ⟨g, off, none⟩)) 0).run Try.prog w = .ok (.pointer (some ⟨g, off, none⟩)) w := by kernel_rfl
theorem fa134_1 (g off : Nat) (w : World) : (Instr.fieldAt 134 (.pointer (some ⟨g, off, none⟩)) 1).run Try.prog w = .ok (.pointer (some ⟨g, off + 1, none⟩)) w := by kernel_rfl
theorem fa134_2 (g off : Nat) (w : World) : (Instr.fieldAt 134 (.pointer (some ⟨g, off, none⟩)) 2).run Try.prog w = .ok (.pointer (some ⟨g, off + 2, none⟩)) w := by kernel_rfl
theorem fa134_3 (g off : Nat) (w : World) : (Instr.fieldAt 134 (.pointer (some ⟨g, off, none⟩)) 3).run Try.prog w = .ok (.pointer (some ⟨g, off + 3, none⟩)) w := by kernel_rfl
theorem sz135 : cellsz Try.prog 135 = some 1 := by kernel_rfl
theorem sc135 : scal Try.prog 135 = true := by kernel_rfl
theorem zv135 : zerov Try.prog 135 = some (.nilFunc) := by kernel_rfl
theorem sz136 : cellsz Try.prog 136 = some 1 := by kernel_rfl
theorem sc136 : scal Try.prog 136 = true := by kernel_rfl
theorem zv136 : zerov Try.prog 136 = some (.nilFunc) := by kernel_rfl
theorem sz137 : cellsz Try.prog 137 = some 1 := by kernel_rfl
theorem sc137 : scal Try.prog 137 = true := by kernel_rfl
theorem zv137 : zerov Try.prog 137 = some (.nilFunc) := by kernel_rfl
theorem sz138 : cellsz Try.prog 138 = some 1 := by kernel_rfl
theorem sc138 : scal Try.prog 138 = true := by kernel_rfl
theorem zv138 : zerov Try.prog 138 = some (.nilFunc) := by kernel_rfl
theorem sz139 : cellsz Try.prog 139 = some 1 := by kernel_rfl
theorem sc139 : scal Try.prog 139 = true := by kernel_rfl
theorem zv139 : zerov Try.prog 139 = some (.nilFunc) := by kernel_rfl
theorem sz140 : cellsz Try.prog 140 = some 1 := by kernel_rfl
theorem sc140 : scal Try.prog 140 = true := by kernel_rfl
theorem zv140 : zerov Try.prog 140 = some (.int .u64 0) := by kernel_rfl
theorem sz141 : cellsz Try.prog 141 = some 1 := by kernel_rfl
theorem sc141 : scal Try.prog 141 = true := by kernel_rfl
theorem zv141 : zerov Try.prog 141 = some (.nilFunc) := by kernel_rfl
theorem sz142 : cellsz Try.prog 142 = some 1 := by kernel_rfl
theorem sc142 : scal Try.prog 142 = true := by kernel_rfl
theorem zv142 : zerov Try.prog 142 = some (.nilFunc) := by kernel_rfl
theorem sz143 : cellsz Try.prog 143 = some 1 := by kernel_rfl
theorem sc143 : scal Try.prog 143 = true := by kernel_rfl
theorem zv143 : zerov Try.prog 143 = some (.nilFunc) := by kernel_rfl
theorem sz144 : cellsz Try.prog 144 = some 1 := by kernel_rfl
theorem sc144 : scal Try.prog 144 = true := by kernel_rfl
theorem zv144 : zerov Try.prog 144 = some (.nilFunc) := by kernel_rfl
theorem sz145 : cellsz Try.prog 145 = some 1 := by kernel_rfl
theorem sc145 : scal Try.prog 145 = true := by kernel_rfl
theorem zv145 : zerov Try.prog 145 = some (.nilFunc) := by kernel_rfl
theorem sz146 : cellsz Try.prog 146 = some 1 := by kernel_rfl
theorem sc146 : scal Try.prog 146 = true := by kernel_rfl
theorem zv146 : zerov Try.prog 146 = some (.nilFunc) := by kernel_rfl
theorem sz147 : cellsz Try.prog 147 = some 1 := by kernel_rfl
theorem sc147 : scal Try.prog 147 = true := by kernel_rfl
theorem zv147 : zerov Try.prog 147 = some (.nilFunc) := by kernel_rfl
theorem sz148 : cellsz Try.prog 148 = some 1 := by kernel_rfl
theorem sc148 : scal Try.prog 148 = true := by kernel_rfl
theorem zv148 : zerov Try.prog 148 = some (.nilFunc) := by kernel_rfl
theorem sz149 : cellsz Try.prog 149 = some 1 := by kernel_rfl
theorem sc149 : scal Try.prog 149 = true := by kernel_rfl
theorem zv149 : zerov Try.prog 149 = some (.nilFunc) := by kernel_rfl
theorem sz150 : cellsz Try.prog 150 = some 1 := by kernel_rfl
theorem sc150 : scal Try.prog 150 = true := by kernel_rfl
theorem zv150 : zerov Try.prog 150 = some (.nilFunc) := by kernel_rfl
theorem sz151 : cellsz Try.prog 151 = some 1 := by kernel_rfl
theorem sc151 : scal Try.prog 151 = true := by kernel_rfl
theorem zv151 : zerov Try.prog 151 = some (.nilFunc) := by kernel_rfl
theorem sz152 : cellsz Try.prog 152 = some 1 := by kernel_rfl
theorem sc152 : scal Try.prog 152 = true := by kernel_rfl
theorem zv152 : zerov Try.prog 152 = some (.nilFunc) := by kernel_rfl
theorem sz153 : cellsz Try.prog 153 = some 1 := by kernel_rfl
theorem sc153 : scal Try.prog 153 = true := by kernel_rfl
theorem zv153 : zerov Try.prog 153 = some (.nilFunc) := by kernel_rfl
theorem sz154 : cellsz Try.prog 154 = some 1 := by kernel_rfl
theorem sc154 : scal Try.prog 154 = true := by kernel_rfl
theorem zv154 : zerov Try.prog 154 = some (.nilFunc) := by kernel_rfl
theorem sz155 : cellsz Try.prog 155 = some 1 := by kernel_rfl
theorem sc155 : scal Try.prog 155 = true := by kernel_rfl
theorem zv155 : zerov Try.prog 155 = some (.nilFunc) := by kernel_rfl
theorem sz156 : cellsz Try.prog 156 = some 1 := by kernel_rfl
theorem sc156 : scal Try.prog 156 = true := by kernel_rfl
theorem zv156 : zerov Try.prog 156 = some (.nilFunc) := by kernel_rfl
theorem sz157 : cellsz Try.prog 157 = some 1 := by kernel_rfl
theorem sc157 : scal Try.prog 157 = true := by kernel_rfl
theorem zv157 : zerov Try.prog 157 = some (.nilFunc) := by kernel_rfl
theorem sz158 : cellsz Try.prog 158 = some 1 := by kernel_rfl
theorem sc158 : scal Try.prog 158 = true := by kernel_rfl
theorem zv158 : zerov Try.prog 158 = some (.nilFunc) := by kernel_rfl
theorem sz159 : cellsz Try.prog 159 = some 1 := by kernel_rfl
theorem sc159 : scal Try.prog 159 = true := by kernel_rfl
theorem zv159 : zerov Try.prog 159 = some (.nilFunc) := by kernel_rfl
theorem sz160 : cellsz Try.prog 160 = some 1 := by kernel_rfl
theorem sc160 : scal Try.prog 160 = true := by kernel_rfl
theorem zv160 : zerov Try.prog 160 = some (.nilFunc) := by kernel_rfl
theorem sz161 : cellsz Try.prog 161 = some 1 := by kernel_rfl
theorem sc161 : scal Try.prog 161 = true := by kernel_rfl
theorem zv161 : zerov Try.prog 161 = some (.nilFunc) := by kernel_rfl
theorem sz162 : cellsz Try.prog 162 = some 1 := by kernel_rfl
theorem sc162 : scal Try.prog 162 = true := by kernel_rfl
theorem zv162 : zerov Try.prog 162 = some (.nilFunc) := by kernel_rfl
theorem sz163 : cellsz Try.prog 163 = some 1 := by kernel_rfl
theorem sc163 : scal Try.prog 163 = true := by kernel_rfl
theorem zv163 : zerov Try.prog 163 = some (.nilFunc) := by kernel_rfl
theorem sz164 : cellsz Try.prog 164 = some 1 := by kernel_rfl
theorem sc164 : scal Try.prog 164 = true := by kernel_rfl
theorem zv164 : zerov Try.prog 164 = some (.nilFunc) := by kernel_rfl
theorem sz165 : cellsz Try.prog 165 = some 1 := by kernel_rfl
theorem sc165 : scal Try.prog 165 = true := by kernel_rfl
theorem zv165 : zerov Try.prog 165 = some (.nilFunc) := by kernel_rfl
theorem sz166 : cellsz Try.prog 166 = some 1 := by kernel_rfl
theorem sc166 : scal Try.prog 166 = true := by kernel_rfl
theorem zv166 : zerov Try.prog 166 = some (.nilFunc) := by kernel_rfl
theorem sz167 : cellsz Try.prog 167 = some 1 := by kernel_rfl
theorem sc167 : scal Try.prog 167 = true := by kernel_rfl
theorem zv167 : zerov Try.prog 167 = some (.nilFunc) := by kernel_rfl
theorem sz168 : cellsz Try.prog 168 = some 1 := by kernel_rfl
theorem sc168 : scal Try.prog 168 = true := by kernel_rfl
theorem zv168 : zerov Try.prog 168 = some (.nilFunc) := by kernel_rfl
theorem sz169 : cellsz Try.prog 169 = some 1 := by kernel_rfl
theorem sc169 : scal Try.prog 169 = true := by kernel_rfl
theorem zv169 : zerov Try.prog 169 = some (.nilFunc) := by kernel_rfl
theorem sz170 : cellsz Try.prog 170 = some 1 := by kernel_rfl
theorem sc170 : scal Try.prog 170 = true := by kernel_rfl
theorem zv170 : zerov Try.prog 170 = some (.nilFunc) := by kernel_rfl
theorem sz171 : cellsz Try.prog 171 = some 1 := by kernel_rfl
theorem sc171 : scal Try.prog 171 = true := by kernel_rfl
theorem zv171 : zerov Try.prog 171 = some (.nilFunc) := by kernel_rfl
theorem sz172 : cellsz Try.prog 172 = some 1 := by kernel_rfl
theorem sc172 : scal Try.prog 172 = true := by kernel_rfl
theorem zv172 : zerov Try.prog 172 = some (.int .i64 0) := by kernel_rfl
theorem sz174 : cellsz Try.prog 174 = some 1 := by kernel_rfl
theorem sc174 : scal Try.prog 174 = true := by kernel_rfl
theorem zv174 : zerov Try.prog 174 = some (.nilFunc) := by kernel_rfl
theorem sz175 : cellsz Try.prog 175 = some 1 := by kernel_rfl
theorem sc175 : scal Try.prog 175 = true := by kernel_rfl
theorem zv175 : zerov Try.prog 175 = some (.nilFunc) := by kernel_rfl
theorem sz176 : cellsz Try.prog 176 = some 1 := by kernel_rfl
theorem sc176 : scal Try.prog 176 = true := by kernel_rfl
theorem zv176 : zerov Try.prog 176 = some (.nilFunc) := by kernel_rfl
theorem sz177 : cellsz Try.prog 177 = some 1 := by kernel_rfl
theorem sc177 : scal Try.prog 177 = true := by kernel_rfl
theorem zv177 : zerov Try.prog 177 = some (.nilFunc) := by kernel_rfl
theorem sz179 : cellsz Try.prog 179 = some 1 := by kernel_rfl
theorem sc179 : scal Try.prog 179 = true := by kernel_rfl
theorem zv179 : zerov Try.prog 179 = some (.nilFunc) := by kernel_rfl
theorem sz180 : cellsz Try.prog 180 = some 1 := by kernel_rfl
theorem sc180 : scal Try.prog 180 = true := by kernel_rfl
theorem zv180 : zerov Try.prog 180 = some (.nilFunc) := by kernel_rfl
theorem sz181 : cellsz Try.prog 181 = some 1 := by kernel_rfl
theorem sc181 : scal Try.prog 181 = true := by kernel_rfl
theorem zv181 : zerov Try.prog 181 = some (.int .u32 0) := by kernel_rfl
theorem sz182 : cellsz Try.prog 182 = some 1 := by kernel_rfl
theorem sc182 : scal Try.prog 182 = true := by kernel_rfl
theorem zv182 : zerov Try.prog 182 = some (.nilFunc) := by kernel_rfl
theorem sz183 : cellsz Try.prog 183 = some 1 := by kernel_rfl
theorem sc183 : scal Try.prog 183 = true := by kernel_rfl
theorem zv183 : zerov Try.prog 183 = some (.int .u64 0) := by kernel_rfl
theorem sz184 : cellsz Try.prog 184 = some 1 := by kernel_rfl
theorem sc184 : scal Try.prog 184 = true := by kernel_rfl
theorem zv184 : zerov Try.prog 184 = some (.int .u64 0) := by kernel_rfl
theorem sz185 : cellsz Try.prog 185 = some 1 := by kernel_rfl
theorem sc185 : scal Try.prog 185 = true := by kernel_rfl
theorem zv185 : zerov Try.prog 185 = some (.nilFunc) := by kernel_rfl
theorem sz186 : cellsz Try.prog 186 = some 1 := by kernel_rfl
theorem sc186 : scal Try.prog 186 = true := by kernel_rfl
theorem zv186 : zerov Try.prog 186 = some (.nilFunc) := by kernel_rfl
theorem sz187 : cellsz Try.prog 187 = some 1 := by kernel_rfl
theorem sc187 : scal Try.prog 187 = true := by kernel_rfl
theorem zv187 : zerov Try.prog 187 = some (.nilFunc) := by kernel_rfl
theorem sz188 : cellsz Try.prog 188 = some 1 := by kernel_rfl
theorem sc188 : scal Try.prog 188 = true := by kernel_rfl
theorem zv188 : zerov Try.prog 188 = some (.pointer none) := by kernel_rfl
theorem sz189 : cellsz Try.prog 189 = some 1 := by kernel_rfl
theorem sc189 : scal Try.prog 189 = true := by kernel_rfl
theorem zv189 : zerov Try.prog 189 = some (.nilFunc) := by kernel_rfl
theorem sz190 : cellsz Try.prog 190 = some 1 := by kernel_rfl
theorem sc190 : scal Try.prog 190 = true := by kernel_rfl
theorem zv190 : zerov Try.prog 190 = some (.pointer none) := by kernel_rfl
theorem sz192 : cellsz Try.prog 192 = some 1 := by kernel_rfl
theorem sc192 : scal Try.prog 192 = true := by kernel_rfl
theorem zv192 : zerov Try.prog 192 = some (.nilFunc) := by kernel_rfl
theorem sz193 : cellsz Try.prog 193 = some 1 := by kernel_rfl
theorem sc193 : scal Try.prog 193 = true := by kernel_rfl
theorem zv193 : zerov Try.prog 193 = some (.nilFunc) := by kernel_rfl
theorem sz194 : cellsz Try.prog 194 = some 4 := by kernel_rfl
theorem ag194 : aggn Try.prog 194 4 = true := by kernel_rfl
theorem zv194 : zerov Try.prog 194 = some (.agg #[.pointer none, .pointer none, .pointer none, .string ⟨#[]⟩]) := by kernel_rfl
theorem fa194_0 (g off : Nat) (w : World) : (Instr.fieldAt 194 (.pointer (some ⟨g, off, none⟩)) 0).run Try.prog w = .ok (.pointer (some ⟨g, off, none⟩)) w := by kernel_rfl
theorem fa194_1 (g off : Nat) (w : World) : (Instr.fieldAt 194 (.pointer (some ⟨g, off, none⟩)) 1).run Try.prog w = .ok (.pointer (some ⟨g, off + 1, none⟩)) w := by kernel_rfl
theorem fa194_2 (g off : Nat) (w : World) : (Instr.fieldAt 194 (.pointer (some ⟨g, off, none⟩)) 2).run Try.prog w = .ok (.pointer (some ⟨g, off + 2, none⟩)) w := by kernel_rfl
theorem fa194_3 (g off : Nat) (w : World) : (Instr.fieldAt 194 (.pointer (some ⟨g, off, none⟩)) 3).run Try.prog w = .ok (.pointer (some ⟨g, off + 3, none⟩)) w := by kernel_rfl
theorem sz195 : cellsz Try.prog 195 = some 4 := by kernel_rfl
theorem ag195 : aggn Try.prog 195 4 = true := by kernel_rfl
theorem zv195 : zerov Try.prog 195 = some (.agg #[.pointer none, .pointer none, .pointer none, .string ⟨#[]⟩]) := by kernel_rfl
theorem fa195_0 (g off : Nat) (w : World) : (Instr.fieldAt 195 (.pointer (some ⟨g, off, none⟩)) 0).run Try.prog w = .ok (.pointer (some ⟨g, off, none⟩)) w := by kernel_rfl
theorem fa195_1 (g off : Nat) (w : World) : (Instr.fieldAt 195 (.pointer (some ⟨g, off, none⟩)) 1).run Try.prog w = .ok (.pointer (some ⟨g, off + 1, none⟩)) w := by kernel_rfl
theorem fa195_2 (g off : Nat) (w : World) : (Instr.fieldAt 195 (.pointer (some ⟨g, off, none⟩)) 2).run Try.prog w = .ok (.pointer (some ⟨g, off + 2, none⟩)) w := by kernel_rfl
theorem fa195_3 (g off : Nat) (w : World) : (Instr.fieldAt 195 (.pointer (some ⟨g, off, none⟩)) 3).run Try.prog w = .ok (.pointer (some ⟨g, off + 3, none⟩)) w := by kernel_rfl
theorem sz196 : cellsz Try.prog 196 = some 0 := by kernel_rfl
theorem ag196 : aggn Try.prog 196 0 = true := by kernel_rfl
theorem zv196 : zerov Try.prog 196 = some (.agg #[]) := by kernel_rfl
theorem sz197 : cellsz Try.prog 197 = some 0 := by kernel_rfl
theorem ag197 : aggn Try.prog 197 0 = true := by kernel_rfl
theorem zv197 : zerov Try.prog 197 = some (.agg #[]) := by kernel_rfl
theorem sz198 : cellsz Try.prog 198 = some 0 := by kernel_rfl
theorem ag198 : aggn Try.prog 198 0 = true := by kernel_rfl
theorem zv198 : zerov Try.prog 198 = some (.agg #[]) := by kernel_rfl
theorem sz199 : cellsz Try.prog 199 = some 1 := by kernel_rfl
theorem sc199 : scal Try.prog 199 = true := by kernel_rfl
theorem zv199 : zerov Try.prog 199 = some (.int .u8 0) := by kernel_rfl
theorem sz200 : cellsz Try.prog 200 = some 1 := by kernel_rfl
theorem sc200 : scal Try.prog 200 = true := by kernel_rfl
theorem zv200 : zerov Try.prog 200 = some (.int .u8 0) := by kernel_rfl
theorem sz201 : cellsz Try.prog 201 = some 1 := by kernel_rfl
theorem sc201 : scal Try.prog 201 = true := by kernel_rfl
theorem zv201 : zerov Try.prog 201 = some (.nilFunc) := by kernel_rfl
theorem sz202 : cellsz Try.prog 202 = some 1 := by kernel_rfl
theorem sc202 : scal Try.prog 202 = true := by kernel_rfl
theorem zv202 : zerov Try.prog 202 = some (.pointer none) := by kernel_rfl
theorem sz203 : cellsz Try.prog 203 = some 1 := by kernel_rfl
theorem sc203 : scal Try.prog 203 = true := by kernel_rfl
theorem zv203 : zerov Try.prog 203 = some (.int .i32 0) := by kernel_rfl
theorem sz204 : cellsz Try.prog 204 = some 1 := by kernel_rfl
theorem sc204 : scal Try.prog 204 = true := by kernel_rfl
theorem zv204 : zerov Try.prog 204 = some (.int .i32 0) := by kernel_rfl
theorem sz205 : cellsz Try.prog 205 = some 11 := by kernel_rfl
theorem ag205 : aggn Try.prog 205 11 = true := by kernel_rfl
theorem zv205 : zerov Try.prog 205 = some (.agg #[.int .u64 0, .int .u64 0, .int .u32 0, .int .u8 0, .int .u8 0, .int .u8 0, .int .u8 0, .nilFunc, .pointer none, .int .i32 0, .int .i32 0]) := by kernel_rfl
theorem fa205_0 (g off : Nat) (w : World) : (Instr.fieldAt 205 (.pointer (some ⟨g, off, none⟩)) 0).run Try.prog w = .ok (.pointer (some ⟨g, off, none⟩)) w := by kernel_rfl
theorem fa205_1 (g off : Nat) (w : World) : (Instr.fieldAt 205 (.pointer (some ⟨g, off, none⟩)) 1).run Try.prog w = .ok (.pointer (some ⟨g, off + 1, none⟩)) w := by kernel_rfl
theorem fa205_2 (g off : Nat) (w : World) : (Instr.fieldAt 205 (.pointer (some ⟨g, off, none⟩)) 2).run Try.prog w = .ok (.pointer (some ⟨g, off + 2, none⟩)) w := by kernel_rfl
theorem fa205_3 (g off : Nat) (w : World) : (Instr.fieldAt 205 (.pointer (some ⟨g, off, none⟩)) 3).run Try.prog w = .ok (.pointer (some ⟨g, off + 3, none⟩)) w := by kernel_rfl
theorem fa205_4 (g off : Nat) (w : World) : (Instr.fieldAt 205 (.pointer (some ⟨g, off, none⟩)) 4).run Try.prog w = .ok (.pointer (some ⟨g, off + 4, none⟩)) w := by kernel_rfl
theorem fa205_5 (g off : Nat) (w : World) : (Instr.fieldAt 205 (.pointer (some ⟨g, off, none⟩)) 5).run Try.prog w = .ok (.pointer (some ⟨g, off + 5, none⟩)) w := by kernel_rfl
theorem fa205_6 (g off : Nat) (w : World) : (Instr.fieldAt 205 (.pointer (some ⟨g, off, none⟩)) 6).run Try.prog w = .ok (.pointer (some ⟨g, off + 6, none⟩)) w := by kernel_rfl
theorem fa205_7 (g off : Nat) (w : World) : (Instr.fieldAt 205 (.pointer (some ⟨g, off, none⟩)) 7).run Try.prog w = .ok (.pointer (some ⟨g, off + 7, none⟩)) w := by kernel_rfl
theorem fa205_8 (g off : Nat) (w : World) : (Instr.fieldAt 205 (.pointer (some ⟨g, off, none⟩)) 8).run Try.prog w = .ok (.pointer (some ⟨g, off + 8, none⟩)) w := by kernel_rfl
theorem fa205_9 (g off : Nat) (w : World) : (Instr.fieldAt 205 (.pointer (some ⟨g, off, none⟩)) 9).run Try.prog w = .ok (.pointer (some ⟨g, off + 9, none⟩)) w := by kernel_rfl
theorem fa205_10 (g off : Nat) (w : World) : (Instr.fieldAt 205 (.pointer (some ⟨g, off, none⟩)) 10).run Try.prog w = .ok (.pointer (some ⟨g, off + 10, none⟩)) w := by kernel_rfl
theorem sz206 : cellsz Try.prog 206 = some 11 := by kernel_rfl
theorem ag206 : aggn Try.prog 206 11 = true := by kernel_rfl
theorem zv206 : zerov Try.prog 206 = some (.agg #[.int .u64 0, .int .u64 0, .int .u32 0, .int .u8 0, .int .u8 0, .int .u8 0, .int .u8 0, .nilFunc, .pointer none, .int .i32 0, .int .i32 0]) := by kernel_rfl
theorem fa206_0 (g off : Nat) (w : World) : (Instr.fieldAt 206 (.pointer (some ⟨g, off, none⟩)) 0).run Try.prog w = .ok (.pointer (some ⟨g, off, none⟩)) w := by kernel_rfl
theorem fa206_1 (g off : Nat) (w : World) : (Instr.fieldAt 206 (.pointer (some ⟨g, off, none⟩)) 1).run Try.prog w = .ok (.pointer (some ⟨g, off + 1, none⟩)) w := by kernel_rfl
theorem fa206_2 (g off : Nat) (w : World) : (Instr.fieldAt 206 (.pointer (some ⟨g, off, none⟩)) 2).run Try.prog w = .ok (.pointer (some ⟨g, off + 2, none⟩)) w := by kernel_rfl
theorem fa206_3 (g off : Nat) (w : World) : (Instr.fieldAt 206 (.pointer (some ⟨g, off, none⟩)) 3).run Try.prog w = .ok (.pointer (some ⟨g, off + 3, none⟩)) w := by kernel_rfl
theorem fa206_4 (g off : Nat) (w : World) : (Instr.fieldAt 206 (.pointer (some ⟨g, off, none⟩)) 4).run Try.prog w = .ok (.pointer (some ⟨g, off + 4, none⟩)) w := by kernel_rfl
theorem fa206_5 (g off : Nat) (w : World) : (Instr.fieldAt 206 (.pointer (some ⟨g, off, none⟩)) 5).run Try.prog w = .ok (.pointer (some ⟨g, off + 5, none⟩)) w := by kernel_rfl
theorem fa206_6 (g off : Nat) (w : World) : (Instr.fieldAt 206 (.pointer (some ⟨g, off, none⟩)) 6).run Try.prog w = .ok (.pointer (some ⟨g, off + 6, none⟩)) w := by kernel_rfl
theorem fa206_7 (g off : Nat) (w : World) : (Instr.fieldAt 206 (.pointer (some ⟨g, off, none⟩)) 7).run Try.prog w = .ok (.pointer (some ⟨g, off + 7, none⟩)) w := by kernel_rfl
theorem fa206_8 (g off : Nat) (w : World) : (Instr.fieldAt 206 (.pointer (some ⟨g, off, none⟩)) 8).run Try.prog w = .ok (.pointer (some ⟨g, off + 8, none⟩)) w := by kernel_rfl
theorem fa206_9 (g off : Nat) (w : World) : (Instr.fieldAt 206 (.pointer (some ⟨g, off, none⟩)) 9).run Try.prog w = .ok (.pointer (some ⟨g, off + 9, none⟩)) w := by kernel_rfl
theorem fa206_10 (g off : Nat) (w : World) : (Instr.fieldAt 206 (.pointer (some ⟨g, off, none⟩)) 10).run Try.prog w = .ok (.pointer (some ⟨g, off + 10, none⟩)) w := by kernel_rfl
theorem en2 : Enters Try.prog 2 := enters_of Try.func2 (by kernel_rfl) (by kernel_rfl)
theorem en3 : Enters Try.prog 3 := enters_of Try.func3 (by kernel_rfl) (by kernel_rfl)
theorem en4 : Enters Try.prog 4 := enters_of Try.func4 (by kernel_rfl) (by kernel_rfl)
theorem en5 : Enters Try.prog 5 := enters_of Try.func5 (by kernel_rfl) (by kernel_rfl)
theorem en6 : Enters Try.prog 6 := enters_of Try.func6 (by kernel_rfl) (by kernel_rfl)
theorem en7 : Enters Try.prog 7 := enters_of Try.func7 (by kernel_rfl) (by kernel_rfl)
theorem en8 : Enters Try.prog 8 := enters_of Try.func8 (by kernel_rfl) (by kernel_rfl)
theorem en9 : Enters Try.prog 9 := enters_of Try.func9 (by kernel_rfl) (by kernel_rfl)
theorem en10 : Enters Try.prog 10 := enters_of Try.func10 (by kernel_rfl) (by kernel_rfl)
theorem en11 : Enters Try.prog 11 := enters_of Try.func11 (by kernel_rfl) (by kernel_rfl)
theorem en12 : Enters Try.prog 12 := enters_of Try.func12 (by kernel_rfl) (by kernel_rfl)
theorem en13 : Enters Try.prog 13 := enters_of Try.func13 (by kernel_rfl) (by kernel_rfl)
theorem en14 : Enters Try.prog 14 := enters_of Try.func14 (by kernel_rfl) (by kernel_rfl)
theorem en15 : Enters Try.prog 15 := enters_of Try.func15 (by kernel_rfl) (by kernel_rfl)
theorem en16 : Enters Try.prog 16 := enters_of Try.func16 (by kernel_rfl) (by kernel_rfl)
theorem en17 : Enters Try.prog 17 := enters_of Try.func17 (by kernel_rfl) (by kernel_rfl)
theorem en18 : Enters Try.prog 18 := enters_of Try.func18 (by kernel_rfl) (by kernel_rfl)
theorem en19 : Enters Try.prog 19 := enters_of Try.func19 (by kernel_rfl) (by kernel_rfl)
theorem en20 : Enters Try.prog 20 := enters_of Try.func20 (by kernel_rfl) (by kernel_rfl)
theorem en21 : Enters Try.prog 21 := enters_of Try.func21 (by kernel_rfl) (by kernel_rfl)
theorem en22 : Enters Try.prog 22 := enters_of Try.func22 (by kernel_rfl) (by kernel_rfl)
theorem en23 : Enters Try.prog 23 := enters_of Try.func23 (by kernel_rfl) (by kernel_rfl)
theorem en24 : Enters Try.prog 24 := enters_of Try.func24 (by kernel_rfl) (by kernel_rfl)
theorem en25 : Enters Try.prog 25 := enters_of Try.func25 (by kernel_rfl) (by kernel_rfl)
theorem en26 : Enters Try.prog 26 := enters_of Try.func26 (by kernel_rfl) (by kernel_rfl)
theorem en27 : Enters Try.prog 27 := enters_of Try.func27 (by kernel_rfl) (by kernel_rfl)
theorem en28 : Enters Try.prog 28 := enters_of Try.func28 (by kernel_rfl) (by kernel_rfl)
theorem en29 : Enters Try.prog 29 := enters_of Try.func29 (by kernel_rfl) (by kernel_rfl)
theorem en30 : Enters Try.prog 30 := enters_of Try.func30 (by kernel_rfl) (by kernel_rfl)
theorem en31 : Enters Try.prog 31 := enters_of Try.func31 (by kernel_rfl) (by kernel_rfl)
theorem en32 : Enters Try.prog 32 := enters_of Try.func32 (by kernel_rfl) (by kernel_rfl)
theorem en33 : Enters Try.prog 33 := enters_of Try.func33 (by kernel_rfl) (by kernel_rfl)
theorem en34 : Enters Try.prog 34 := enters_of Try.func34 (by kernel_rfl) (by kernel_rfl)
theorem en35 : Enters Try.prog 35 := enters_of Try.func35 (by kernel_rfl) (by kernel_rfl)
theorem en36 : Enters Try.prog 36 := enters_of Try.func36 (by kernel_rfl) (by kernel_rfl)
theorem en37 : Enters Try.prog 37 := enters_of Try.func37 (by kernel_rfl) (by kernel_rfl)
theorem en38 : Enters Try.prog 38 := enters_of Try.func38 (by kernel_rfl) (by kernel_rfl)
theorem en39 : Enters Try.prog 39 := enters_of Try.func39 (by kernel_rfl) (by kernel_rfl)
theorem en40 : Enters Try.prog 40 := enters_of Try.func40 (by kernel_rfl) (by kernel_rfl)
theorem en41 : Enters Try.prog 41 := enters_of Try.func41 (by kernel_rfl) (by kernel_rfl)
theorem en42 : Enters Try.prog 42 := enters_of Try.func42 (by kernel_rfl) (by kernel_rfl)
theorem en43 : Enters Try.prog 43 := enters_of Try.func43 (by kernel_rfl) (by kernel_rfl)
theorem en44 : Enters Try.prog 44 := enters_of Try.func44 (by kernel_rfl) (by kernel_rfl)
theorem en45 : Enters Try.prog 45 := enters_of Try.func45 (by kernel_rfl) (by kernel_rfl)
theorem en46 : Enters Try.prog 46 := enters_of Try.func46 (by kernel_rfl) (by kernel_rfl)
theorem en47 : Enters Try.prog 47 := enters_of Try.func47 (by kernel_rfl) (by kernel_rfl)
theorem en48 : Enters Try.prog 48 := enters_of Try.func48 (by kernel_rfl) (by kernel_rfl)
theorem en49 : Enters Try.prog 49 := enters_of Try.func49 (by kernel_rfl) (by kernel_rfl)
theorem en50 : Enters Try.prog 50 := enters_of Try.func50 (by kernel_rfl) (by kernel_rfl)
theorem en51 : Enters Try.prog 51 := enters_of Try.func51 (by kernel_rfl) (by kernel_rfl)
theorem en52 : Enters Try.prog 52 := enters_of Try.func52 (by kernel_rfl) (by kernel_rfl)
theorem en53 : Enters Try.prog 53 := enters_of Try.func53 (by kernel_rfl) (by kernel_rfl)
theorem en54 : Enters Try.prog 54 := enters_of Try.func54 (by kernel_rfl) (by kernel_rfl)
theorem en55 : Enters Try.prog 55 := enters_of Try.func55 (by kernel_rfl) (by kernel_rfl)
theorem en56 : Enters Try.prog 56 := enters_of Try.func56 (by kernel_rfl) (by kernel_rfl)
theorem en57 : Enters Try.prog 57 := enters_of Try.func57 (by kernel_rfl) (by kernel_rfl)
theorem en58 : Enters Try.prog 58 := enters_of Try.func58 (by kernel_rfl) (by kernel_rfl)
theorem en59 : Enters Try.prog 59 := enters_of Try.func59 (by kernel_rfl) (by kernel_rfl)
theorem en60 : Enters Try.prog 60 := enters_of Try.func60 (by kernel_rfl) (by kernel_rfl)
theorem en61 : Enters Try.prog 61 := enters_of Try.func61 (by kernel_rfl) (by kernel_rfl)
theorem en62 : Enters Try.prog 62 := enters_of Try.func62 (by kernel_rfl) (by kernel_rfl)
theorem en63 : Enters Try.prog 63 := enters_of Try.func63 (by kernel_rfl) (by kernel_rfl)
theorem en64 : Enters Try.prog 64 := enters_of Try.func64 (by kernel_rfl) (by kernel_rfl)
theorem en65 : Enters Try.prog 65 := enters_of Try.func65 (by kernel_rfl) (by kernel_rfl)
theorem en66 : Enters Try.prog 66 := enters_of Try.func66 (by kernel_rfl) (by kernel_rfl)
theorem en67 : Enters Try.prog 67 := enters_of Try.func67 (by kernel_rfl) (by kernel_rfl)
theorem en68 : Enters Try.prog 68 := enters_of Try.func68 (by kernel_rfl) (by kernel_rfl)
theorem en69 : Enters Try.prog 69 := enters_of Try.func69 (by kernel_rfl) (by kernel_rfl)
theorem en70 : Enters Try.prog 70 := enters_of Try.func70 (by kernel_rfl) (by kernel_rfl)
theorem en71 : Enters Try.prog 71 := enters_of Try.func71 (by kernel_rfl) (by kernel_rfl)
theorem en72 : Enters Try.prog 72 := enters_of Try.func72 (by kernel_rfl) (by kernel_rfl)
theorem en73 : Enters Try.prog 73 := enters_of Try.func73 (by kernel_rfl) (by kernel_rfl)
theorem en74 : Enters Try.prog 74 := enters_of Try.func74 (by kernel_rfl) (by kernel_rfl)
theorem en75 : Enters Try.prog 75 := enters_of Try.func75 (by kernel_rfl) (by kernel_rfl)
theorem en76 : Enters Try.prog 76 := enters_of Try.func76 (by kernel_rfl) (by kernel_rfl)
theorem en77 : Enters Try.prog 77 := enters_of Try.func77 (by kernel_rfl) (by kernel_rfl)
theorem en78 : Enters Try.prog 78 := enters_of Try.func78 (by kernel_rfl) (by kernel_rfl)
theorem en79 : Enters Try.prog 79 := enters_of Try.func79 (by kernel_rfl) (by kernel_rfl)
theorem en80 : Enters Try.prog 80 := enters_of Try.func80 (by kernel_rfl) (by kernel_rfl)
theorem en81 : Enters Try.prog 81 := enters_of Try.func81 (by kernel_rfl) (by kernel_rfl)
theorem en82 : Enters Try.prog 82 := enters_of Try.func82 (by kernel_rfl) (by kernel_rfl)
theorem en83 : Enters Try.prog 83 := enters_of Try.func83 (by kernel_rfl) (by kernel_rfl)
theorem en84 : Enters Try.prog 84 := enters_of Try.func84 (by kernel_rfl) (by kernel_rfl)
theorem en85 : Enters Try.prog 85 := enters_of Try.func85 (by kernel_rfl) (by kernel_rfl)
theorem en86 : Enters Try.prog 86 := enters_of Try.func86 (by kernel_rfl) (by kernel_rfl)
theorem en87 : Enters Try.prog 87 := enters_of Try.func87 (by kernel_rfl) (by kernel_rfl)
theorem en88 : Enters Try.prog 88 := enters_of Try.func88 (by kernel_rfl) (by kernel_rfl)
theorem en89 : Enters Try.prog 89 := enters_of Try.func89 (by kernel_rfl) (by kernel_rfl)
theorem en90 : Enters Try.prog 90 := enters_of Try.func90 (by kernel_rfl) (by kernel_rfl)
theorem en91 : Enters Try.prog 91 := enters_of Try.func91 (by kernel_rfl) (by kernel_rfl)
theorem en92 : Enters Try.prog 92 := enters_of Try.func92 (by kernel_rfl) (by kernel_rfl)
theorem en93 : Enters Try.prog 93 := enters_of Try.func93 (by kernel_rfl) (by kernel_rfl)
theorem en94 : Enters Try.prog 94 := enters_of Try.func94 (by kernel_rfl) (by kernel_rfl)
theorem en95 : Enters Try.prog 95 := enters_of Try.func95 (by kernel_rfl) (by kernel_rfl)
theorem en96 : Enters Try.prog 96 := enters_of Try.func96 (by kernel_rfl) (by kernel_rfl)
theorem en97 : Enters Try.prog 97 := enters_of Try.func97 (by kernel_rfl) (by kernel_rfl)
theorem en98 : Enters Try.prog 98 := enters_of Try.func98 (by kernel_rfl) (by kernel_rfl)
theorem en99 : Enters Try.prog 99 := enters_of Try.func99 (by kernel_rfl) (by kernel_rfl)
theorem en100 : Enters Try.prog 100 := enters_of Try.func100 (by kernel_rfl) (by kernel_rfl)
theorem en101 : Enters Try.prog 101 := enters_of Try.func101 (by kernel_rfl) (by kernel_rfl)
theorem en102 : Enters Try.prog 102 := enters_of Try.func102 (by kernel_rfl) (by kernel_rfl)
theorem en103 : Enters Try.prog 103 := enters_of Try.func103 (by kernel_rfl) (by kernel_rfl)
theorem en104 : Enters Try.prog 104 := enters_of Try.func104 (by kernel_rfl) (by kernel_rfl)
theorem en105 : Enters Try.prog 105 := enters_of Try.func105 (by kernel_rfl) (by kernel_rfl)
theorem en106 : Enters Try.prog 106 := enters_of Try.func106 (by kernel_rfl) (by kernel_rfl)
theorem en107 : Enters Try.prog 107 := enters_of Try.func107 (by kernel_rfl) (by kernel_rfl)
theorem en108 : Enters Try.prog 108 := enters_of Try.func108 (by kernel_rfl) (by kernel_rfl)
theorem en109 : Enters Try.prog 109 := enters_of Try.func109 (by kernel_rfl) (by kernel_rfl)
theorem en110 : Enters Try.prog 110 := enters_of Try.func110 (by kernel_rfl) (by kernel_rfl)
theorem en111 : Enters Try.prog 111 := enters_of Try.func111 (by kernel_rfl) (by kernel_rfl)
theorem en112 : Enters Try.prog 112 := enters_of Try.func112 (by kernel_rfl) (by kernel_rfl)
theorem en113 : Enters Try.prog 113 := enters_of Try.func113 (by kernel_rfl) (by kernel_rfl)
theorem en114 : Enters Try.prog 114 := enters_of Try.func114 (by kernel_rfl) (by kernel_rfl)
theorem en115 : Enters Try.prog 115 := enters_of Try.func115 (by kernel_rfl) (by kernel_rfl)
theorem en116 : Enters Try.prog 116 := enters_of Try.func116 (by kernel_rfl) (by kernel_rfl)
theorem en117 : Enters Try.prog 117 := enters_of Try.func117 (by kernel_rfl) (by kernel_rfl)
theorem en118 : Enters Try.prog 118 := enters_of Try.func118 (by kernel_rfl) (by kernel_rfl)
theorem en119 : Enters Try.prog 119 := enters_of Try.func119 (by kernel_rfl) (by kernel_rfl)
theorem en120 : Enters Try.prog 120 := enters_of Try.func120 (by kernel_rfl) (by kernel_rfl)
theorem en121 : Enters Try.prog 121 := enters_of Try.func121 (by kernel_rfl) (by kernel_rfl)
theorem en122 : Enters Try.prog 122 := enters_of Try.func122 (by kernel_rfl) (by kernel_rfl)
theorem en123 : Enters Try.prog 123 := enters_of Try.func123 (by kernel_rfl) (by kernel_rfl)
theorem en124 : Enters Try.prog 124 := enters_of Try.func124 (by kernel_rfl) (by kernel_rfl)
theorem en125 : Enters Try.prog 125 := enters_of Try.func125 (by kernel_rfl) (by kernel_rfl)
theorem en126 : Enters Try.prog 126 := enters_of Try.func126 (by kernel_rfl) (by kernel_rfl)
theorem en127 : Enters Try.prog 127 := enters_of Try.func127 (by kernel_rfl) (by kernel_rfl)
theorem en128 : Enters Try.prog 128 := enters_of Try.func128 (by kernel_rfl) (by kernel_rfl)
theorem en129 : Enters Try.prog 129 := enters_of Try.func129 (by kernel_rfl) (by kernel_rfl)
theorem en130 : Enters Try.prog 130 := enters_of Try.func130 (by kernel_rfl) (by kernel_rfl)
theorem en131 : Enters Try.prog 131 := enters_of Try.func131 (by kernel_rfl) (by kernel_rfl)
theorem en132 : Enters Try.prog 132 := enters_of Try.func132 (by kernel_rfl) (by kernel_rfl)
theorem en133 : Enters Try.prog 133 := enters_of Try.func133 (by kernel_rfl) (by kernel_rfl)
theorem en134 : Enters Try.prog 134 := enters_of Try.func134 (by kernel_rfl) (by kernel_rfl)
theorem en135 : Enters Try.prog 135 := enters_of Try.func135 (by kernel_rfl) (by kernel_rfl)
theorem en136 : Enters Try.prog 136 := enters_of Try.func136 (by kernel_rfl) (by kernel_rfl)
theorem en137 : Enters Try.prog 137 := enters_of Try.func137 (by kernel_rfl) (by kernel_rfl)
theorem en138 : Enters Try.prog 138 := enters_of Try.func138 (by kernel_rfl) (by kernel_rfl)
theorem en139 : Enters Try.prog 139 := enters_of Try.func139 (by kernel_rfl) (by kernel_rfl)
theorem en140 : Enters Try.prog 140 := enters_of Try.func140 (by kernel_rfl) (by kernel_rfl)
theorem en141 : Enters Try.prog 141 := enters_of Try.func141 (by kernel_rfl) (by kernel_rfl)
theorem en142 : Enters Try.prog 142 := enters_of Try.func142 (by kernel_rfl) (by kernel_rfl)
theorem en143 : Enters Try.prog 143 := enters_of Try.func143 (by kernel_rfl) (by kernel_rfl)
theorem en144 : Enters Try.prog 144 := enters_of Try.func144 (by kernel_rfl) (by kernel_rfl)
theorem en145 : Enters Try.prog 145 := enters_of Try.func145 (by kernel_rfl) (by kernel_rfl)
theorem en146 : Enters Try.prog 146 := enters_of Try.func146 (by kernel_rfl) (by kernel_rfl)
theorem en147 : Enters Try.prog 147 := enters_of Try.func147 (by kernel_rfl) (by kernel_rfl)
theorem en148 : Enters Try.prog 148 := enters_of Try.func148 (by kernel_rfl) (by kernel_rfl)
theorem en149 : Enters Try.prog 149 := enters_of Try.func149 (by kernel_rfl) (by kernel_rfl)
theorem en150 : Enters Try.prog 150 := enters_of Try.func150 (by kernel_rfl) (by kernel_rfl)
theorem en151 : Enters Try.prog 151 := enters_of Try.func151 (by kernel_rfl) (by kernel_rfl)
theorem en152 : Enters Try.prog 152 := enters_of Try.func152 (by kernel_rfl) (by kernel_rfl)
theorem en153 : Enters Try.prog 153 := enters_of Try.func153 (by kernel_rfl) (by kernel_rfl)
theorem en154 : Enters Try.prog 154 := enters_of Try.func154 (by kernel_rfl) (by kernel_rfl)
theorem en155 : Enters Try.prog 155 := enters_of Try.func155 (by kernel_rfl) (by kernel_rfl)
theorem en156 : Enters Try.prog 156 := enters_of Try.func156 (by kernel_rfl) (by kernel_rfl)
theorem en157 : Enters Try.prog 157 := enters_of Try.func157 (by kernel_rfl) (by kernel_rfl)
theorem en158 : Enters Try.prog 158 := enters_of Try.func158 (by kernel_rfl) (by kernel_rfl)
end Go.Proofs.Ytdmkedbmoboamaa
