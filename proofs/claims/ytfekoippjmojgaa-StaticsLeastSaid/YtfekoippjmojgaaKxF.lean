/- What the program's tables say of its types and functions, asked of the kernel once. -/
import Derived.Test.YtfekoippjmojgaaProg
import Derived.KernelRfl
import Derived.Test.YtfekoippjmojgaaKxB
namespace Go.Proofs.Ytfekoippjmojgaa
open Go.Kx
theorem mixed : Try.prog.follows .mixedOrders = true := by kernel_rfl
theorem sz1 : cellsz Try.prog 1 = some 1 := by kernel_rfl
theorem sc1 : scal Try.prog 1 = true := by kernel_rfl
theorem zv1 : zerov Try.prog 1 = some (.nilFunc) := by kernel_rfl
theorem sz2 : cellsz Try.prog 2 = some 1 := by kernel_rfl
theorem sc2 : scal Try.prog 2 = true := by kernel_rfl
theorem zv2 : zerov Try.prog 2 = some (.int .i64 0) := by kernel_rfl
theorem sz3 : cellsz Try.prog 3 = some 1 := by kernel_rfl
theorem sc3 : scal Try.prog 3 = true := by kernel_rfl
theorem zv3 : zerov Try.prog 3 = some (.int .i64 0) := by kernel_rfl
theorem sz4 : cellsz Try.prog 4 = some 1 := by kernel_rfl
theorem sc4 : scal Try.prog 4 = true := by kernel_rfl
theorem zv4 : zerov Try.prog 4 = some (.bool false) := by kernel_rfl
theorem sz5 : cellsz Try.prog 5 = some 1 := by kernel_rfl
theorem sc5 : scal Try.prog 5 = true := by kernel_rfl
theorem zv5 : zerov Try.prog 5 = some (.int .u8 0) := by kernel_rfl
theorem sz6 : cellsz Try.prog 6 = some 1 := by kernel_rfl
theorem sc6 : scal Try.prog 6 = true := by kernel_rfl
theorem zv6 : zerov Try.prog 6 = some (.int .u8 0) := by kernel_rfl
theorem sz7 : cellsz Try.prog 7 = some 4 := by kernel_rfl
theorem ag7 : aggn Try.prog 7 4 = true := by kernel_rfl
theorem zv7 : zerov Try.prog 7 = some (.agg #[.int .i64 0, .int .i64 0, .bool false, .int .u8 0]) := by kernel_rfl
theorem fa7_0 (g off : Nat) (w : World) : (Instr.fieldAt 7 (.pointer (some ⟨g, off, none⟩)) 0).run Try.prog w = .ok (.pointer (some ⟨g, off, none⟩)) w := by kernel_rfl
theorem fa7_1 (g off : Nat) (w : World) : (Instr.fieldAt 7 (.pointer (some ⟨g, off, none⟩)) 1).run Try.prog w = .ok (.pointer (some ⟨g, off + 1, none⟩)) w := by kernel_rfl
theorem fa7_2 (g off : Nat) (w : World) : (Instr.fieldAt 7 (.pointer (some ⟨g, off, none⟩)) 2).run Try.prog w = .ok (.pointer (some ⟨g, off + 2, none⟩)) w := by kernel_rfl
theorem fa7_3 (g off : Nat) (w : World) : (Instr.fieldAt 7 (.pointer (some ⟨g, off, none⟩)) 3).run Try.prog w = .ok (.pointer (some ⟨g, off + 3, none⟩)) w := by kernel_rfl
theorem sz8 : cellsz Try.prog 8 = some 4 := by kernel_rfl
theorem ag8 : aggn Try.prog 8 4 = true := by kernel_rfl
theorem zv8 : zerov Try.prog 8 = some (.agg #[.int .i64 0, .int .i64 0, .bool false, .int .u8 0]) := by kernel_rfl
theorem fa8_0 (g off : Nat) (w : World) : (Instr.fieldAt 8 (.pointer (some ⟨g, off, none⟩)) 0).run Try.prog w = .ok (.pointer (some ⟨g, off, none⟩)) w := by kernel_rfl
theorem fa8_1 (g off : Nat) (w : World) : (Instr.fieldAt 8 (.pointer (some ⟨g, off, none⟩)) 1).run Try.prog w = .ok (.pointer (some ⟨g, off + 1, none⟩)) w := by kernel_rfl
theorem fa8_2 (g off : Nat) (w : World) : (Instr.fieldAt 8 (.pointer (some ⟨g, off, none⟩)) 2).run Try.prog w = .ok (.pointer (some ⟨g, off + 2, none⟩)) w := by kernel_rfl
theorem fa8_3 (g off : Nat) (w : World) : (Instr.fieldAt 8 (.pointer (some ⟨g, off, none⟩)) 3).run Try.prog w = .ok (.pointer (some ⟨g, off + 3, none⟩)) w := by kernel_rfl
theorem sz9 : cellsz Try.prog 9 = some 1 := by kernel_rfl
theorem sc9 : scal Try.prog 9 = true := by kernel_rfl
theorem zv9 : zerov Try.prog 9 = some (.string ⟨#[]⟩) := by kernel_rfl
theorem sz10 : cellsz Try.prog 10 = some 1 := by kernel_rfl
theorem sc10 : scal Try.prog 10 = true := by kernel_rfl
theorem zv10 : zerov Try.prog 10 = some (.string ⟨#[]⟩) := by kernel_rfl
theorem sz11 : cellsz Try.prog 11 = some 1 := by kernel_rfl
theorem sc11 : scal Try.prog 11 = true := by kernel_rfl
theorem zv11 : zerov Try.prog 11 = some (.string ⟨#[]⟩) := by kernel_rfl
theorem sz12 : cellsz Try.prog 12 = some 1 := by kernel_rfl
theorem sc12 : scal Try.prog 12 = true := by kernel_rfl
theorem zv12 : zerov Try.prog 12 = some (.int .u64 0) := by kernel_rfl
theorem sz13 : cellsz Try.prog 13 = some 2 := by kernel_rfl
theorem ag13 : aggn Try.prog 13 2 = true := by kernel_rfl
theorem zv13 : zerov Try.prog 13 = some (.agg #[.string ⟨#[]⟩, .int .u64 0]) := by kernel_rfl
theorem fa13_0 (g off : Nat) (w : World) : (Instr.fieldAt 13 (.pointer (some ⟨g, off, none⟩)) 0).run Try.prog w = .ok (.pointer (some ⟨g, off, none⟩)) w := by kernel_rfl
theorem fa13_1 (g off : Nat) (w : World) : (Instr.fieldAt 13 (.pointer (some ⟨g, off, none⟩)) 1).run Try.prog w = .ok (.pointer (some ⟨g, off + 1, none⟩)) w := by kernel_rfl
theorem sz14 : cellsz Try.prog 14 = some 2 := by kernel_rfl
theorem ag14 : aggn Try.prog 14 2 = true := by kernel_rfl
theorem zv14 : zerov Try.prog 14 = some (.agg #[.string ⟨#[]⟩, .int .u64 0]) := by kernel_rfl
theorem fa14_0 (g off : Nat) (w : World) : (Instr.fieldAt 14 (.pointer (some ⟨g, off, none⟩)) 0).run Try.prog w = .ok (.pointer (some ⟨g, off, none⟩)) w := by kernel_rfl
theorem fa14_1 (g off : Nat) (w : World) : (Instr.fieldAt 14 (.pointer (some ⟨g, off, none⟩)) 1).run Try.prog w = .ok (.pointer (some ⟨g, off + 1, none⟩)) w := by kernel_rfl
theorem sz15 : cellsz Try.prog 15 = some 1 := by kernel_rfl
theorem sc15 : scal Try.prog 15 = true := by kernel_rfl
theorem zv15 : zerov Try.prog 15 = some (.pointer none) := by kernel_rfl
theorem sz16 : cellsz Try.prog 16 = some 1 := by kernel_rfl
theorem sc16 : scal Try.prog 16 = true := by kernel_rfl
theorem zv16 : zerov Try.prog 16 = some (.pointer none) := by kernel_rfl
theorem sz17 : cellsz Try.prog 17 = some 1 := by kernel_rfl
theorem sc17 : scal Try.prog 17 = true := by kernel_rfl
theorem zv17 : zerov Try.prog 17 = some (.pointer none) := by kernel_rfl
theorem sz18 : cellsz Try.prog 18 = some 1 := by kernel_rfl
theorem ag18 : aggn Try.prog 18 1 = true := by kernel_rfl
theorem zv18 : zerov Try.prog 18 = some (.agg #[.pointer none]) := by kernel_rfl
theorem fa18_0 (g off : Nat) (w : World) : (Instr.fieldAt 18 (.pointer (some ⟨g, off, none⟩)) 0).run Try.prog w = .ok (.pointer (some ⟨g, off, none⟩)) w := by kernel_rfl
theorem sz19 : cellsz Try.prog 19 = some 1 := by kernel_rfl
theorem ag19 : aggn Try.prog 19 1 = true := by kernel_rfl
theorem zv19 : zerov Try.prog 19 = some (.agg #[.pointer none]) := by kernel_rfl
theorem fa19_0 (g off : Nat) (w : World) : (Instr.fieldAt 19 (.pointer (some ⟨g, off, none⟩)) 0).run Try.prog w = .ok (.pointer (some ⟨g, off, none⟩)) w := by kernel_rfl
theorem sz21 : cellsz Try.prog 21 = some 1 := by kernel_rfl
theorem sc21 : scal Try.prog 21 = true := by kernel_rfl
theorem zv21 : zerov Try.prog 21 = some (.int .i32 0) := by kernel_rfl
theorem sz22 : cellsz Try.prog 22 = some 1 := by kernel_rfl
theorem sc22 : scal Try.prog 22 = true := by kernel_rfl
theorem zv22 : zerov Try.prog 22 = some (.int .i64 0) := by kernel_rfl
theorem sz24 : cellsz Try.prog 24 = some 1 := by kernel_rfl
theorem sc24 : scal Try.prog 24 = true := by kernel_rfl
theorem zv24 : zerov Try.prog 24 = some (.nilFunc) := by kernel_rfl
theorem sz25 : cellsz Try.prog 25 = some 1 := by kernel_rfl
theorem sc25 : scal Try.prog 25 = true := by kernel_rfl
theorem zv25 : zerov Try.prog 25 = some (.nilFunc) := by kernel_rfl
theorem sz26 : cellsz Try.prog 26 = some 1 := by kernel_rfl
theorem sc26 : scal Try.prog 26 = true := by kernel_rfl
theorem zv26 : zerov Try.prog 26 = some (.nilFunc) := by kernel_rfl
theorem sz27 : cellsz Try.prog 27 = some 1 := by kernel_rfl
theorem sc27 : scal Try.prog 27 = true := by kernel_rfl
theorem zv27 : zerov Try.prog 27 = some (.slice none 0 0) := by kernel_rfl
theorem sz28 : cellsz Try.prog 28 = some 2 := by kernel_rfl
theorem ag28 : aggn Try.prog 28 2 = true := by kernel_rfl
theorem zv28 : zerov Try.prog 28 = some (.agg #[.int .i64 0, .int .i64 0]) := by kernel_rfl
theorem fa28_0 (g off : Nat) (w : World) : (Instr.fieldAt 28 (.pointer (some ⟨g, off, none⟩)) 0).run Try.prog w = .ok (.pointer (some ⟨g, off, none⟩)) w := by kernel_rfl
theorem fa28_1 (g off : Nat) (w : World) : (Instr.fieldAt 28 (.pointer (some ⟨g, off, none⟩)) 1).run Try.prog w = .ok (.pointer (some ⟨g, off + 1, none⟩)) w := by kernel_rfl
theorem sz29 : cellsz Try.prog 29 = some 2 := by kernel_rfl
theorem ag29 : aggn Try.prog 29 2 = true := by kernel_rfl
theorem zv29 : zerov Try.prog 29 = some (.agg #[.int .i64 0, .int .i64 0]) := by kernel_rfl
theorem fa29_0 (g off : Nat) (w : World) : (Instr.fieldAt 29 (.pointer (some ⟨g, off, none⟩)) 0).run Try.prog w = .ok (.pointer (some ⟨g, off, none⟩)) w := by kernel_rfl
theorem fa29_1 (g off : Nat) (w : World) : (Instr.fieldAt 29 (.pointer (some ⟨g, off, none⟩)) 1).run Try.prog w = .ok (.pointer (some ⟨g, off + 1, none⟩)) w := by kernel_rfl
theorem sz30 : cellsz Try.prog 30 = some 3 := by kernel_rfl
theorem ag30 : aggn Try.prog 30 3 = true := by kernel_rfl
theorem zv30 : zerov Try.prog 30 = some (.agg #[.int .i64 0, .int .i64 0, .int .i64 0]) := by kernel_rfl
theorem ia30_0 (g off : Nat) (w : World) : (Instr.indexAt 30 (.pointer (some ⟨g, off, none⟩)) (.int .i64 0)).run Try.prog w = .ok (.pointer (some ⟨g, off, none⟩)) w := by kernel_rfl
theorem ia30_1 (g off : Nat) (w : World) : (Instr.indexAt 30 (.pointer (some ⟨g, off, none⟩)) (.int .i64 1)).run Try.prog w = .ok (.pointer (some ⟨g, off + 1, none⟩)) w := by kernel_rfl
theorem ia30_2 (g off : Nat) (w : World) : (Instr.indexAt 30 (.pointer (some ⟨g, off, none⟩)) (.int .i64 2)).run Try.prog w = .ok (.pointer (some ⟨g, off + 2, none⟩)) w := by kernel_rfl
theorem sz31 : cellsz Try.prog 31 = some 9 := by kernel_rfl
theorem ag31 : aggn Try.prog 31 9 = true := by kernel_rfl
theorem zv31 : zerov Try.prog 31 = some (.agg #[.int .i64 0, .int .i64 0, .int .i64 0, .int .i64 0, .int .i64 0, .int .i64 0, .int .i64 0, .int .i64 0, .int .i64 0]) := by kernel_rfl
theorem ia31_0 (g off : Nat) (w : World) : (Instr.indexAt 31 (.pointer (some ⟨g, off, none⟩)) (.int .i64 0)).run Try.prog w = .ok (.pointer (some ⟨g, off, none⟩)) w := by kernel_rfl
theorem ia31_1 (g off : Nat) (w : World) : (Instr.indexAt 31 (.pointer (some ⟨g, off, none⟩)) (.int .i64 1)).run Try.prog w = .ok (.pointer (some ⟨g, off + 3, none⟩)) w := by kernel_rfl
theorem ia31_2 (g off : Nat) (w : World) : (Instr.indexAt 31 (.pointer (some ⟨g, off, none⟩)) (.int .i64 2)).run Try.prog w = .ok (.pointer (some ⟨g, off + 6, none⟩)) w := by kernel_rfl
theorem sz33 : cellsz Try.prog 33 = some 1 := by kernel_rfl
theorem sc33 : scal Try.prog 33 = true := by kernel_rfl
theorem zv33 : zerov Try.prog 33 = some (.nilFunc) := by kernel_rfl
theorem sz35 : cellsz Try.prog 35 = some 1 := by kernel_rfl
theorem sc35 : scal Try.prog 35 = true := by kernel_rfl
theorem zv35 : zerov Try.prog 35 = some (.nilFunc) := by kernel_rfl
theorem sz36 : cellsz Try.prog 36 = some 1 := by kernel_rfl
theorem sc36 : scal Try.prog 36 = true := by kernel_rfl
theorem zv36 : zerov Try.prog 36 = some (.nilFunc) := by kernel_rfl
theorem sz37 : cellsz Try.prog 37 = some 1 := by kernel_rfl
theorem sc37 : scal Try.prog 37 = true := by kernel_rfl
theorem zv37 : zerov Try.prog 37 = some (.nilFunc) := by kernel_rfl
theorem sz38 : cellsz Try.prog 38 = some 1 := by kernel_rfl
theorem sc38 : scal Try.prog 38 = true := by kernel_rfl
theorem zv38 : zerov Try.prog 38 = some (.int .u16 0) := by kernel_rfl
theorem sz40 : cellsz Try.prog 40 = some 1 := by kernel_rfl
theorem sc40 : scal Try.prog 40 = true := by kernel_rfl
theorem zv40 : zerov Try.prog 40 = some (.nilFunc) := by kernel_rfl
theorem sz41 : cellsz Try.prog 41 = some 1 := by kernel_rfl
theorem sc41 : scal Try.prog 41 = true := by kernel_rfl
theorem zv41 : zerov Try.prog 41 = some (.nilFunc) := by kernel_rfl
theorem sz43 : cellsz Try.prog 43 = some 1 := by kernel_rfl
theorem sc43 : scal Try.prog 43 = true := by kernel_rfl
theorem zv43 : zerov Try.prog 43 = some (.nilFunc) := by kernel_rfl
theorem sz44 : cellsz Try.prog 44 = some 1 := by kernel_rfl
theorem sc44 : scal Try.prog 44 = true := by kernel_rfl
theorem zv44 : zerov Try.prog 44 = some (.nilFunc) := by kernel_rfl
theorem sz45 : cellsz Try.prog 45 = some 1 := by kernel_rfl
theorem sc45 : scal Try.prog 45 = true := by kernel_rfl
theorem zv45 : zerov Try.prog 45 = some (.nilFunc) := by kernel_rfl
theorem sz46 : cellsz Try.prog 46 = some 2 := by kernel_rfl
theorem ag46 : aggn Try.prog 46 2 = true := by kernel_rfl
theorem zv46 : zerov Try.prog 46 = some (.agg #[.int .i64 0, .int .i64 0]) := by kernel_rfl
theorem fa46_0 (g off : Nat) (w : World) : (Instr.fieldAt 46 (.pointer (some ⟨g, off, none⟩)) 0).run Try.prog w = .ok (.pointer (some ⟨g, off, none⟩)) w := by kernel_rfl
theorem fa46_1 (g off : Nat) (w : World) : (Instr.fieldAt 46 (.pointer (some ⟨g, off, none⟩)) 1).run Try.prog w = .ok (.pointer (some ⟨g, off + 1, none⟩)) w := by kernel_rfl
theorem sz48 : cellsz Try.prog 48 = some 1 := by kernel_rfl
theorem sc48 : scal Try.prog 48 = true := by kernel_rfl
theorem zv48 : zerov Try.prog 48 = some (.nilFunc) := by kernel_rfl
theorem sz49 : cellsz Try.prog 49 = some 1 := by kernel_rfl
theorem sc49 : scal Try.prog 49 = true := by kernel_rfl
theorem zv49 : zerov Try.prog 49 = some (.nilFunc) := by kernel_rfl
theorem sz51 : cellsz Try.prog 51 = some 1 := by kernel_rfl
theorem sc51 : scal Try.prog 51 = true := by kernel_rfl
theorem zv51 : zerov Try.prog 51 = some (.nilFunc) := by kernel_rfl
theorem sz52 : cellsz Try.prog 52 = some 1 := by kernel_rfl
theorem sc52 : scal Try.prog 52 = true := by kernel_rfl
theorem zv52 : zerov Try.prog 52 = some (.nilFunc) := by kernel_rfl
theorem sz53 : cellsz Try.prog 53 = some 1 := by kernel_rfl
theorem sc53 : scal Try.prog 53 = true := by kernel_rfl
theorem zv53 : zerov Try.prog 53 = some (.nilFunc) := by kernel_rfl
theorem sz54 : cellsz Try.prog 54 = some 1 := by kernel_rfl
theorem sc54 : scal Try.prog 54 = true := by kernel_rfl
theorem zv54 : zerov Try.prog 54 = some (.slice none 0 0) := by kernel_rfl
theorem sz55 : cellsz Try.prog 55 = some 1 := by kernel_rfl
theorem sc55 : scal Try.prog 55 = true := by kernel_rfl
theorem zv55 : zerov Try.prog 55 = some (.nilFunc) := by kernel_rfl
theorem sz57 : cellsz Try.prog 57 = some 1 := by kernel_rfl
theorem sc57 : scal Try.prog 57 = true := by kernel_rfl
theorem zv57 : zerov Try.prog 57 = some (.nilFunc) := by kernel_rfl
theorem sz58 : cellsz Try.prog 58 = some 1 := by kernel_rfl
theorem sc58 : scal Try.prog 58 = true := by kernel_rfl
theorem zv58 : zerov Try.prog 58 = some (.nilFunc) := by kernel_rfl
theorem sz59 : cellsz Try.prog 59 = some 1 := by kernel_rfl
theorem sc59 : scal Try.prog 59 = true := by kernel_rfl
theorem zv59 : zerov Try.prog 59 = some (.nilFunc) := by kernel_rfl
theorem sz60 : cellsz Try.prog 60 = some 1 := by kernel_rfl
theorem sc60 : scal Try.prog 60 = true := by kernel_rfl
theorem zv60 : zerov Try.prog 60 = some (.slice none 0 0) := by kernel_rfl
theorem sz61 : cellsz Try.prog 61 = some 6 := by kernel_rfl
theorem ag61 : aggn Try.prog 61 6 = true := by kernel_rfl
theorem zv61 : zerov Try.prog 61 = some (.agg #[.int .i64 0, .int .i64 0, .int .i64 0, .int .i64 0, .int .i64 0, .int .i64 0]) := by kernel_rfl
theorem fa61_0 (g off : Nat) (w : World) : (Instr.fieldAt 61 (.pointer (some ⟨g, off, none⟩)) 0).run Try.prog w = .ok (.pointer (some ⟨g, off, none⟩)) w := by kernel_rfl
theorem fa61_1 (g off : Nat) (w : World) : (Instr.fieldAt 61 (.pointer (some ⟨g, off, none⟩)) 1).run Try.prog w = .ok (.pointer (some ⟨g, off + 1, none⟩)) w := by kernel_rfl
theorem fa61_2 (g off : Nat) (w : World) : (Instr.fieldAt 61 (.pointer (some ⟨g, off, none⟩)) 2).run Try.prog w = .ok (.pointer (some ⟨g, off + 2, none⟩)) w := by kernel_rfl
theorem fa61_3 (g off : Nat) (w : World) : (Instr.fieldAt 61 (.pointer (some ⟨g, off, none⟩)) 3).run Try.prog w = .ok (.pointer (some ⟨g, off + 3, none⟩)) w := by kernel_rfl
theorem fa61_4 (g off : Nat) (w : World) : (Instr.fieldAt 61 (.pointer (some ⟨g, off, none⟩)) 4).run Try.prog w = .ok (.pointer (some ⟨g, off + 4, none⟩)) w := by kernel_rfl
theorem fa61_5 (g off : Nat) (w : World) : (Instr.fieldAt 61 (.pointer (some ⟨g, off, none⟩)) 5).run Try.prog w = .ok (.pointer (some ⟨g, off + 5, none⟩)) w := by kernel_rfl
theorem sz62 : cellsz Try.prog 62 = some 6 := by kernel_rfl
theorem ag62 : aggn Try.prog 62 6 = true := by kernel_rfl
theorem zv62 : zerov Try.prog 62 = some (.agg #[.int .i64 0, .int .i64 0, .int .i64 0, .int .i64 0, .int .i64 0, .int .i64 0]) := by kernel_rfl
theorem fa62_0 (g off : Nat) (w : World) : (Instr.fieldAt 62 (.pointer (some ⟨g, off, none⟩)) 0).run Try.prog w = .ok (.pointer (some ⟨g, off, none⟩)) w := by kernel_rfl
theorem fa62_1 (g off : Nat) (w : World) : (Instr.fieldAt 62 (.pointer (some ⟨g, off, none⟩)) 1).run Try.prog w = .ok (.pointer (some ⟨g, off + 1, none⟩)) w := by kernel_rfl
theorem fa62_2 (g off : Nat) (w : World) : (Instr.fieldAt 62 (.pointer (some ⟨g, off, none⟩)) 2).run Try.prog w = .ok (.pointer (some ⟨g, off + 2, none⟩)) w := by kernel_rfl
theorem fa62_3 (g off : Nat) (w : World) : (Instr.fieldAt 62 (.pointer (some ⟨g, off, none⟩)) 3).run Try.prog w = .ok (.pointer (some ⟨g, off + 3, none⟩)) w := by kernel_rfl
theorem fa62_4 (g off : Nat) (w : World) : (Instr.fieldAt 62 (.pointer (some ⟨g, off, none⟩)) 4).run Try.prog w = .ok (.pointer (some ⟨g, off + 4, none⟩)) w := by kernel_rfl
theorem fa62_5 (g off : Nat) (w : World) : (Instr.fieldAt 62 (.pointer (some ⟨g, off, none⟩)) 5).run Try.prog w = .ok (.pointer (some ⟨g, off + 5, none⟩)) w := by kernel_rfl
theorem sz63 : cellsz Try.prog 63 = some 1 := by kernel_rfl
theorem sc63 : scal Try.prog 63 = true := by kernel_rfl
theorem zv63 : zerov Try.prog 63 = some (.int .i16 0) := by kernel_rfl
theorem sz64 : cellsz Try.prog 64 = some 1 := by kernel_rfl
theorem sc64 : scal Try.prog 64 = true := by kernel_rfl
theorem zv64 : zerov Try.prog 64 = some (.nilFunc) := by kernel_rfl
theorem sz65 : cellsz Try.prog 65 = some 1 := by kernel_rfl
theorem sc65 : scal Try.prog 65 = true := by kernel_rfl
theorem zv65 : zerov Try.prog 65 = some (.slice none 0 0) := by kernel_rfl
theorem sz66 : cellsz Try.prog 66 = some 1 := by kernel_rfl
theorem sc66 : scal Try.prog 66 = true := by kernel_rfl
theorem zv66 : zerov Try.prog 66 = some (.slice none 0 0) := by kernel_rfl
theorem sz67 : cellsz Try.prog 67 = some 4 := by kernel_rfl
theorem ag67 : aggn Try.prog 67 4 = true := by kernel_rfl
theorem zv67 : zerov Try.prog 67 = some (.agg #[.string ⟨#[]⟩, .slice none 0 0, .slice none 0 0, .int .i64 0]) := by kernel_rfl
theorem fa67_0 (g off : Nat) (w : World) : (Instr.fieldAt 67 (.pointer (some ⟨g, off, none⟩)) 0).run Try.prog w = .ok (.pointer (some ⟨g, off, none⟩)) w := by kernel_rfl
theorem fa67_1 (g off : Nat) (w : World) : (Instr.fieldAt 67 (.pointer (some ⟨g, off, none⟩)) 1).run Try.prog w = .ok (.pointer (some ⟨g, off + 1, none⟩)) w := by kernel_rfl
theorem fa67_2 (g off : Nat) (w : World) : (Instr.fieldAt 67 (.pointer (some ⟨g, off, none⟩)) 2).run Try.prog w = .ok (.pointer (some ⟨g, off + 2, none⟩)) w := by kernel_rfl
theorem fa67_3 (g off : Nat) (w : World) : (Instr.fieldAt 67 (.pointer (some ⟨g, off, none⟩)) 3).run Try.prog w = .ok (.pointer (some ⟨g, off + 3, none⟩)) w := by kernel_rfl
theorem sz68 : cellsz Try.prog 68 = some 4 := by kernel_rfl
theorem ag68 : aggn Try.prog 68 4 = true := by kernel_rfl
theorem zv68 : zerov Try.prog 68 = some (.agg #[.string ⟨#[]⟩, .slice none 0 0, .slice none 0 0, .int .i64 0]) := by kernel_rfl
theorem fa68_0 (g off : Nat) (w : World) : (Instr.fieldAt 68 (.pointer (some ⟨g, off, none⟩)) 0).run Try.prog w = .ok (.pointer (some ⟨g, off, none⟩)) w := by kernel_rfl
theorem fa68_1 (g off : Nat) (w : World) : (Instr.fieldAt 68 (.pointer (some ⟨g, off, none⟩)) 1).run Try.prog w = .ok (.pointer (some ⟨g, off + 1, none⟩)) w := by kernel_rfl
theorem fa68_2 (g off : Nat) (w : World) : (Instr.fieldAt 68 (.pointer (some ⟨g, off, none⟩)) 2).run Try.prog w = .ok (.pointer (some ⟨g, off + 2, none⟩)) w := by kernel_rfl
theorem fa68_3 (g off : Nat) (w : World) : (Instr.fieldAt 68 (.pointer (some ⟨g, off, none⟩)) 3).run Try.prog w = .ok (.pointer (some ⟨g, off + 3, none⟩)) w := by kernel_rfl
theorem sz69 : cellsz Try.prog 69 = some 1 := by kernel_rfl
theorem sc69 : scal Try.prog 69 = true := by kernel_rfl
theorem zv69 : zerov Try.prog 69 = some (.nilFunc) := by kernel_rfl
theorem sz70 : cellsz Try.prog 70 = some 1 := by kernel_rfl
theorem sc70 : scal Try.prog 70 = true := by kernel_rfl
theorem zv70 : zerov Try.prog 70 = some (.nilFunc) := by kernel_rfl
theorem sz71 : cellsz Try.prog 71 = some 1 := by kernel_rfl
theorem sc71 : scal Try.prog 71 = true := by kernel_rfl
theorem zv71 : zerov Try.prog 71 = some (.slice none 0 0) := by kernel_rfl
theorem sz72 : cellsz Try.prog 72 = some 2 := by kernel_rfl
theorem ag72 : aggn Try.prog 72 2 = true := by kernel_rfl
theorem zv72 : zerov Try.prog 72 = some (.agg #[.slice none 0 0, .int .i64 0]) := by kernel_rfl
theorem fa72_0 (g off : Nat) (w : World) : (Instr.fieldAt 72 (.pointer (some ⟨g, off, none⟩)) 0).run Try.prog w = .ok (.pointer (some ⟨g, off, none⟩)) w := by kernel_rfl
theorem fa72_1 (g off : Nat) (w : World) : (Instr.fieldAt 72 (.pointer (some ⟨g, off, none⟩)) 1).run Try.prog w = .ok (.pointer (some ⟨g, off + 1, none⟩)) w := by kernel_rfl
theorem sz73 : cellsz Try.prog 73 = some 2 := by kernel_rfl
theorem ag73 : aggn Try.prog 73 2 = true := by kernel_rfl
theorem zv73 : zerov Try.prog 73 = some (.agg #[.slice none 0 0, .int .i64 0]) := by kernel_rfl
theorem fa73_0 (g off : Nat) (w : World) : (Instr.fieldAt 73 (.pointer (some ⟨g, off, none⟩)) 0).run Try.prog w = .ok (.pointer (some ⟨g, off, none⟩)) w := by kernel_rfl
theorem fa73_1 (g off : Nat) (w : World) : (Instr.fieldAt 73 (.pointer (some ⟨g, off, none⟩)) 1).run Try.prog w = .ok (.pointer (some ⟨g, off + 1, none⟩)) w := by kernel_rfl
theorem sz75 : cellsz Try.prog 75 = some 1 := by kernel_rfl
theorem sc75 : scal Try.prog 75 = true := by kernel_rfl
theorem zv75 : zerov Try.prog 75 = some (.nilFunc) := by kernel_rfl
theorem sz76 : cellsz Try.prog 76 = some 1 := by kernel_rfl
theorem sc76 : scal Try.prog 76 = true := by kernel_rfl
theorem zv76 : zerov Try.prog 76 = some (.nilFunc) := by kernel_rfl
theorem sz77 : cellsz Try.prog 77 = some 1 := by kernel_rfl
theorem sc77 : scal Try.prog 77 = true := by kernel_rfl
theorem zv77 : zerov Try.prog 77 = some (.nilFunc) := by kernel_rfl
theorem sz78 : cellsz Try.prog 78 = some 1 := by kernel_rfl
theorem sc78 : scal Try.prog 78 = true := by kernel_rfl
theorem zv78 : zerov Try.prog 78 = some (.slice none 0 0) := by kernel_rfl
theorem sz79 : cellsz Try.prog 79 = some 1 := by kernel_rfl
theorem sc79 : scal Try.prog 79 = true := by kernel_rfl
theorem zv79 : zerov Try.prog 79 = some (.nilFunc) := by kernel_rfl
theorem sz80 : cellsz Try.prog 80 = some 1 := by kernel_rfl
theorem sc80 : scal Try.prog 80 = true := by kernel_rfl
theorem zv80 : zerov Try.prog 80 = some (.nilFunc) := by kernel_rfl
theorem sz81 : cellsz Try.prog 81 = some 1 := by kernel_rfl
theorem sc81 : scal Try.prog 81 = true := by kernel_rfl
theorem zv81 : zerov Try.prog 81 = some (.nilFunc) := by kernel_rfl
theorem sz82 : cellsz Try.prog 82 = some 3 := by kernel_rfl
theorem ag82 : aggn Try.prog 82 3 = true := by kernel_rfl
theorem zv82 : zerov Try.prog 82 = some (.agg #[.int .i64 0, .int .i64 0, .int .i64 0]) := by kernel_rfl
theorem fa82_0 (g off : Nat) (w : World) : (Instr.fieldAt 82 (.pointer (some ⟨g, off, none⟩)) 0).run Try.prog w = .ok (.pointer (some ⟨g, off, none⟩)) w := by kernel_rfl
theorem fa82_1 (g off : Nat) (w : World) : (Instr.fieldAt 82 (.pointer (some ⟨g, off, none⟩)) 1).run Try.prog w = .ok (.pointer (some ⟨g, off + 1, none⟩)) w := by kernel_rfl
theorem fa82_2 (g off : Nat) (w : World) : (Instr.fieldAt 82 (.pointer (some ⟨g, off, none⟩)) 2).run Try.prog w = .ok (.pointer (some ⟨g, off + 2, none⟩)) w := by kernel_rfl
theorem sz83 : cellsz Try.prog 83 = some 3 := by kernel_rfl
theorem ag83 : aggn Try.prog 83 3 = true := by kernel_rfl
theorem zv83 : zerov Try.prog 83 = some (.agg #[.int .i64 0, .int .i64 0, .int .i64 0]) := by kernel_rfl
theorem fa83_0 (g off : Nat) (w : World) : (Instr.fieldAt 83 (.pointer (some ⟨g, off, none⟩)) 0).run Try.prog w = .ok (.pointer (some ⟨g, off, none⟩)) w := by kernel_rfl
theorem fa83_1 (g off : Nat) (w : World) : (Instr.fieldAt 83 (.pointer (some ⟨g, off, none⟩)) 1).run Try.prog w = .ok (.pointer (some ⟨g, off + 1, none⟩)) w := by kernel_rfl
theorem fa83_2 (g off : Nat) (w : World) : (Instr.fieldAt 83 (.pointer (some ⟨g, off, none⟩)) 2).run Try.prog w = .ok (.pointer (some ⟨g, off + 2, none⟩)) w := by kernel_rfl
theorem sz84 : cellsz Try.prog 84 = some 1 := by kernel_rfl
theorem sc84 : scal Try.prog 84 = true := by kernel_rfl
theorem zv84 : zerov Try.prog 84 = some (.nilFunc) := by kernel_rfl
theorem sz85 : cellsz Try.prog 85 = some 1 := by kernel_rfl
theorem sc85 : scal Try.prog 85 = true := by kernel_rfl
theorem zv85 : zerov Try.prog 85 = some (.pointer none) := by kernel_rfl
theorem sz87 : cellsz Try.prog 87 = some 1 := by kernel_rfl
theorem sc87 : scal Try.prog 87 = true := by kernel_rfl
theorem zv87 : zerov Try.prog 87 = some (.nilFunc) := by kernel_rfl
theorem sz88 : cellsz Try.prog 88 = some 9 := by kernel_rfl
theorem ag88 : aggn Try.prog 88 9 = true := by kernel_rfl
theorem zv88 : zerov Try.prog 88 = some (.agg #[.int .i64 0, .int .i64 0, .int .i64 0, .int .i64 0, .int .i64 0, .int .i64 0, .int .i64 0, .int .i64 0, .int .i64 0]) := by kernel_rfl
theorem ia88_0 (g off : Nat) (w : World) : (Instr.indexAt 88 (.pointer (some ⟨g, off, none⟩)) (.int .i64 0)).run Try.prog w = .ok (.pointer (some ⟨g, off, none⟩)) w := by kernel_rfl
theorem ia88_1 (g off : Nat) (w : World) : (Instr.indexAt 88 (.pointer (some ⟨g, off, none⟩)) (.int .i64 1)).run Try.prog w = .ok (.pointer (some ⟨g, off + 3, none⟩)) w := by kernel_rfl
theorem ia88_2 (g off : Nat) (w : World) : (Instr.indexAt 88 (.pointer (some ⟨g, off, none⟩)) (.int .i64 2)).run Try.prog w = .ok (.pointer (some ⟨g, off + 6, none⟩)) w := by kernel_rfl
theorem sz89 : cellsz Try.prog 89 = some 11 := by kernel_rfl
theorem ag89 : aggn Try.prog 89 11 = true := by kernel_rfl
theorem zv89 : zerov Try.prog 89 = some (.agg #[.slice none 0 0, .int .i64 0, .int .i64 0, .int .i64 0, .int .i64 0, .int .i64 0, .int .i64 0, .int .i64 0, .int .i64 0, .int .i64 0, .int .i64 0]) := by kernel_rfl
theorem fa89_0 (g off : Nat) (w : World) : (Instr.fieldAt 89 (.pointer (some ⟨g, off, none⟩)) 0).run Try.prog w = .ok (.pointer (some ⟨g, off, none⟩)) w := by kernel_rfl
theorem fa89_1 (g off : Nat) (w : World) : (Instr.fieldAt 89 (.pointer (some ⟨g, off, none⟩)) 1).run Try.prog w = .ok (.pointer (some ⟨g, off + 1, none⟩)) w := by kernel_rfl
theorem fa89_2 (g off : Nat) (w : World) : (Instr.fieldAt 89 (.pointer (some ⟨g, off, none⟩)) 2).run Try.prog w = .ok (.pointer (some ⟨g, off + 10, none⟩)) w := by kernel_rfl
theorem sz90 : cellsz Try.prog 90 = some 11 := by kernel_rfl
theorem ag90 : aggn Try.prog 90 11 = true := by kernel_rfl
theorem zv90 : zerov Try.prog 90 = some (.agg #[.slice none 0 0, .int .i64 0, .int .i64 0, .int .i64 0, .int .i64 0, .int .i64 0, .int .i64 0, .int .i64 0, .int .i64 0, .int .i64 0, .int .i64 0]) := by kernel_rfl
theorem fa90_0 (g off : Nat) (w : World) : (Instr.fieldAt 90 (.pointer (some ⟨g, off, none⟩)) 0).run Try.prog w = .ok (.pointer (some ⟨g, off, none⟩)) w := by kernel_rfl
theorem fa90_1 (g off : Nat) (w : World) : (Instr.fieldAt 90 (.pointer (some ⟨g, off, none⟩)) 1).run Try.prog w = .ok (.pointer (some ⟨g, off + 1, none⟩)) w := by kernel_rfl
theorem fa90_2 (g off : Nat) (w : World) : (Instr.fieldAt 90 (.pointer (some ⟨g, off, none⟩)) 2).run Try.prog w = .ok (.pointer (some ⟨g, off + 10, none⟩)) w := by kernel_rfl
theorem sz91 : cellsz Try.prog 91 = some 1 := by kernel_rfl
theorem sc91 : scal Try.prog 91 = true := by kernel_rfl
theorem zv91 : zerov Try.prog 91 = some (.nilFunc) := by kernel_rfl
theorem sz92 : cellsz Try.prog 92 = some 1 := by kernel_rfl
theorem sc92 : scal Try.prog 92 = true := by kernel_rfl
theorem zv92 : zerov Try.prog 92 = some (.nilFunc) := by kernel_rfl
theorem sz93 : cellsz Try.prog 93 = some 1 := by kernel_rfl
theorem sc93 : scal Try.prog 93 = true := by kernel_rfl
theorem zv93 : zerov Try.prog 93 = some (.nilFunc) := by kernel_rfl
theorem sz95 : cellsz Try.prog 95 = some 1 := by kernel_rfl
theorem sc95 : scal Try.prog 95 = true := by kernel_rfl
theorem zv95 : zerov Try.prog 95 = some (.nilFunc) := by kernel_rfl
theorem sz96 : cellsz Try.prog 96 = some 1 := by kernel_rfl
theorem sc96 : scal Try.prog 96 = true := by kernel_rfl
theorem zv96 : zerov Try.prog 96 = some (.nilFunc) := by kernel_rfl
theorem sz97 : cellsz Try.prog 97 = some 1 := by kernel_rfl
theorem sc97 : scal Try.prog 97 = true := by kernel_rfl
theorem zv97 : zerov Try.prog 97 = some (.nilFunc) := by kernel_rfl
theorem sz98 : cellsz Try.prog 98 = some 1 := by kernel_rfl
theorem sc98 : scal Try.prog 98 = true := by kernel_rfl
theorem zv98 : zerov Try.prog 98 = some (.nilFunc) := by kernel_rfl
theorem sz99 : cellsz Try.prog 99 = some 1 := by kernel_rfl
theorem sc99 : scal Try.prog 99 = true := by kernel_rfl
theorem zv99 : zerov Try.prog 99 = some (.nilFunc) := by kernel_rfl
theorem sz100 : cellsz Try.prog 100 = some 1 := by kernel_rfl
theorem sc100 : scal Try.prog 100 = true := by kernel_rfl
theorem zv100 : zerov Try.prog 100 = some (.nilFunc) := by kernel_rfl
theorem sz101 : cellsz Try.prog 101 = some 1 := by kernel_rfl
theorem sc101 : scal Try.prog 101 = true := by kernel_rfl
theorem zv101 : zerov Try.prog 101 = some (.nilFunc) := by kernel_rfl
theorem sz102 : cellsz Try.prog 102 = some 1 := by kernel_rfl
theorem sc102 : scal Try.prog 102 = true := by kernel_rfl
theorem zv102 : zerov Try.prog 102 = some (.nilFunc) := by kernel_rfl
theorem sz103 : cellsz Try.prog 103 = some 1 := by kernel_rfl
theorem sc103 : scal Try.prog 103 = true := by kernel_rfl
theorem zv103 : zerov Try.prog 103 = some (.nilFunc) := by kernel_rfl
theorem sz104 : cellsz Try.prog 104 = some 1 := by kernel_rfl
theorem sc104 : scal Try.prog 104 = true := by kernel_rfl
theorem zv104 : zerov Try.prog 104 = some (.nilFunc) := by kernel_rfl
theorem sz105 : cellsz Try.prog 105 = some 1 := by kernel_rfl
theorem sc105 : scal Try.prog 105 = true := by kernel_rfl
theorem zv105 : zerov Try.prog 105 = some (.nilFunc) := by kernel_rfl
theorem sz106 : cellsz Try.prog 106 = some 1 := by kernel_rfl
theorem sc106 : scal Try.prog 106 = true := by kernel_rfl
theorem zv106 : zerov Try.prog 106 = some (.nilFunc) := by kernel_rfl
theorem sz107 : cellsz Try.prog 107 = some 1 := by kernel_rfl
theorem sc107 : scal Try.prog 107 = true := by kernel_rfl
theorem zv107 : zerov Try.prog 107 = some (.nilFunc) := by kernel_rfl
theorem sz109 : cellsz Try.prog 109 = some 1 := by kernel_rfl
theorem sc109 : scal Try.prog 109 = true := by kernel_rfl
theorem zv109 : zerov Try.prog 109 = some (.nilFunc) := by kernel_rfl
theorem sz110 : cellsz Try.prog 110 = some 1 := by kernel_rfl
theorem sc110 : scal Try.prog 110 = true := by kernel_rfl
theorem zv110 : zerov Try.prog 110 = some (.nilFunc) := by kernel_rfl
theorem sz111 : cellsz Try.prog 111 = some 1 := by kernel_rfl
theorem sc111 : scal Try.prog 111 = true := by kernel_rfl
theorem zv111 : zerov Try.prog 111 = some (.nilFunc) := by kernel_rfl
theorem sz112 : cellsz Try.prog 112 = some 1 := by kernel_rfl
theorem sc112 : scal Try.prog 112 = true := by kernel_rfl
theorem zv112 : zerov Try.prog 112 = some (.nilFunc) := by kernel_rfl
theorem sz113 : cellsz Try.prog 113 = some 1 := by kernel_rfl
theorem sc113 : scal Try.prog 113 = true := by kernel_rfl
theorem zv113 : zerov Try.prog 113 = some (.nilFunc) := by kernel_rfl
theorem sz114 : cellsz Try.prog 114 = some 1 := by kernel_rfl
theorem sc114 : scal Try.prog 114 = true := by kernel_rfl
theorem zv114 : zerov Try.prog 114 = some (.nilFunc) := by kernel_rfl
theorem sz115 : cellsz Try.prog 115 = some 1 := by kernel_rfl
theorem sc115 : scal Try.prog 115 = true := by kernel_rfl
theorem zv115 : zerov Try.prog 115 = some (.nilFunc) := by kernel_rfl
theorem sz116 : cellsz Try.prog 116 = some 1 := by kernel_rfl
theorem sc116 : scal Try.prog 116 = true := by kernel_rfl
theorem zv116 : zerov Try.prog 116 = some (.nilFunc) := by kernel_rfl
theorem sz117 : cellsz Try.prog 117 = some 1 := by kernel_rfl
theorem sc117 : scal Try.prog 117 = true := by kernel_rfl
theorem zv117 : zerov Try.prog 117 = some (.nilFunc) := by kernel_rfl
theorem sz118 : cellsz Try.prog 118 = some 1 := by kernel_rfl
theorem sc118 : scal Try.prog 118 = true := by kernel_rfl
theorem zv118 : zerov Try.prog 118 = some (.nilFunc) := by kernel_rfl
theorem sz119 : cellsz Try.prog 119 = some 1 := by kernel_rfl
theorem sc119 : scal Try.prog 119 = true := by kernel_rfl
theorem zv119 : zerov Try.prog 119 = some (.nilFunc) := by kernel_rfl
theorem sz120 : cellsz Try.prog 120 = some 1 := by kernel_rfl
theorem sc120 : scal Try.prog 120 = true := by kernel_rfl
theorem zv120 : zerov Try.prog 120 = some (.nilFunc) := by kernel_rfl
theorem sz121 : cellsz Try.prog 121 = some 1 := by kernel_rfl
theorem sc121 : scal Try.prog 121 = true := by kernel_rfl
theorem zv121 : zerov Try.prog 121 = some (.nilFunc) := by kernel_rfl
theorem sz122 : cellsz Try.prog 122 = some 1 := by kernel_rfl
theorem sc122 : scal Try.prog 122 = true := by kernel_rfl
theorem zv122 : zerov Try.prog 122 = some (.nilFunc) := by kernel_rfl
theorem sz123 : cellsz Try.prog 123 = some 1 := by kernel_rfl
theorem sc123 : scal Try.prog 123 = true := by kernel_rfl
theorem zv123 : zerov Try.prog 123 = some (.nilFunc) := by kernel_rfl
theorem sz124 : cellsz Try.prog 124 = some 1 := by kernel_rfl
theorem sc124 : scal Try.prog 124 = true := by kernel_rfl
theorem zv124 : zerov Try.prog 124 = some (.nilFunc) := by kernel_rfl
theorem sz125 : cellsz Try.prog 125 = some 1 := by kernel_rfl
theorem sc125 : scal Try.prog 125 = true := by kernel_rfl
theorem zv125 : zerov Try.prog 125 = some (.nilFunc) := by kernel_rfl
theorem sz126 : cellsz Try.prog 126 = some 4 := by kernel_rfl
theorem ag126 : aggn Try.prog 126 4 = true := by kernel_rfl
theorem zv126 : zerov Try.prog 126 = some (.agg #[.int .i64 0, .int .i64 0, .int .i64 0, .int .i64 0]) := by kernel_rfl
theorem fa126_0 (g off : Nat) (w : World) : (Instr.fieldAt 126 (.pointer (some ⟨g, off, none⟩)) 0).run Try.prog w = .ok (.pointer (some ⟨g, off, none⟩)) w := by kernel_rfl
theorem fa126_1 (g off : Nat) (w : World) : (Instr.fieldAt 126 (.pointer (some ⟨g, off, none⟩)) 1).run Try.prog w = .ok (.pointer (some ⟨g, off + 1, none⟩)) w := by kernel_rfl
theorem sz127 : cellsz Try.prog 127 = some 4 := by kernel_rfl
theorem ag127 : aggn Try.prog 127 4 = true := by kernel_rfl
theorem zv127 : zerov Try.prog 127 = some (.agg #[.int .i64 0, .int .i64 0, .int .i64 0, .int .i64 0]) := by kernel_rfl
theorem fa127_0 (g off : Nat) (w : World) : (Instr.fieldAt 127 (.pointer (some ⟨g, off, none⟩)) 0).run Try.prog w = .ok (.pointer (some ⟨g, off, none⟩)) w := by kernel_rfl
theorem fa127_1 (g off : Nat) (w : World) : (Instr.fieldAt 127 (.pointer (some ⟨g, off, none⟩)) 1).run Try.prog w = .ok (.pointer (some ⟨g, off + 1, none⟩)) w := by kernel_rfl
theorem sz128 : cellsz Try.prog 128 = some 1 := by kernel_rfl
theorem sc128 : scal Try.prog 128 = true := by kernel_rfl
theorem zv128 : zerov Try.prog 128 = some (.nilFunc) := by kernel_rfl
theorem sz129 : cellsz Try.prog 129 = some 1 := by kernel_rfl
theorem sc129 : scal Try.prog 129 = true := by kernel_rfl
theorem zv129 : zerov Try.prog 129 = some (.nilFunc) := by kernel_rfl
theorem sz130 : cellsz Try.prog 130 = some 1 := by kernel_rfl
theorem sc130 : scal Try.prog 130 = true := by kernel_rfl
theorem zv130 : zerov Try.prog 130 = some (.nilFunc) := by kernel_rfl
theorem sz131 : cellsz Try.prog 131 = some 1 := by kernel_rfl
theorem sc131 : scal Try.prog 131 = true := by kernel_rfl
theorem zv131 : zerov Try.prog 131 = some (.nilFunc) := by kernel_rfl
theorem sz132 : cellsz Try.prog 132 = some 1 := by kernel_rfl
theorem sc132 : scal Try.prog 132 = true := by kernel_rfl
theorem zv132 : zerov Try.prog 132 = some (.nilFunc) := by kernel_rfl
theorem sz133 : cellsz Try.prog 133 = some 1 := by kernel_rfl
theorem sc133 : scal Try.prog 133 = true := by kernel_rfl
theorem zv133 : zerov Try.prog 133 = some (.nilFunc) := by kernel_rfl
theorem sz134 : cellsz Try.prog 134 = some 1 := by kernel_rfl
theorem sc134 : scal Try.prog 134 = true := by kernel_rfl
theorem zv134 : zerov Try.prog 134 = some (.nilFunc) := by kernel_rfl
theorem sz135 : cellsz Try.prog 135 = some 1 := by kernel_rfl
theorem sc135 : scal Try.prog 135 = true := by kernel_rfl
theorem zv135 : zerov Try.prog 135 = some (.nilFunc) := by kernel_rfl
theorem sz137 : cellsz Try.prog 137 = some 1 := by kernel_rfl
theorem sc137 : scal Try.prog 137 = true := by kernel_rfl
theorem zv137 : zerov Try.prog 137 = some (.nilFunc) := by kernel_rfl
theorem sz138 : cellsz Try.prog 138 = some 1 := by kernel_rfl
theorem sc138 : scal Try.prog 138 = true := by kernel_rfl
theorem zv138 : zerov Try.prog 138 = some (.nilFunc) := by kernel_rfl
theorem sz139 : cellsz Try.prog 139 = some 1 := by kernel_rfl
theorem sc139 : scal Try.prog 139 = true := by kernel_rfl
theorem zv139 : zerov Try.prog 139 = some (.int .u64 0) := by kernel_rfl
theorem sz140 : cellsz Try.prog 140 = some 1 := by kernel_rfl
theorem sc140 : scal Try.prog 140 = true := by kernel_rfl
theorem zv140 : zerov Try.prog 140 = some (.nilFunc) := by kernel_rfl
theorem sz141 : cellsz Try.prog 141 = some 7 := by kernel_rfl
theorem ag141 : aggn Try.prog 141 7 = true := by kernel_rfl
theorem zv141 : zerov Try.prog 141 = some (.agg #[.int .i64 0, .int .i64 0, .int .i64 0, .int .i64 0, .int .i64 0, .int .i64 0, .int .i64 0]) := by kernel_rfl
theorem fa141_0 (g off : Nat) (w : World) : (Instr.fieldAt 141 (.pointer (some ⟨g, off, none⟩)) 0).run Try.prog w = .ok (.pointer (some ⟨g, off, none⟩)) w := by kernel_rfl
theorem fa141_1 (g off : Nat) (w : World) : (Instr.fieldAt 141 (.pointer (some ⟨g, off, none⟩)) 1).run Try.prog w = .ok (.pointer (some ⟨g, off + 1, none⟩)) w := by kernel_rfl
theorem fa141_2 (g off : Nat) (w : World) : (Instr.fieldAt 141 (.pointer (some ⟨g, off, none⟩)) 2).run Try.prog w = .ok (.pointer (some ⟨g, off + 2, none⟩)) w := by kernel_rfl
theorem fa141_3 (g off : Nat) (w : World) : (Instr.fieldAt 141 (.pointer (some ⟨g, off, none⟩)) 3).run Try.prog w = .ok (.pointer (some ⟨g, off + 3, none⟩)) w := by kernel_rfl
theorem fa141_4 (g off : Nat) (w : World) : (Instr.fieldAt 141 (.pointer (some ⟨g, off, none⟩)) 4).run Try.prog w = .ok (.pointer (some ⟨g, off + 4, none⟩)) w := by kernel_rfl
theorem fa141_5 (g off : Nat) (w : World) : (Instr.fieldAt 141 (.pointer (some ⟨g, off, none⟩)) 5).run Try.prog w = .ok (.pointer (some ⟨g, off + 5, none⟩)) w := by kernel_rfl
theorem fa141_6 (g off : Nat) (w : World) : (Instr.fieldAt 141 (.pointer (some ⟨g, off, none⟩)) 6).run Try.prog w = .ok (.pointer (some ⟨g, off + 6, none⟩)) w := by kernel_rfl
theorem sz142 : cellsz Try.prog 142 = some 7 := by kernel_rfl
theorem ag142 : aggn Try.prog 142 7 = true := by kernel_rfl
theorem zv142 : zerov Try.prog 142 = some (.agg #[.int .i64 0, .int .i64 0, .int .i64 0, .int .i64 0, .int .i64 0, .int .i64 0, .int .i64 0]) := by kernel_rfl
theorem fa142_0 (g off : Nat) (w : World) : (Instr.fieldAt 142 (.pointer (some ⟨g, off, none⟩)) 0).run Try.prog w = .ok (.pointer (some ⟨g, off, none⟩)) w := by kernel_rfl
theorem fa142_1 (g off : Nat) (w : World) : (Instr.fieldAt 142 (.pointer (some ⟨g, off, none⟩)) 1).run Try.prog w = .ok (.pointer (some ⟨g, off + 1, none⟩)) w := by kernel_rfl
theorem fa142_2 (g off : Nat) (w : World) : (Instr.fieldAt 142 (.pointer (some ⟨g, off, none⟩)) 2).run Try.prog w = .ok (.pointer (some ⟨g, off + 2, none⟩)) w := by kernel_rfl
theorem fa142_3 (g off : Nat) (w : World) : (Instr.fieldAt 142 (.pointer (some ⟨g, off, none⟩)) 3).run Try.prog w = .ok (.pointer (some ⟨g, off + 3, none⟩)) w := by kernel_rfl
theorem fa142_4 (g off : Nat) (w : World) : (Instr.fieldAt 142 (.pointer (some ⟨g, off, none⟩)) 4).run Try.prog w = .ok (.pointer (some ⟨g, off + 4, none⟩)) w := by kernel_rfl
theorem fa142_5 (g off : Nat) (w : World) : (Instr.fieldAt 142 (.pointer (some ⟨g, off, none⟩)) 5).run Try.prog w = .ok (.pointer (some ⟨g, off + 5, none⟩)) w := by kernel_rfl
theorem fa142_6 (g off : Nat) (w : World) : (Instr.fieldAt 142 (.pointer (some ⟨g, off, none⟩)) 6).run Try.prog w = .ok (.pointer (some ⟨g, off + 6, none⟩)) w := by kernel_rfl
theorem sz143 : cellsz Try.prog 143 = some 1 := by kernel_rfl
theorem sc143 : scal Try.prog 143 = true := by kernel_rfl
theorem zv143 : zerov Try.prog 143 = some (.nilFunc) := by kernel_rfl
theorem sz144 : cellsz Try.prog 144 = some 4 := by kernel_rfl
theorem ag144 : aggn Try.prog 144 4 = true := by kernel_rfl
theorem zv144 : zerov Try.prog 144 = some (.agg #[.int .i64 0, .int .i64 0, .int .i64 0, .int .i64 0]) := by kernel_rfl
theorem fa144_0 (g off : Nat) (w : World) : (Instr.fieldAt 144 (.pointer (some ⟨g, off, none⟩)) 0).run Try.prog w = .ok (.pointer (some ⟨g, off, none⟩)) w := by kernel_rfl
theorem fa144_1 (g off : Nat) (w : World) : (Instr.fieldAt 144 (.pointer (some ⟨g, off, none⟩)) 1).run Try.prog w = .ok (.pointer (some ⟨g, off + 1, none⟩)) w := by kernel_rfl
theorem fa144_2 (g off : Nat) (w : World) : (Instr.fieldAt 144 (.pointer (some ⟨g, off, none⟩)) 2).run Try.prog w = .ok (.pointer (some ⟨g, off + 2, none⟩)) w := by kernel_rfl
theorem fa144_3 (g off : Nat) (w : World) : (Instr.fieldAt 144 (.pointer (some ⟨g, off, none⟩)) 3).run Try.prog w = .ok (.pointer (some ⟨g, off + 3, none⟩)) w := by kernel_rfl
theorem sz145 : cellsz Try.prog 145 = some 4 := by kernel_rfl
theorem ag145 : aggn Try.prog 145 4 = true := by kernel_rfl
theorem zv145 : zerov Try.prog 145 = some (.agg #[.int .i64 0, .int .i64 0, .int .i64 0, .int .i64 0]) := by kernel_rfl
theorem fa145_0 (g off : Nat) (w : World) : (Instr.fieldAt 145 (.pointer (some ⟨g, off, none⟩)) 0).run Try.prog w = .ok (.pointer (some ⟨g, off, none⟩)) w := by kernel_rfl
theorem fa145_1 (g off : Nat) (w : World) : (Instr.fieldAt 145 (.pointer (some ⟨g, off, none⟩)) 1).run Try.prog w = .ok (.pointer (some ⟨g, off + 1, none⟩)) w := by kernel_rfl
theorem fa145_2 (g off : Nat) (w : World) : (Instr.fieldAt 145 (.pointer (some ⟨g, off, none⟩)) 2).run Try.prog w = .ok (.pointer (some ⟨g, off + 2, none⟩)) w := by kernel_rfl
theorem fa145_3 (g off : Nat) (w : World) : (Instr.fieldAt 145 (.pointer (some ⟨g, off, none⟩)) 3).run Try.prog w = .ok (.pointer (some ⟨g, off + 3, none⟩)) w := by kernel_rfl
theorem sz146 : cellsz Try.prog 146 = some 1 := by kernel_rfl
theorem sc146 : scal Try.prog 146 = true := by kernel_rfl
theorem zv146 : zerov Try.prog 146 = some (.nilFunc) := by kernel_rfl
theorem sz147 : cellsz Try.prog 147 = some 1 := by kernel_rfl
theorem sc147 : scal Try.prog 147 = true := by kernel_rfl
theorem zv147 : zerov Try.prog 147 = some (.nilFunc) := by kernel_rfl
theorem sz148 : cellsz Try.prog 148 = some 1 := by kernel_rfl
theorem sc148 : scal Try.prog 148 = true := by kernel_rfl
theorem zv148 : zerov Try.prog 148 = some (.nilFunc) := by kernel_rfl
theorem sz149 : cellsz Try.prog 149 = some 1 := by kernel_rfl
theorem sc149 : scal Try.prog 149 = true := by kernel_rfl
theorem zv149 : zerov Try.prog 149 = some (.nilFunc) := by kernel_rfl
theorem sz150 : cellsz Try.prog 150 = some 1 := by kernel_rfl
theorem sc150 : scal Try.prog 150 = true := by kernel_rfl
theorem zv150 : zerov Try.prog 150 = some (.int .u64 0) := by kernel_rfl
theorem sz152 : cellsz Try.prog 152 = some 1 := by kernel_rfl
theorem sc152 : scal Try.prog 152 = true := by kernel_rfl
theorem zv152 : zerov Try.prog 152 = some (.nilFunc) := by kernel_rfl
theorem sz153 : cellsz Try.prog 153 = some 1 := by kernel_rfl
theorem sc153 : scal Try.prog 153 = true := by kernel_rfl
theorem zv153 : zerov Try.prog 153 = some (.nilFunc) := by kernel_rfl
theorem sz154 : cellsz Try.prog 154 = some 1 := by kernel_rfl
theorem sc154 : scal Try.prog 154 = true := by kernel_rfl
theorem zv154 : zerov Try.prog 154 = some (.pointer none) := by kernel_rfl
theorem sz155 : cellsz Try.prog 155 = some 6 := by kernel_rfl
theorem ag155 : aggn Try.prog 155 6 = true := by kernel_rfl
theorem zv155 : zerov Try.prog 155 = some (.agg #[.int .i64 0, .int .i64 0, .int .i64 0, .int .i64 0, .int .i64 0, .int .i64 0]) := by kernel_rfl
theorem fa155_0 (g off : Nat) (w : World) : (Instr.fieldAt 155 (.pointer (some ⟨g, off, none⟩)) 0).run Try.prog w = .ok (.pointer (some ⟨g, off, none⟩)) w := by kernel_rfl
theorem fa155_1 (g off : Nat) (w : World) : (Instr.fieldAt 155 (.pointer (some ⟨g, off, none⟩)) 1).run Try.prog w = .ok (.pointer (some ⟨g, off + 3, none⟩)) w := by kernel_rfl
theorem sz156 : cellsz Try.prog 156 = some 6 := by kernel_rfl
theorem ag156 : aggn Try.prog 156 6 = true := by kernel_rfl
theorem zv156 : zerov Try.prog 156 = some (.agg #[.int .i64 0, .int .i64 0, .int .i64 0, .int .i64 0, .int .i64 0, .int .i64 0]) := by kernel_rfl
theorem fa156_0 (g off : Nat) (w : World) : (Instr.fieldAt 156 (.pointer (some ⟨g, off, none⟩)) 0).run Try.prog w = .ok (.pointer (some ⟨g, off, none⟩)) w := by kernel_rfl
theorem fa156_1 (g off : Nat) (w : World) : (Instr.fieldAt 156 (.pointer (some ⟨g, off, none⟩)) 1).run Try.prog w = .ok (.pointer (some ⟨g, off + 3, none⟩)) w := by kernel_rfl
theorem sz157 : cellsz Try.prog 157 = some 1 := by kernel_rfl
theorem sc157 : scal Try.prog 157 = true := by kernel_rfl
theorem zv157 : zerov Try.prog 157 = some (.nilFunc) := by kernel_rfl
theorem sz158 : cellsz Try.prog 158 = some 1 := by kernel_rfl
theorem sc158 : scal Try.prog 158 = true := by kernel_rfl
theorem zv158 : zerov Try.prog 158 = some (.nilFunc) := by kernel_rfl
theorem sz159 : cellsz Try.prog 159 = some 1 := by kernel_rfl
theorem sc159 : scal Try.prog 159 = true := by kernel_rfl
theorem zv159 : zerov Try.prog 159 = some (.nilFunc) := by kernel_rfl
theorem sz160 : cellsz Try.prog 160 = some 1 := by kernel_rfl
theorem sc160 : scal Try.prog 160 = true := by kernel_rfl
theorem zv160 : zerov Try.prog 160 = some (.nilFunc) := by kernel_rfl
theorem sz163 : cellsz Try.prog 163 = some 1 := by kernel_rfl
theorem sc163 : scal Try.prog 163 = true := by kernel_rfl
theorem zv163 : zerov Try.prog 163 = some (.nilFunc) := by kernel_rfl
theorem sz164 : cellsz Try.prog 164 = some 1 := by kernel_rfl
theorem sc164 : scal Try.prog 164 = true := by kernel_rfl
theorem zv164 : zerov Try.prog 164 = some (.pointer none) := by kernel_rfl
theorem sz165 : cellsz Try.prog 165 = some 1 := by kernel_rfl
theorem sc165 : scal Try.prog 165 = true := by kernel_rfl
theorem zv165 : zerov Try.prog 165 = some (.nilFunc) := by kernel_rfl
theorem sz166 : cellsz Try.prog 166 = some 4 := by kernel_rfl
theorem ag166 : aggn Try.prog 166 4 = true := by kernel_rfl
theorem zv166 : zerov Try.prog 166 = some (.agg #[.pointer none, .pointer none, .pointer none, .string ⟨#[]⟩]) := by kernel_rfl
theorem fa166_0 (g off : Nat) (w : World) : (Instr.fieldAt 166 (.pointer (some ⟨g, off, none⟩)) 0).run Try.prog w = .ok (.pointer (some ⟨g, off, none⟩)) w := by kernel_rfl
theorem fa166_1 (g off : Nat) (w : World) : (Instr.fieldAt 166 (.pointer (some ⟨g, off, none⟩)) 1).run Try.prog w = .ok (.pointer (some ⟨g, off + 1, none⟩)) w := by kernel_rfl
theorem fa166_2 (g off : Nat) (w : World) : (Instr.fieldAt 166 (.pointer (some ⟨g, off, none⟩)) 2).run Try.prog w = .ok (.pointer (some ⟨g, off + 2, none⟩)) w := by kernel_rfl
theorem fa166_3 (g off : Nat) (w : World) : (Instr.fieldAt 166 (.pointer (some ⟨g, off, none⟩)) 3).run Try.prog w = .ok (.pointer (some ⟨g, off + 3, none⟩)) w := by kernel_rfl
theorem sz167 : cellsz Try.prog 167 = some 4 := by kernel_rfl
theorem ag167 : aggn Try.prog 167 4 = true := by kernel_rfl
theorem zv167 : zerov Try.prog 167 = some (.agg #[.pointer none, .pointer none, .pointer none, .string ⟨#[]⟩]) := by kernel_rfl
theorem fa167_0 (g off : Nat) (w : World) : (Instr.fieldAt 167 (.pointer (some ⟨g, off, none⟩)) 0).run Try.prog w = .ok (.pointer (some ⟨g, off, none⟩)) w := by kernel_rfl
theorem fa167_1 (g off : Nat) (w : World) : (Instr.fieldAt 167 (.pointer (some ⟨g, off, none⟩)) 1).run Try.prog w = .ok (.pointer (some ⟨g, off + 1, none⟩)) w := by kernel_rfl
theorem fa167_2 (g off : Nat) (w : World) : (Instr.fieldAt 167 (.pointer (some ⟨g, off, none⟩)) 2).run Try.prog w = .ok (.pointer (some ⟨g, off + 2, none⟩)) w := by kernel_rfl
theorem fa167_3 (g off : Nat) (w : World) : (Instr.fieldAt 167 (.pointer (some ⟨g, off, none⟩)) 3).run Try.prog w = .ok (.pointer (some ⟨g, off + 3, none⟩)) w := by kernel_rfl
theorem sz168 : cellsz Try.prog 168 = some 0 := by kernel_rfl
theorem ag168 : aggn Try.prog 168 0 = true := by kernel_rfl
theorem zv168 : zerov Try.prog 168 = some (.agg #[]) := by kernel_rfl
theorem sz169 : cellsz Try.prog 169 = some 0 := by kernel_rfl
theorem ag169 : aggn Try.prog 169 0 = true := by kernel_rfl
theorem zv169 : zerov Try.prog 169 = some (.agg #[]) := by kernel_rfl
theorem sz170 : cellsz Try.prog 170 = some 0 := by kernel_rfl
theorem ag170 : aggn Try.prog 170 0 = true := by kernel_rfl
theorem zv170 : zerov Try.prog 170 = some (.agg #[]) := by kernel_rfl
theorem sz171 : cellsz Try.prog 171 = some 1 := by kernel_rfl
theorem sc171 : scal Try.prog 171 = true := by kernel_rfl
theorem zv171 : zerov Try.prog 171 = some (.nilFunc) := by kernel_rfl
theorem sz172 : cellsz Try.prog 172 = some 1 := by kernel_rfl
theorem sc172 : scal Try.prog 172 = true := by kernel_rfl
theorem zv172 : zerov Try.prog 172 = some (.int .u32 0) := by kernel_rfl
theorem sz173 : cellsz Try.prog 173 = some 1 := by kernel_rfl
theorem sc173 : scal Try.prog 173 = true := by kernel_rfl
theorem zv173 : zerov Try.prog 173 = some (.int .u8 0) := by kernel_rfl
theorem sz174 : cellsz Try.prog 174 = some 1 := by kernel_rfl
theorem sc174 : scal Try.prog 174 = true := by kernel_rfl
theorem zv174 : zerov Try.prog 174 = some (.int .u8 0) := by kernel_rfl
theorem sz175 : cellsz Try.prog 175 = some 1 := by kernel_rfl
theorem sc175 : scal Try.prog 175 = true := by kernel_rfl
theorem zv175 : zerov Try.prog 175 = some (.nilFunc) := by kernel_rfl
theorem sz176 : cellsz Try.prog 176 = some 1 := by kernel_rfl
theorem sc176 : scal Try.prog 176 = true := by kernel_rfl
theorem zv176 : zerov Try.prog 176 = some (.pointer none) := by kernel_rfl
theorem sz177 : cellsz Try.prog 177 = some 1 := by kernel_rfl
theorem sc177 : scal Try.prog 177 = true := by kernel_rfl
theorem zv177 : zerov Try.prog 177 = some (.int .i32 0) := by kernel_rfl
theorem sz178 : cellsz Try.prog 178 = some 1 := by kernel_rfl
theorem sc178 : scal Try.prog 178 = true := by kernel_rfl
theorem zv178 : zerov Try.prog 178 = some (.int .i32 0) := by kernel_rfl
theorem sz179 : cellsz Try.prog 179 = some 11 := by kernel_rfl
theorem ag179 : aggn Try.prog 179 11 = true := by kernel_rfl
theorem zv179 : zerov Try.prog 179 = some (.agg #[.int .u64 0, .int .u64 0, .int .u32 0, .int .u8 0, .int .u8 0, .int .u8 0, .int .u8 0, .nilFunc, .pointer none, .int .i32 0, .int .i32 0]) := by kernel_rfl
theorem fa179_0 (g off : Nat) (w : World) : (Instr.fieldAt 179 (.pointer (some ⟨g, off, none⟩)) 0).run Try.prog w = .ok (.pointer (some ⟨g, off, none⟩)) w := by kernel_rfl
theorem fa179_1 (g off : Nat) (w : World) : (Instr.fieldAt 179 (.pointer (some ⟨g, off, none⟩)) 1).run Try.prog w = .ok (.pointer (some ⟨g, off + 1, none⟩)) w := by kernel_rfl
theorem fa179_2 (g off : Nat) (w : World) : (Instr.fieldAt 179 (.pointer (some ⟨g, off, none⟩)) 2).run Try.prog w = .ok (.pointer (some ⟨g, off + 2, none⟩)) w := by kernel_rfl
theorem fa179_3 (g off : Nat) (w : World) : (Instr.fieldAt 179 (.pointer (some ⟨g, off, none⟩)) 3).run Try.prog w = .ok (.pointer (some ⟨g, off + 3, none⟩)) w := by kernel_rfl
theorem fa179_4 (g off : Nat) (w : World) : (Instr.fieldAt 179 (.pointer (some ⟨g, off, none⟩)) 4).run Try.prog w = .ok (.pointer (some ⟨g, off + 4, none⟩)) w := by kernel_rfl
theorem fa179_5 (g off : Nat) (w : World) : (Instr.fieldAt 179 (.pointer (some ⟨g, off, none⟩)) 5).run Try.prog w = .ok (.pointer (some ⟨g, off + 5, none⟩)) w := by kernel_rfl
theorem fa179_6 (g off : Nat) (w : World) : (Instr.fieldAt 179 (.pointer (some ⟨g, off, none⟩)) 6).run Try.prog w = .ok (.pointer (some ⟨g, off + 6, none⟩)) w := by kernel_rfl
theorem fa179_7 (g off : Nat) (w : World) : (Instr.fieldAt 179 (.pointer (some ⟨g, off, none⟩)) 7).run Try.prog w = .ok (.pointer (some ⟨g, off + 7, none⟩)) w := by kernel_rfl
theorem fa179_8 (g off : Nat) (w : World) : (Instr.fieldAt 179 (.pointer (some ⟨g, off, none⟩)) 8).run Try.prog w = .ok (.pointer (some ⟨g, off + 8, none⟩)) w := by kernel_rfl
theorem fa179_9 (g off : Nat) (w : World) : (Instr.fieldAt 179 (.pointer (some ⟨g, off, none⟩)) 9).run Try.prog w = .ok (.pointer (some ⟨g, off + 9, none⟩)) w := by kernel_rfl
theorem fa179_10 (g off : Nat) (w : World) : (Instr.fieldAt 179 (.pointer (some ⟨g, off, none⟩)) 10).run Try.prog w = .ok (.pointer (some ⟨g, off + 10, none⟩)) w := by kernel_rfl
theorem sz180 : cellsz Try.prog 180 = some 11 := by kernel_rfl
theorem ag180 : aggn Try.prog 180 11 = true := by kernel_rfl
theorem zv180 : zerov Try.prog 180 = some (.agg #[.int .u64 0, .int .u64 0, .int .u32 0, .int .u8 0, .int .u8 0, .int .u8 0, .int .u8 0, .nilFunc, .pointer none, .int .i32 0, .int .i32 0]) := by kernel_rfl
theorem fa180_0 (g off : Nat) (w : World) : (Instr.fieldAt 180 (.pointer (some ⟨g, off, none⟩)) 0).run Try.prog w = .ok (.pointer (some ⟨g, off, none⟩)) w := by kernel_rfl
theorem fa180_1 (g off : Nat) (w : World) : (Instr.fieldAt 180 (.pointer (some ⟨g, off, none⟩)) 1).run Try.prog w = .ok (.pointer (some ⟨g, off + 1, none⟩)) w := by kernel_rfl
theorem fa180_2 (g off : Nat) (w : World) : (Instr.fieldAt 180 (.pointer (some ⟨g, off, none⟩)) 2).run Try.prog w = .ok (.pointer (some ⟨g, off + 2, none⟩)) w := by kernel_rfl
theorem fa180_3 (g off : Nat) (w : World) : (Instr.fieldAt 180 (.pointer (some ⟨g, off, none⟩)) 3).run Try.prog w = .ok (.pointer (some ⟨g, off + 3, none⟩)) w := by kernel_rfl
theorem fa180_4 (g off : Nat) (w : World) : (Instr.fieldAt 180 (.pointer (some ⟨g, off, none⟩)) 4).run Try.prog w = .ok (.pointer (some ⟨g, off + 4, none⟩)) w := by kernel_rfl
theorem fa180_5 (g off : Nat) (w : World) : (Instr.fieldAt 180 (.pointer (some ⟨g, off, none⟩)) 5).run Try.prog w = .ok (.pointer (some ⟨g, off + 5, none⟩)) w := by kernel_rfl
theorem fa180_6 (g off : Nat) (w : World) : (Instr.fieldAt 180 (.pointer (some ⟨g, off, none⟩)) 6).run Try.prog w = .ok (.pointer (some ⟨g, off + 6, none⟩)) w := by kernel_rfl
theorem fa180_7 (g off : Nat) (w : World) : (Instr.fieldAt 180 (.pointer (some ⟨g, off, none⟩)) 7).run Try.prog w = .ok (.pointer (some ⟨g, off + 7, none⟩)) w := by kernel_rfl
theorem fa180_8 (g off : Nat) (w : World) : (Instr.fieldAt 180 (.pointer (some ⟨g, off, none⟩)) 8).run Try.prog w = .ok (.pointer (some ⟨g, off + 8, none⟩)) w := by kernel_rfl
theorem fa180_9 (g off : Nat) (w : World) : (Instr.fieldAt 180 (.pointer (some ⟨g, off, none⟩)) 9).run Try.prog w = .ok (.pointer (some ⟨g, off + 9, none⟩)) w := by kernel_rfl
theorem fa180_10 (g off : Nat) (w : World) : (Instr.fieldAt 180 (.pointer (some ⟨g, off, none⟩)) 10).run Try.prog w = .ok (.pointer (some ⟨g, off + 10, none⟩)) w := by kernel_rfl
theorem sz181 : cellsz Try.prog 181 = some 1 := by kernel_rfl
theorem sc181 : scal Try.prog 181 = true := by kernel_rfl
theorem zv181 : zerov Try.prog 181 = some (.nilFunc) := by kernel_rfl
theorem sz182 : cellsz Try.prog 182 = some 1 := by kernel_rfl
theorem ag182 : aggn Try.prog 182 1 = true := by kernel_rfl
theorem zv182 : zerov Try.prog 182 = some (.agg #[.string ⟨#[]⟩]) := by kernel_rfl
theorem fa182_0 (g off : Nat) (w : World) : (Instr.fieldAt 182 (.pointer (some ⟨g, off, none⟩)) 0).run Try.prog w = .ok (.pointer (some ⟨g, off, none⟩)) w := by kernel_rfl
theorem sz183 : cellsz Try.prog 183 = some 1 := by kernel_rfl
theorem ag183 : aggn Try.prog 183 1 = true := by kernel_rfl
theorem zv183 : zerov Try.prog 183 = some (.agg #[.string ⟨#[]⟩]) := by kernel_rfl
theorem fa183_0 (g off : Nat) (w : World) : (Instr.fieldAt 183 (.pointer (some ⟨g, off, none⟩)) 0).run Try.prog w = .ok (.pointer (some ⟨g, off, none⟩)) w := by kernel_rfl
theorem sz185 : cellsz Try.prog 185 = some 1 := by kernel_rfl
theorem sc185 : scal Try.prog 185 = true := by kernel_rfl
theorem zv185 : zerov Try.prog 185 = some (.nilFunc) := by kernel_rfl
theorem sz186 : cellsz Try.prog 186 = some 1 := by kernel_rfl
theorem sc186 : scal Try.prog 186 = true := by kernel_rfl
theorem zv186 : zerov Try.prog 186 = some (.nilFunc) := by kernel_rfl
theorem en2 : Enters Try.prog 2 := enters_of Try.func2 (by kernel_rfl) (by kernel_rfl)
theorem en3 : Enters Try.prog 3 := enters_of Try.func3 (by kernel_rfl) (by kernel_rfl)
theorem en4 : Enters Try.prog 4 := enters_of Try.func4 (by kernel_rfl) (by kernel_rfl)
theorem en5 : Enters Try.prog 5 := enters_of Try.func5 (by kernel_rfl) (by kernel_rfl)
theorem en6 : Enters Try.prog 6 := enters_of Try.func6 (by kernel_rfl) (by kernel_rfl)
theorem en7 : Enters Try.prog 7 := enters_of Try.func7 (by kernel_rfl) (by kernel_rfl)
theorem en8 : Enters Try.prog 8 := enters_of Try.func8 (by kernel_rfl) (by kernel_rfl)
theorem en9 : Enters Try.prog 9 := enters_of Try.func9 (by kernel_rfl) (by kernel_rfl)
theorem en10 : Enters Try.prog 10 := enters_of Try.func10 (by kernel_rfl) (by kernel_rfl)
theorem en11 : Enters Try.prog 11 := enters_of Try.func11 (by kernel_rfl) (by kernel_rfl)
theorem en12 : Enters Try.prog 12 := enters_of Try.func12 (by kernel_rfl) (by kernel_rfl)
theorem en13 : Enters Try.prog 13 := enters_of Try.func13 (by kernel_rfl) (by kernel_rfl)
theorem en14 : Enters Try.prog 14 := enters_of Try.func14 (by kernel_rfl) (by kernel_rfl)
theorem en15 : Enters Try.prog 15 := enters_of Try.func15 (by kernel_rfl) (by kernel_rfl)
theorem en16 : Enters Try.prog 16 := enters_of Try.func16 (by kernel_rfl) (by kernel_rfl)
theorem en17 : Enters Try.prog 17 := enters_of Try.func17 (by kernel_rfl) (by kernel_rfl)
theorem en18 : Enters Try.prog 18 := enters_of Try.func18 (by kernel_rfl) (by kernel_rfl)
theorem en19 : Enters Try.prog 19 := enters_of Try.func19 (by kernel_rfl) (by kernel_rfl)
theorem en20 : Enters Try.prog 20 := enters_of Try.func20 (by kernel_rfl) (by kernel_rfl)
theorem en21 : Enters Try.prog 21 := enters_of Try.func21 (by kernel_rfl) (by kernel_rfl)
theorem en22 : Enters Try.prog 22 := enters_of Try.func22 (by kernel_rfl) (by kernel_rfl)
theorem en23 : Enters Try.prog 23 := enters_of Try.func23 (by kernel_rfl) (by kernel_rfl)
theorem en24 : Enters Try.prog 24 := enters_of Try.func24 (by kernel_rfl) (by kernel_rfl)
theorem en25 : Enters Try.prog 25 := enters_of Try.func25 (by kernel_rfl) (by kernel_rfl)
theorem en26 : Enters Try.prog 26 := enters_of Try.func26 (by kernel_rfl) (by kernel_rfl)
theorem en27 : Enters Try.prog 27 := enters_of Try.func27 (by kernel_rfl) (by kernel_rfl)
theorem en28 : Enters Try.prog 28 := enters_of Try.func28 (by kernel_rfl) (by kernel_rfl)
theorem en29 : Enters Try.prog 29 := enters_of Try.func29 (by kernel_rfl) (by kernel_rfl)
theorem en30 : Enters Try.prog 30 := enters_of Try.func30 (by kernel_rfl) (by kernel_rfl)
theorem en31 : Enters Try.prog 31 := enters_of Try.func31 (by kernel_rfl) (by kernel_rfl)
theorem en32 : Enters Try.prog 32 := enters_of Try.func32 (by kernel_rfl) (by kernel_rfl)
theorem en33 : Enters Try.prog 33 := enters_of Try.func33 (by kernel_rfl) (by kernel_rfl)
theorem en34 : Enters Try.prog 34 := enters_of Try.func34 (by kernel_rfl) (by kernel_rfl)
theorem en35 : Enters Try.prog 35 := enters_of Try.func35 (by kernel_rfl) (by kernel_rfl)
theorem en36 : Enters Try.prog 36 := enters_of Try.func36 (by kernel_rfl) (by kernel_rfl)
theorem en37 : Enters Try.prog 37 := enters_of Try.func37 (by kernel_rfl) (by kernel_rfl)
theorem en38 : Enters Try.prog 38 := enters_of Try.func38 (by kernel_rfl) (by kernel_rfl)
theorem en39 : Enters Try.prog 39 := enters_of Try.func39 (by kernel_rfl) (by kernel_rfl)
theorem en40 : Enters Try.prog 40 := enters_of Try.func40 (by kernel_rfl) (by kernel_rfl)
theorem en41 : Enters Try.prog 41 := enters_of Try.func41 (by kernel_rfl) (by kernel_rfl)
theorem en42 : Enters Try.prog 42 := enters_of Try.func42 (by kernel_rfl) (by kernel_rfl)
theorem en43 : Enters Try.prog 43 := enters_of Try.func43 (by kernel_rfl) (by kernel_rfl)
theorem en44 : Enters Try.prog 44 := enters_of Try.func44 (by kernel_rfl) (by kernel_rfl)
theorem en45 : Enters Try.prog 45 := enters_of Try.func45 (by kernel_rfl) (by kernel_rfl)
theorem en46 : Enters Try.prog 46 := enters_of Try.func46 (by kernel_rfl) (by kernel_rfl)
theorem en47 : Enters Try.prog 47 := enters_of Try.func47 (by kernel_rfl) (by kernel_rfl)
theorem en48 : Enters Try.prog 48 := enters_of Try.func48 (by kernel_rfl) (by kernel_rfl)
theorem en49 : Enters Try.prog 49 := enters_of Try.func49 (by kernel_rfl) (by kernel_rfl)
theorem en50 : Enters Try.prog 50 := enters_of Try.func50 (by kernel_rfl) (by kernel_rfl)
theorem en51 : Enters Try.prog 51 := enters_of Try.func51 (by kernel_rfl) (by kernel_rfl)
theorem en52 : Enters Try.prog 52 := enters_of Try.func52 (by kernel_rfl) (by kernel_rfl)
theorem en53 : Enters Try.prog 53 := enters_of Try.func53 (by kernel_rfl) (by kernel_rfl)
theorem en54 : Enters Try.prog 54 := enters_of Try.func54 (by kernel_rfl) (by kernel_rfl)
theorem en55 : Enters Try.prog 55 := enters_of Try.func55 (by kernel_rfl) (by kernel_rfl)
theorem en56 : Enters Try.prog 56 := enters_of Try.func56 (by kernel_rfl) (by kernel_rfl)
theorem en57 : Enters Try.prog 57 := enters_of Try.func57 (by kernel_rfl) (by kernel_rfl)
theorem en58 : Enters Try.prog 58 := enters_of Try.func58 (by kernel_rfl) (by kernel_rfl)
theorem en59 : Enters Try.prog 59 := enters_of Try.func59 (by kernel_rfl) (by kernel_rfl)
theorem en60 : Enters Try.prog 60 := enters_of Try.func60 (by kernel_rfl) (by kernel_rfl)
theorem en61 : Enters Try.prog 61 := enters_of Try.func61 (by kernel_rfl) (by kernel_rfl)
theorem en62 : Enters Try.prog 62 := enters_of Try.func62 (by kernel_rfl) (by kernel_rfl)
theorem en63 : Enters Try.prog 63 := enters_of Try.func63 (by kernel_rfl) (by kernel_rfl)
theorem en64 : Enters Try.prog 64 := enters_of Try.func64 (by kernel_rfl) (by kernel_rfl)
theorem en65 : Enters Try.prog 65 := enters_of Try.func65 (by kernel_rfl) (by kernel_rfl)
theorem en66 : Enters Try.prog 66 := enters_of Try.func66 (by kernel_rfl) (by kernel_rfl)
theorem en67 : Enters Try.prog 67 := enters_of Try.func67 (by kernel_rfl) (by kernel_rfl)
theorem en68 : Enters Try.prog 68 := enters_of Try.func68 (by kernel_rfl) (by kernel_rfl)
theorem en69 : Enters Try.prog 69 := enters_of Try.func69 (by kernel_rfl) (by kernel_rfl)
theorem en70 : Enters Try.prog 70 := enters_of Try.func70 (by kernel_rfl) (by kernel_rfl)
theorem en71 : Enters Try.prog 71 := enters_of Try.func71 (by kernel_rfl) (by kernel_rfl)
theorem en72 : Enters Try.prog 72 := enters_of Try.func72 (by kernel_rfl) (by kernel_rfl)
theorem en73 : Enters Try.prog 73 := enters_of Try.func73 (by kernel_rfl) (by kernel_rfl)
theorem en74 : Enters Try.prog 74 := enters_of Try.func74 (by kernel_rfl) (by kernel_rfl)
theorem en75 : Enters Try.prog 75 := enters_of Try.func75 (by kernel_rfl) (by kernel_rfl)
theorem en76 : Enters Try.prog 76 := enters_of Try.func76 (by kernel_rfl) (by kernel_rfl)
theorem en77 : Enters Try.prog 77 := enters_of Try.func77 (by kernel_rfl) (by kernel_rfl)
theorem en78 : Enters Try.prog 78 := enters_of Try.func78 (by kernel_rfl) (by kernel_rfl)
theorem en79 : Enters Try.prog 79 := enters_of Try.func79 (by kernel_rfl) (by kernel_rfl)
theorem en80 : Enters Try.prog 80 := enters_of Try.func80 (by kernel_rfl) (by kernel_rfl)
theorem en81 : Enters Try.prog 81 := enters_of Try.func81 (by kernel_rfl) (by kernel_rfl)
theorem en82 : Enters Try.prog 82 := enters_of Try.func82 (by kernel_rfl) (by kernel_rfl)
theorem en83 : Enters Try.prog 83 := enters_of Try.func83 (by kernel_rfl) (by kernel_rfl)
theorem en84 : Enters Try.prog 84 := enters_of Try.func84 (by kernel_rfl) (by kernel_rfl)
theorem en85 : Enters Try.prog 85 := enters_of Try.func85 (by kernel_rfl) (by kernel_rfl)
theorem en86 : Enters Try.prog 86 := enters_of Try.func86 (by kernel_rfl) (by kernel_rfl)
theorem en87 : Enters Try.prog 87 := enters_of Try.func87 (by kernel_rfl) (by kernel_rfl)
theorem en88 : Enters Try.prog 88 := enters_of Try.func88 (by kernel_rfl) (by kernel_rfl)
theorem en89 : Enters Try.prog 89 := enters_of Try.func89 (by kernel_rfl) (by kernel_rfl)
theorem en90 : Enters Try.prog 90 := enters_of Try.func90 (by kernel_rfl) (by kernel_rfl)
theorem en91 : Enters Try.prog 91 := enters_of Try.func91 (by kernel_rfl) (by kernel_rfl)
theorem en92 : Enters Try.prog 92 := enters_of Try.func92 (by kernel_rfl) (by kernel_rfl)
theorem en93 : Enters Try.prog 93 := enters_of Try.func93 (by kernel_rfl) (by kernel_rfl)
theorem en94 : Enters Try.prog 94 := enters_of Try.func94 (by kernel_rfl) (by kernel_rfl)
theorem en95 : Enters Try.prog 95 := enters_of Try.func95 (by kernel_rfl) (by kernel_rfl)
theorem en96 : Enters Try.prog 96 := enters_of Try.func96 (by kernel_rfl) (by kernel_rfl)
theorem en97 : Enters Try.prog 97 := enters_of Try.func97 (by kernel_rfl) (by kernel_rfl)
theorem en98 : Enters Try.prog 98 := enters_of Try.func98 (by kernel_rfl) (by kernel_rfl)
theorem en99 : Enters Try.prog 99 := enters_of Try.func99 (by kernel_rfl) (by kernel_rfl)
theorem en100 : Enters Try.prog 100 := enters_of Try.func100 (by kernel_rfl) (by kernel_rfl)
theorem en101 : Enters Try.prog 101 := enters_of Try.func101 (by kernel_rfl) (by kernel_rfl)
theorem en102 : Enters Try.prog 102 := enters_of Try.func102 (by kernel_rfl) (by kernel_rfl)
theorem en103 : Enters Try.prog 103 := enters_of Try.func103 (by kernel_rfl) (by kernel_rfl)
theorem en104 : Enters Try.prog 104 := enters_of Try.func104 (by kernel_rfl) (by kernel_rfl)
theorem en105 : Enters Try.prog 105 := enters_of Try.func105 (by kernel_rfl) (by kernel_rfl)
theorem en106 : Enters Try.prog 106 := enters_of Try.func106 (by kernel_rfl) (by kernel_rfl)
theorem en107 : Enters Try.prog 107 := enters_of Try.func107 (by kernel_rfl) (by kernel_rfl)
theorem en108 : Enters Try.prog 108 := enters_of Try.func108 (by kernel_rfl) (by kernel_rfl)
theorem en109 : Enters Try.prog 109 := enters_of Try.func109 (by kernel_rfl) (by kernel_rfl)
theorem en110 : Enters Try.prog 110 := enters_of Try.func110 (by kernel_rfl) (by kernel_rfl)
theorem en111 : Enters Try.prog 111 := enters_of Try.func111 (by kernel_rfl) (by kernel_rfl)
theorem en112 : Enters Try.prog 112 := enters_of Try.func112 (by kernel_rfl) (by kernel_rfl)
theorem en113 : Enters Try.prog 113 := enters_of Try.func113 (by kernel_rfl) (by kernel_rfl)
theorem en114 : Enters Try.prog 114 := enters_of Try.func114 (by kernel_rfl) (by kernel_rfl)
theorem en115 : Enters Try.prog 115 := enters_of Try.func115 (by kernel_rfl) (by kernel_rfl)
theorem en116 : Enters Try.prog 116 := enters_of Try.func116 (by kernel_rfl) (by kernel_rfl)
theorem en117 : Enters Try.prog 117 := enters_of Try.func117 (by kernel_rfl) (by kernel_rfl)
theorem en118 : Enters Try.prog 118 := enters_of Try.func118 (by kernel_rfl) (by kernel_rfl)
theorem en119 : Enters Try.prog 119 := enters_of Try.func119 (by kernel_rfl) (by kernel_rfl)
theorem en120 : Enters Try.prog 120 := enters_of Try.func120 (by kernel_rfl) (by kernel_rfl)
theorem en121 : Enters Try.prog 121 := enters_of Try.func121 (by kernel_rfl) (by kernel_rfl)
theorem en122 : Enters Try.prog 122 := enters_of Try.func122 (by kernel_rfl) (by kernel_rfl)
theorem en123 : Enters Try.prog 123 := enters_of Try.func123 (by kernel_rfl) (by kernel_rfl)
theorem en124 : Enters Try.prog 124 := enters_of Try.func124 (by kernel_rfl) (by kernel_rfl)
theorem en125 : Enters Try.prog 125 := enters_of Try.func125 (by kernel_rfl) (by kernel_rfl)
theorem en126 : Enters Try.prog 126 := enters_of Try.func126 (by kernel_rfl) (by kernel_rfl)
theorem en127 : Enters Try.prog 127 := enters_of Try.func127 (by kernel_rfl) (by kernel_rfl)
theorem en128 : Enters Try.prog 128 := enters_of Try.func128 (by kernel_rfl) (by kernel_rfl)
theorem en129 : Enters Try.prog 129 := enters_of Try.func129 (by kernel_rfl) (by kernel_rfl)
end Go.Proofs.Ytfekoippjmojgaa
