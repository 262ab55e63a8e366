/- Merged out of smaller texts. -/
import Derived.Test.YtiafbadciofohaaGreatSwPartC
import Derived.WalkKit
import Derived.Test.YtiafbadciofohaaGreatProg
section
set_option linter.unusedVariables false
set_option linter.unusedSimpArgs false
set_option maxRecDepth 100000
namespace Go.Vx
open Go Go.Proofs Go.Shelf Go.Lib Go.RowKit
def tab : List (Nat × TI) := [
  (1, ⟨none, 1, false, [.undef], 8, .other, false⟩),
  (2, ⟨some (.int .i64), 1, false, [.b (.d (.int .i64) (0:Int))], 8, .int .i64, false⟩),
  (3, ⟨some (.int .i64), 1, false, [.b (.d (.int .i64) (0:Int))], 8, .int .i64, false⟩),
  (4, ⟨some .bool, 1, false, [.b (.d .bool false)], 1, .bool, false⟩),
  (5, ⟨some (.int .u8), 1, false, [.b (.d (.int .u8) (0:Int))], 1, .int .u8, false⟩),
  (6, ⟨some (.int .u8), 1, false, [.b (.d (.int .u8) (0:Int))], 1, .int .u8, false⟩),
  (7, ⟨some TBoundsError, 4, true, [.b (.d (.int .i64) (0:Int)), .b (.d (.int .i64) (0:Int)), .b (.d .bool false), .b (.d (.int .u8) (0:Int))], 24, .struct [(0, 2), (1, 3), (2, 4), (3, 6)], false⟩),
  (8, ⟨some TBoundsError, 4, true, [.b (.d (.int .i64) (0:Int)), .b (.d (.int .i64) (0:Int)), .b (.d .bool false), .b (.d (.int .u8) (0:Int))], 24, .struct [(0, 2), (1, 3), (2, 4), (3, 6)], false⟩),
  (9, ⟨some .str, 1, false, [.b (.d .str (⟨#[]⟩ : ByteArray))], 16, .str, false⟩),
  (10, ⟨some .str, 1, false, [.b (.d .str (⟨#[]⟩ : ByteArray))], 16, .str, false⟩),
  (11, ⟨some .str, 1, false, [.b (.d .str (⟨#[]⟩ : ByteArray))], 16, .str, false⟩),
  (12, ⟨some (.int .u64), 1, false, [.b (.d (.int .u64) (0:Int))], 8, .int .u64, false⟩),
  (13, ⟨some TErrorAddressString, 2, true, [.b (.d .str (⟨#[]⟩ : ByteArray)), .b (.d (.int .u64) (0:Int))], 24, .struct [(0, 9), (1, 12)], false⟩),
  (14, ⟨some TErrorAddressString, 2, true, [.b (.d .str (⟨#[]⟩ : ByteArray)), .b (.d (.int .u64) (0:Int))], 24, .struct [(0, 9), (1, 12)], false⟩),
  (21, ⟨some (.int .i32), 1, false, [.b (.d (.int .i32) (0:Int))], 4, .int .i32, false⟩),
  (22, ⟨some (.sl TCommit), 1, false, [.nil], 24, .slice 132, false⟩),
  (23, ⟨some (.sl TRef), 1, false, [.nil], 24, .slice 134, false⟩),
  (24, ⟨some TBase, 2, true, [.nil, .nil], 48, .struct [(0, 22), (1, 23)], false⟩),
  (25, ⟨some TBase, 2, true, [.nil, .nil], 48, .struct [(0, 22), (1, 23)], false⟩),
  (26, ⟨some (.sl TClient), 1, false, [.nil], 24, .slice 84, false⟩),
  (27, ⟨some (.sl TWatch), 1, false, [.nil], 24, .slice 88, false⟩),
  (28, ⟨some (.sl TMoment), 1, false, [.nil], 24, .slice 96, false⟩),
  (29, ⟨some TWorld, 6, true, [.nil, .nil, .nil, .nil, .nil, .b (.d (.int .i64) (0:Int))], 128, .struct [(0, 25), (2, 26), (3, 27), (4, 28), (5, 3)], false⟩),
  (30, ⟨some TWorld, 6, true, [.nil, .nil, .nil, .nil, .nil, .b (.d (.int .i64) (0:Int))], 128, .struct [(0, 25), (2, 26), (3, 27), (4, 28), (5, 3)], false⟩),
  (31, ⟨none, 1, false, [.undef], 8, .other, false⟩),
  (32, ⟨none, 1, false, [.undef], 8, .other, false⟩),
  (33, ⟨some (.sl TCommit), 1, false, [.nil], 24, .slice 149, false⟩),
  (34, ⟨some (.sl TRef), 1, false, [.nil], 24, .slice 115, false⟩),
  (35, ⟨some TBase, 2, true, [.nil, .nil], 48, .struct [(0, 33), (1, 34)], false⟩),
  (36, ⟨some TBase, 2, true, [.nil, .nil], 48, .struct [(0, 33), (1, 34)], false⟩),
  (37, ⟨some (.sl TClient), 1, false, [.nil], 24, .slice 58, false⟩),
  (38, ⟨some (.sl TWatch), 1, false, [.nil], 24, .slice 63, false⟩),
  (39, ⟨some (.sl TMoment), 1, false, [.nil], 24, .slice 73, false⟩),
  (40, ⟨some TWorld, 6, true, [.nil, .nil, .nil, .nil, .nil, .b (.d (.int .i64) (0:Int))], 128, .struct [(0, 36), (2, 37), (3, 38), (4, 39), (5, 3)], false⟩),
  (41, ⟨some TWorld, 6, true, [.nil, .nil, .nil, .nil, .nil, .b (.d (.int .i64) (0:Int))], 128, .struct [(0, 36), (2, 37), (3, 38), (4, 39), (5, 3)], false⟩),
  (42, ⟨none, 1, false, [.undef], 8, .other, false⟩),
  (43, ⟨none, 1, false, [.undef], 8, .other, false⟩),
  (44, ⟨none, 1, false, [.undef], 8, .other, false⟩),
  (45, ⟨none, 1, false, [.undef], 8, .other, false⟩),
  (46, ⟨none, 1, false, [.undef], 8, .other, false⟩),
  (47, ⟨none, 1, false, [.undef], 8, .other, false⟩),
  (48, ⟨none, 1, false, [.undef], 8, .other, false⟩),
  (49, ⟨none, 1, false, [.undef], 8, .other, false⟩),
  (50, ⟨none, 1, false, [.undef], 8, .other, false⟩),
  (51, ⟨none, 1, false, [.undef], 8, .other, false⟩),
  (52, ⟨none, 1, false, [.undef], 8, .other, false⟩),
  (53, ⟨none, 1, false, [.undef], 8, .other, false⟩),
  (54, ⟨none, 1, false, [.undef], 8, .other, false⟩),
  (55, ⟨some (.sl TWish), 1, false, [.nil], 24, .slice 118, false⟩),
  (56, ⟨some (.sl TEntry), 1, false, [.nil], 24, .slice 122, false⟩),
  (57, ⟨some TClient, 9, true, [.nil, .b (.d (.int .i64) (0:Int)), .b (.d (.int .i64) (0:Int)), .b (.d (.int .i64) (0:Int)), .b (.d (.int .i64) (0:Int)), .b (.d (.int .i64) (0:Int)), .b (.d (.int .i64) (0:Int)), .b (.d (.int .i64) (0:Int)), .nil], 104, .struct [(0, 55), (1, 3), (2, 3), (3, 3), (4, 3), (5, 3), (6, 3), (7, 3), (8, 56)], false⟩),
  (58, ⟨some TClient, 9, true, [.nil, .b (.d (.int .i64) (0:Int)), .b (.d (.int .i64) (0:Int)), .b (.d (.int .i64) (0:Int)), .b (.d (.int .i64) (0:Int)), .b (.d (.int .i64) (0:Int)), .b (.d (.int .i64) (0:Int)), .b (.d (.int .i64) (0:Int)), .nil], 104, .struct [(0, 55), (1, 3), (2, 3), (3, 3), (4, 3), (5, 3), (6, 3), (7, 3), (8, 56)], false⟩),
  (59, ⟨none, 1, false, [.undef], 8, .other, false⟩),
  (60, ⟨none, 1, false, [.undef], 8, .other, false⟩),
  (61, ⟨some (.sl TEvent), 1, false, [.nil], 24, .slice 125, false⟩),
  (62, ⟨some TWatch, 3, true, [.b (.d .str (⟨#[]⟩ : ByteArray)), .b (.d (.int .i64) (0:Int)), .nil], 48, .struct [(0, 9), (1, 3), (2, 61)], false⟩),
  (63, ⟨some TWatch, 3, true, [.b (.d .str (⟨#[]⟩ : ByteArray)), .b (.d (.int .i64) (0:Int)), .nil], 48, .struct [(0, 9), (1, 3), (2, 61)], false⟩),
  (64, ⟨none, 1, false, [.undef], 8, .other, false⟩),
  (65, ⟨none, 1, false, [.undef], 8, .other, false⟩),
  (66, ⟨some (.sl TEdit), 1, false, [.nil], 24, .slice 168, false⟩),
  (67, ⟨some TOp, 5, true, [.b (.d (.int .i64) (0:Int)), .b (.d (.int .i64) (0:Int)), .b (.d .str (⟨#[]⟩ : ByteArray)), .b (.d .str (⟨#[]⟩ : ByteArray)), .nil], 72, .struct [(0, 3), (1, 3), (2, 9), (3, 9), (4, 66)], false⟩),
  (68, ⟨some TOp, 5, true, [.b (.d (.int .i64) (0:Int)), .b (.d (.int .i64) (0:Int)), .b (.d .str (⟨#[]⟩ : ByteArray)), .b (.d .str (⟨#[]⟩ : ByteArray)), .nil], 72, .struct [(0, 3), (1, 3), (2, 9), (3, 9), (4, 66)], false⟩),
  (69, ⟨some (.sl .str), 1, false, [.nil], 24, .slice 9, false⟩),
  (70, ⟨some TResult, 5, true, [.b (.d (.int .i64) (0:Int)), .b (.d (.int .i64) (0:Int)), .b (.d (.int .i64) (0:Int)), .nil, .nil], 72, .struct [(0, 3), (1, 3), (2, 3), (3, 69), (4, 56)], false⟩),
  (71, ⟨some TResult, 5, true, [.b (.d (.int .i64) (0:Int)), .b (.d (.int .i64) (0:Int)), .b (.d (.int .i64) (0:Int)), .nil, .nil], 72, .struct [(0, 3), (1, 3), (2, 3), (3, 69), (4, 56)], false⟩),
  (72, ⟨some TMoment, 13, true, [.b (.d (.int .i64) (0:Int)), .b (.d (.int .i64) (0:Int)), .b (.d (.int .i64) (0:Int)), .b (.d (.int .i64) (0:Int)), .b (.d (.int .i64) (0:Int)), .b (.d .str (⟨#[]⟩ : ByteArray)), .b (.d .str (⟨#[]⟩ : ByteArray)), .nil, .b (.d (.int .i64) (0:Int)), .b (.d (.int .i64) (0:Int)), .b (.d (.int .i64) (0:Int)), .nil, .nil], 168, .struct [(0, 3), (1, 3), (2, 3), (3, 68), (8, 71)], false⟩),
  (73, ⟨some TMoment, 13, true, [.b (.d (.int .i64) (0:Int)), .b (.d (.int .i64) (0:Int)), .b (.d (.int .i64) (0:Int)), .b (.d (.int .i64) (0:Int)), .b (.d (.int .i64) (0:Int)), .b (.d .str (⟨#[]⟩ : ByteArray)), .b (.d .str (⟨#[]⟩ : ByteArray)), .nil, .b (.d (.int .i64) (0:Int)), .b (.d (.int .i64) (0:Int)), .b (.d (.int .i64) (0:Int)), .nil, .nil], 168, .struct [(0, 3), (1, 3), (2, 3), (3, 68), (8, 71)], false⟩),
  (74, ⟨none, 1, false, [.undef], 8, .other, false⟩),
  (75, ⟨none, 1, false, [.undef], 8, .other, false⟩),
  (76, ⟨none, 1, false, [.undef], 8, .other, false⟩),
  (77, ⟨none, 1, false, [.undef], 8, .other, false⟩),
  (78, ⟨none, 1, false, [.undef], 8, .other, false⟩),
  (79, ⟨none, 1, false, [.undef], 8, .other, false⟩),
  (80, ⟨none, 1, false, [.undef], 8, .other, false⟩),
  (81, ⟨some (.sl TWish), 1, false, [.nil], 24, .slice 176, false⟩),
  (82, ⟨some (.sl TEntry), 1, false, [.nil], 24, .slice 178, false⟩),
  (83, ⟨some TClient, 9, true, [.nil, .b (.d (.int .i64) (0:Int)), .b (.d (.int .i64) (0:Int)), .b (.d (.int .i64) (0:Int)), .b (.d (.int .i64) (0:Int)), .b (.d (.int .i64) (0:Int)), .b (.d (.int .i64) (0:Int)), .b (.d (.int .i64) (0:Int)), .nil], 104, .struct [(0, 81), (1, 3), (2, 3), (3, 3), (4, 3), (5, 3), (6, 3), (7, 3), (8, 82)], false⟩),
  (84, ⟨some TClient, 9, true, [.nil, .b (.d (.int .i64) (0:Int)), .b (.d (.int .i64) (0:Int)), .b (.d (.int .i64) (0:Int)), .b (.d (.int .i64) (0:Int)), .b (.d (.int .i64) (0:Int)), .b (.d (.int .i64) (0:Int)), .b (.d (.int .i64) (0:Int)), .nil], 104, .struct [(0, 81), (1, 3), (2, 3), (3, 3), (4, 3), (5, 3), (6, 3), (7, 3), (8, 82)], false⟩),
  (85, ⟨none, 1, false, [.undef], 8, .other, false⟩),
  (86, ⟨some (.sl TEvent), 1, false, [.nil], 24, .slice 190, false⟩),
  (87, ⟨some TWatch, 3, true, [.b (.d .str (⟨#[]⟩ : ByteArray)), .b (.d (.int .i64) (0:Int)), .nil], 48, .struct [(0, 9), (1, 3), (2, 86)], false⟩),
  (88, ⟨some TWatch, 3, true, [.b (.d .str (⟨#[]⟩ : ByteArray)), .b (.d (.int .i64) (0:Int)), .nil], 48, .struct [(0, 9), (1, 3), (2, 86)], false⟩),
  (89, ⟨none, 1, false, [.undef], 8, .other, false⟩),
  (90, ⟨some (.sl TEdit), 1, false, [.nil], 24, .slice 208, false⟩),
  (91, ⟨some TOp, 5, true, [.b (.d (.int .i64) (0:Int)), .b (.d (.int .i64) (0:Int)), .b (.d .str (⟨#[]⟩ : ByteArray)), .b (.d .str (⟨#[]⟩ : ByteArray)), .nil], 72, .struct [(0, 3), (1, 3), (2, 9), (3, 9), (4, 90)], false⟩),
  (92, ⟨some TOp, 5, true, [.b (.d (.int .i64) (0:Int)), .b (.d (.int .i64) (0:Int)), .b (.d .str (⟨#[]⟩ : ByteArray)), .b (.d .str (⟨#[]⟩ : ByteArray)), .nil], 72, .struct [(0, 3), (1, 3), (2, 9), (3, 9), (4, 90)], false⟩),
  (93, ⟨some TResult, 5, true, [.b (.d (.int .i64) (0:Int)), .b (.d (.int .i64) (0:Int)), .b (.d (.int .i64) (0:Int)), .nil, .nil], 72, .struct [(0, 3), (1, 3), (2, 3), (3, 69), (4, 82)], false⟩),
  (94, ⟨some TResult, 5, true, [.b (.d (.int .i64) (0:Int)), .b (.d (.int .i64) (0:Int)), .b (.d (.int .i64) (0:Int)), .nil, .nil], 72, .struct [(0, 3), (1, 3), (2, 3), (3, 69), (4, 82)], false⟩),
  (95, ⟨some TMoment, 13, true, [.b (.d (.int .i64) (0:Int)), .b (.d (.int .i64) (0:Int)), .b (.d (.int .i64) (0:Int)), .b (.d (.int .i64) (0:Int)), .b (.d (.int .i64) (0:Int)), .b (.d .str (⟨#[]⟩ : ByteArray)), .b (.d .str (⟨#[]⟩ : ByteArray)), .nil, .b (.d (.int .i64) (0:Int)), .b (.d (.int .i64) (0:Int)), .b (.d (.int .i64) (0:Int)), .nil, .nil], 168, .struct [(0, 3), (1, 3), (2, 3), (3, 92), (8, 94)], false⟩),
  (96, ⟨some TMoment, 13, true, [.b (.d (.int .i64) (0:Int)), .b (.d (.int .i64) (0:Int)), .b (.d (.int .i64) (0:Int)), .b (.d (.int .i64) (0:Int)), .b (.d (.int .i64) (0:Int)), .b (.d .str (⟨#[]⟩ : ByteArray)), .b (.d .str (⟨#[]⟩ : ByteArray)), .nil, .b (.d (.int .i64) (0:Int)), .b (.d (.int .i64) (0:Int)), .b (.d (.int .i64) (0:Int)), .nil, .nil], 168, .struct [(0, 3), (1, 3), (2, 3), (3, 92), (8, 94)], false⟩),
  (97, ⟨none, 1, false, [.undef], 8, .other, false⟩),
  (98, ⟨none, 1, false, [.undef], 8, .other, false⟩),
  (99, ⟨none, 1, false, [.undef], 8, .other, false⟩),
  (100, ⟨none, 1, false, [.undef], 8, .other, false⟩),
  (101, ⟨none, 1, false, [.undef], 8, .other, false⟩),
  (102, ⟨none, 1, false, [.undef], 8, .other, false⟩),
  (103, ⟨none, 1, false, [.undef], 8, .other, false⟩),
  (104, ⟨none, 1, false, [.undef], 8, .other, false⟩),
  (105, ⟨none, 1, false, [.undef], 8, .other, false⟩),
  (106, ⟨none, 1, false, [.undef], 8, .other, false⟩),
  (107, ⟨none, 1, false, [.undef], 8, .other, false⟩),
  (108, ⟨none, 1, false, [.undef], 8, .other, false⟩),
  (109, ⟨none, 1, false, [.undef], 8, .other, false⟩),
  (110, ⟨none, 1, false, [.undef], 8, .other, false⟩),
  (111, ⟨none, 1, false, [.undef], 8, .other, false⟩),
  (112, ⟨none, 1, false, [.undef], 8, .other, false⟩),
  (113, ⟨none, 1, false, [.undef], 8, .other, false⟩),
  (114, ⟨some TRef, 4, true, [.b (.d .str (⟨#[]⟩ : ByteArray)), .b (.d (.int .i64) (0:Int)), .b (.d (.int .i64) (0:Int)), .b (.d .bool false)], 40, .struct [(0, 9), (1, 3), (2, 3), (3, 4)], false⟩),
  (115, ⟨some TRef, 4, true, [.b (.d .str (⟨#[]⟩ : ByteArray)), .b (.d (.int .i64) (0:Int)), .b (.d (.int .i64) (0:Int)), .b (.d .bool false)], 40, .struct [(0, 9), (1, 3), (2, 3), (3, 4)], true⟩),
  (116, ⟨none, 1, false, [.undef], 8, .other, false⟩),
  (117, ⟨some TWish, 5, true, [.b (.d (.int .i64) (0:Int)), .b (.d .str (⟨#[]⟩ : ByteArray)), .b (.d .str (⟨#[]⟩ : ByteArray)), .b (.d .str (⟨#[]⟩ : ByteArray)), .nil], 80, .struct [(0, 3), (1, 9), (2, 9), (3, 9), (4, 66)], false⟩),
  (118, ⟨some TWish, 5, true, [.b (.d (.int .i64) (0:Int)), .b (.d .str (⟨#[]⟩ : ByteArray)), .b (.d .str (⟨#[]⟩ : ByteArray)), .b (.d .str (⟨#[]⟩ : ByteArray)), .nil], 80, .struct [(0, 3), (1, 9), (2, 9), (3, 9), (4, 66)], false⟩),
  (119, ⟨none, 1, false, [.undef], 8, .other, false⟩),
  (120, ⟨none, 1, false, [.undef], 8, .other, false⟩),
  (121, ⟨some TEntry, 2, true, [.b (.d .str (⟨#[]⟩ : ByteArray)), .b (.d (.int .i64) (0:Int))], 24, .struct [(0, 9), (1, 3)], false⟩),
  (122, ⟨some TEntry, 2, true, [.b (.d .str (⟨#[]⟩ : ByteArray)), .b (.d (.int .i64) (0:Int))], 24, .struct [(0, 9), (1, 3)], true⟩),
  (123, ⟨none, 1, false, [.undef], 8, .other, false⟩),
  (124, ⟨some TEvent, 3, true, [.b (.d (.int .i64) (0:Int)), .b (.d (.int .i64) (0:Int)), .b (.d .bool false)], 24, .struct [(0, 3), (1, 3), (2, 4)], false⟩),
  (125, ⟨some TEvent, 3, true, [.b (.d (.int .i64) (0:Int)), .b (.d (.int .i64) (0:Int)), .b (.d .bool false)], 24, .struct [(0, 3), (1, 3), (2, 4)], true⟩),
  (126, ⟨none, 1, false, [.undef], 8, .other, false⟩),
  (127, ⟨none, 1, false, [.undef], 8, .other, false⟩),
  (128, ⟨none, 1, false, [.undef], 8, .other, false⟩),
  (129, ⟨none, 1, false, [.undef], 8, .other, false⟩),
  (130, ⟨some (.sl (.int .i64)), 1, false, [.nil], 24, .slice 3, false⟩),
  (131, ⟨some TCommit, 2, true, [.nil, .nil], 48, .struct [(0, 130), (1, 82)], false⟩),
  (132, ⟨some TCommit, 2, true, [.nil, .nil], 48, .struct [(0, 130), (1, 82)], false⟩),
  (133, ⟨none, 1, false, [.undef], 8, .other, false⟩),
  (134, ⟨some TRef, 4, true, [.b (.d .str (⟨#[]⟩ : ByteArray)), .b (.d (.int .i64) (0:Int)), .b (.d (.int .i64) (0:Int)), .b (.d .bool false)], 40, .struct [(0, 9), (1, 3), (2, 3), (3, 4)], false⟩),
  (135, ⟨none, 1, false, [.undef], 8, .other, false⟩),
  (136, ⟨none, 1, false, [.undef], 8, .other, false⟩),
  (137, ⟨none, 1, false, [.undef], 8, .other, false⟩),
  (138, ⟨none, 1, false, [.undef], 8, .other, false⟩),
  (139, ⟨none, 1, false, [.undef], 8, .other, false⟩),
  (140, ⟨none, 1, false, [.undef], 8, .other, false⟩),
  (141, ⟨none, 1, false, [.undef], 8, .other, false⟩),
  (142, ⟨none, 1, false, [.undef], 8, .other, false⟩),
  (143, ⟨none, 1, false, [.undef], 8, .other, false⟩),
  (144, ⟨none, 1, false, [.undef], 8, .other, false⟩),
  (145, ⟨none, 1, false, [.undef], 8, .other, false⟩),
  (146, ⟨none, 1, false, [.undef], 8, .other, false⟩),
  (147, ⟨none, 1, false, [.undef], 8, .other, false⟩),
  (148, ⟨some TCommit, 2, true, [.nil, .nil], 48, .struct [(0, 130), (1, 56)], false⟩),
  (149, ⟨some TCommit, 2, true, [.nil, .nil], 48, .struct [(0, 130), (1, 56)], false⟩),
  (150, ⟨none, 1, false, [.undef], 8, .other, false⟩),
  (151, ⟨none, 1, false, [.undef], 8, .other, false⟩),
  (152, ⟨none, 1, false, [.undef], 8, .other, false⟩),
  (153, ⟨none, 1, false, [.undef], 8, .other, false⟩),
  (154, ⟨none, 1, false, [.undef], 8, .other, false⟩),
  (155, ⟨none, 1, false, [.undef], 8, .other, false⟩),
  (156, ⟨none, 1, false, [.undef], 8, .other, false⟩),
  (157, ⟨none, 1, false, [.undef], 8, .other, false⟩),
  (158, ⟨none, 1, false, [.undef], 8, .other, false⟩),
  (159, ⟨none, 1, false, [.undef], 8, .other, false⟩),
  (160, ⟨none, 1, false, [.undef], 8, .other, false⟩),
  (161, ⟨none, 1, false, [.undef], 8, .other, false⟩),
  (162, ⟨none, 1, false, [.undef], 8, .other, false⟩),
  (163, ⟨none, 1, false, [.undef], 8, .other, false⟩),
  (164, ⟨none, 1, false, [.undef], 8, .other, false⟩),
  (165, ⟨none, 1, false, [.undef], 8, .other, false⟩),
  (166, ⟨none, 1, false, [.undef], 8, .other, false⟩),
  (167, ⟨some TEdit, 3, true, [.b (.d .str (⟨#[]⟩ : ByteArray)), .b (.d (.int .i64) (0:Int)), .b (.d .bool false)], 32, .struct [(0, 9), (1, 3), (2, 4)], false⟩),
  (168, ⟨some TEdit, 3, true, [.b (.d .str (⟨#[]⟩ : ByteArray)), .b (.d (.int .i64) (0:Int)), .b (.d .bool false)], 32, .struct [(0, 9), (1, 3), (2, 4)], true⟩),
  (169, ⟨none, 1, false, [.undef], 8, .other, false⟩),
  (170, ⟨none, 1, false, [.undef], 8, .other, false⟩),
  (171, ⟨none, 1, false, [.undef], 8, .other, false⟩),
  (172, ⟨none, 1, false, [.undef], 8, .other, false⟩),
  (173, ⟨none, 1, false, [.undef], 8, .other, false⟩),
  (174, ⟨none, 1, false, [.undef], 8, .other, false⟩),
  (175, ⟨some TWish, 5, true, [.b (.d (.int .i64) (0:Int)), .b (.d .str (⟨#[]⟩ : ByteArray)), .b (.d .str (⟨#[]⟩ : ByteArray)), .b (.d .str (⟨#[]⟩ : ByteArray)), .nil], 80, .struct [(0, 3), (1, 9), (2, 9), (3, 9), (4, 90)], false⟩),
  (176, ⟨some TWish, 5, true, [.b (.d (.int .i64) (0:Int)), .b (.d .str (⟨#[]⟩ : ByteArray)), .b (.d .str (⟨#[]⟩ : ByteArray)), .b (.d .str (⟨#[]⟩ : ByteArray)), .nil], 80, .struct [(0, 3), (1, 9), (2, 9), (3, 9), (4, 90)], false⟩),
  (177, ⟨none, 1, false, [.undef], 8, .other, false⟩),
  (178, ⟨some TEntry, 2, true, [.b (.d .str (⟨#[]⟩ : ByteArray)), .b (.d (.int .i64) (0:Int))], 24, .struct [(0, 9), (1, 3)], false⟩),
  (179, ⟨none, 1, false, [.undef], 8, .other, false⟩),
  (180, ⟨none, 1, false, [.undef], 8, .other, false⟩),
  (181, ⟨none, 1, false, [.undef], 8, .other, false⟩),
  (183, ⟨none, 1, false, [.undef], 8, .other, false⟩),
  (184, ⟨none, 1, false, [.undef], 8, .other, false⟩),
  (185, ⟨none, 1, false, [.undef], 8, .other, false⟩),
  (186, ⟨none, 1, false, [.undef], 8, .other, false⟩),
  (187, ⟨none, 1, false, [.undef], 8, .other, false⟩),
  (188, ⟨none, 1, false, [.undef], 8, .other, false⟩),
  (189, ⟨none, 1, false, [.undef], 8, .other, false⟩),
  (190, ⟨some TEvent, 3, true, [.b (.d (.int .i64) (0:Int)), .b (.d (.int .i64) (0:Int)), .b (.d .bool false)], 24, .struct [(0, 3), (1, 3), (2, 4)], false⟩),
  (191, ⟨none, 1, false, [.undef], 8, .other, false⟩),
  (192, ⟨none, 1, false, [.undef], 8, .other, false⟩),
  (193, ⟨none, 1, false, [.undef], 8, .other, false⟩),
  (194, ⟨none, 1, false, [.undef], 8, .other, false⟩),
  (195, ⟨some TPlan, 5, true, [.b (.d .bool false), .nil, .nil, .nil, .b (.d (.int .i64) (0:Int))], 88, .struct [(0, 4), (1, 56), (2, 130), (3, 69), (4, 3)], false⟩),
  (196, ⟨some TPlan, 5, true, [.b (.d .bool false), .nil, .nil, .nil, .b (.d (.int .i64) (0:Int))], 88, .struct [(0, 4), (1, 56), (2, 130), (3, 69), (4, 3)], false⟩),
  (197, ⟨none, 1, false, [.undef], 8, .other, false⟩),
  (198, ⟨none, 1, false, [.undef], 8, .other, false⟩),
  (199, ⟨none, 1, false, [.undef], 8, .other, false⟩),
  (200, ⟨none, 1, false, [.undef], 8, .other, false⟩),
  (201, ⟨none, 1, false, [.undef], 8, .other, false⟩),
  (202, ⟨some (.sl (.int .u8)), 1, false, [.nil], 24, .slice 5, false⟩),
  (203, ⟨none, 1, false, [.undef], 8, .other, false⟩),
  (204, ⟨none, 1, false, [.undef], 8, .other, false⟩),
  (205, ⟨none, 1, false, [.undef], 8, .other, false⟩),
  (206, ⟨none, 1, false, [.undef], 8, .other, false⟩),
  (207, ⟨none, 1, false, [.undef], 8, .other, false⟩),
  (208, ⟨some TEdit, 3, true, [.b (.d .str (⟨#[]⟩ : ByteArray)), .b (.d (.int .i64) (0:Int)), .b (.d .bool false)], 32, .struct [(0, 9), (1, 3), (2, 4)], false⟩),
  (209, ⟨none, 1, false, [.undef], 8, .other, false⟩),
  (211, ⟨none, 1, false, [.undef], 8, .other, false⟩),
  (212, ⟨none, 1, false, [.undef], 8, .other, false⟩),
  (213, ⟨none, 1, false, [.undef], 8, .other, false⟩),
  (214, ⟨none, 1, false, [.undef], 8, .other, false⟩),
  (215, ⟨none, 1, false, [.undef], 8, .other, false⟩),
  (217, ⟨none, 1, false, [.undef], 8, .other, false⟩),
  (218, ⟨none, 1, false, [.undef], 8, .other, false⟩),
  (219, ⟨none, 1, false, [.undef], 8, .other, false⟩),
  (220, ⟨none, 1, false, [.undef], 8, .other, false⟩),
  (221, ⟨none, 1, false, [.undef], 8, .other, false⟩),
  (222, ⟨none, 1, false, [.undef], 8, .other, false⟩),
  (224, ⟨none, 1, false, [.undef], 8, .other, false⟩),
  (225, ⟨none, 1, false, [.undef], 8, .other, false⟩),
  (226, ⟨none, 1, false, [.undef], 8, .other, false⟩),
  (228, ⟨none, 1, false, [.undef], 8, .other, false⟩),
  (229, ⟨none, 1, false, [.undef], 8, .other, false⟩),
  (230, ⟨some (.sl .bool), 1, false, [.nil], 24, .slice 4, false⟩),
  (231, ⟨none, 1, false, [.undef], 8, .other, false⟩),
  (232, ⟨none, 1, false, [.undef], 8, .other, false⟩),
  (233, ⟨none, 1, false, [.undef], 8, .other, false⟩),
  (235, ⟨none, 1, false, [.undef], 8, .other, false⟩),
  (236, ⟨none, 1, false, [.undef], 8, .other, false⟩),
  (237, ⟨none, 1, false, [.undef], 8, .other, false⟩),
  (238, ⟨none, 1, false, [.undef], 8, .other, false⟩),
  (240, ⟨none, 1, false, [.undef], 8, .other, false⟩),
  (241, ⟨none, 1, false, [.undef], 8, .other, false⟩),
  (242, ⟨none, 1, false, [.undef], 8, .other, false⟩),
  (243, ⟨none, 1, false, [.undef], 8, .map 9 168, false⟩),
  (244, ⟨none, 1, false, [.undef], 8, .other, false⟩),
  (245, ⟨none, 1, false, [.undef], 8, .other, false⟩),
  (246, ⟨none, 1, false, [.undef], 8, .other, false⟩),
  (247, ⟨none, 1, false, [.undef], 8, .other, false⟩),
  (248, ⟨none, 1, false, [.undef], 8, .other, false⟩),
  (249, ⟨none, 1, false, [.undef], 8, .other, false⟩),
  (250, ⟨none, 1, false, [.undef], 8, .other, false⟩),
  (251, ⟨some (.int .u64), 1, false, [.b (.d (.int .u64) (0:Int))], 8, .int .u64, false⟩),
  (252, ⟨none, 1, false, [.undef], 8, .other, false⟩),
  (253, ⟨none, 1, false, [.undef], 8, .other, false⟩),
  (254, ⟨none, 1, false, [.undef], 8, .other, false⟩),
  (255, ⟨none, 1, false, [.undef], 8, .other, false⟩),
  (256, ⟨some (.int .i64), 1, false, [.b (.d (.int .i64) (0:Int))], 8, .int .i64, false⟩),
  (258, ⟨none, 1, false, [.undef], 8, .other, false⟩),
  (259, ⟨none, 1, false, [.undef], 8, .other, false⟩),
  (260, ⟨none, 1, false, [.undef], 8, .other, false⟩),
  (261, ⟨none, 1, false, [.undef], 8, .other, false⟩),
  (262, ⟨none, 1, false, [.undef], 8, .other, false⟩),
  (263, ⟨some (.int .u32), 1, false, [.b (.d (.int .u32) (0:Int))], 4, .int .u32, false⟩),
  (264, ⟨none, 1, false, [.undef], 8, .other, false⟩),
  (265, ⟨some (.int .u64), 1, false, [.b (.d (.int .u64) (0:Int))], 8, .int .u64, false⟩),
  (266, ⟨some (.int .u64), 1, false, [.b (.d (.int .u64) (0:Int))], 8, .int .u64, false⟩),
  (267, ⟨none, 1, false, [.undef], 8, .other, false⟩),
  (268, ⟨none, 1, false, [.undef], 8, .other, false⟩),
  (269, ⟨none, 1, false, [.undef], 8, .other, false⟩),
  (271, ⟨none, 1, false, [.undef], 8, .other, false⟩),
  (274, ⟨none, 1, false, [.undef], 8, .other, false⟩),
  (275, ⟨none, 1, false, [.undef], 8, .other, false⟩),
  (281, ⟨none, 1, false, [.undef], 8, .other, false⟩),
  (282, ⟨some (.int .u8), 1, false, [.b (.d (.int .u8) (0:Int))], 1, .int .u8, false⟩),
  (283, ⟨some (.int .u8), 1, false, [.b (.d (.int .u8) (0:Int))], 1, .int .u8, false⟩),
  (284, ⟨none, 1, false, [.undef], 8, .other, false⟩),
  (286, ⟨some (.int .i32), 1, false, [.b (.d (.int .i32) (0:Int))], 4, .int .i32, false⟩),
  (287, ⟨some (.int .i32), 1, false, [.b (.d (.int .i32) (0:Int))], 4, .int .i32, false⟩),
  (290, ⟨none, 1, false, [.undef], 8, .other, false⟩),
  (291, ⟨none, 1, false, [.undef], 8, .other, false⟩)]
theorem z0s : TabFits Tryz.prog tab = true := by kernel_rfl
theorem tabEqs : eqsOK Tryz.prog tab = true := by kernel_rfl
theorem mixed : Tryz.prog.follows .mixedOrders = true := by kernel_rfl
def z5y.E : Env := { tab := tab, fns := [], ann := { own := [], ro := [2] } }
def z5y.an : An := { pre := [] }
def z5y.S : Spec := { ats := [.v TEntry, .v (.int .i64)], rts := [(.int .i64)], F := fun x => z5y x.1 x.2.1 }
theorem z5y.eq (lp : Nat) (x : ADens [.v TEntry, .v (.int .i64)]) : evalF (z5y.E) z5y.an lp Tryz.f136 [.v TEntry, .v (.int .i64)] [(.int .i64)] x = (z5y.S).F x := by kernel_rfl
theorem z5y.ok : Sound Tryz.prog 136 (z5y.S) := sound_of (E := z5y.E) (env_ok z0s tabEqs trivial trivial) mixed Tryz.func136 (by kernel_rfl) (c := codeOf Tryz.f136) (by kernel_rfl) (by kernel_rfl) z5y.an (fun x r h => ⟨0, (z5y.eq 0 x).trans h⟩)
def z18.la5 : LoopAn := { kn := { tms := [0, 1, 5] }, kx := { tms := [1] }, kr := { tms := [4] } }
def z18.E (lp : Nat) : Env := { tab := tab, fns := [(136, z5y.S)], ann := { own := [], ro := [] } }
def z18.an : An := { loops := [(5, z18.la5)] }
def z18.s5 (x0 : List Entry) (x1 : Int) (x5 : Int) : St := ⟨.v (.one (.b (.d (.sl TEntry) x0))) :: .v (.one (.b (.d (.int .i64) x1))) :: (sk 3 (.v (.one (.b (.d (.int .i64) x5))) :: (sk 21 ([])))), sko 27 ([])⟩
def z18.sx5 (y : Int) : St := ⟨sk 1 (.v (.one (.b (.d (.int .i64) y))) :: (sk 25 ([]))), sko 27 ([])⟩
def z18.sr5 (z : Int) : St := ⟨sk 4 (.v (.one (.b (.d (.int .i64) z))) :: (sk 22 ([]))), sko 27 ([])⟩
def z18.S (lp : Nat) : Spec := { ats := [.v (.sl TEntry), .v (.int .i64)], rts := [(.int .i64)], F := fun x => z18 lp x.1 x.2.1 }
theorem z18.t_b5 (lp : Nat) {R : Type} (N : St → Option R) (X : Out → St → Option R) (x0 : List Entry) (x1 : Int) (x5 : Int) : codeK (z18.E lp) z18.an lp (loopAt 5 (codeOf Tryz.f77)) (z18.s5 x0 x1 x5) (lpK z18.la5 N X) = z18.b5 lp (fun x0 x1 x5 => N (z18.s5 x0 x1 x5)) (fun y => X (.exit 0) (z18.sx5 y)) (fun z => X .ret (z18.sr5 z)) x0 x1 x5 := by kernel_rfl
theorem z18.n_b5 (lp : Nat) {R S : Type} (N : List Entry → Int → Int → Option R) (X : Int → Option R) (Q : Int → Option R) (x0 : List Entry) (x1 : Int) (x5 : Int) (k : R → Option S) : obind (z18.b5 lp N X Q x0 x1 x5) k = z18.b5 lp (fun x0 x1 x5 => obind (N x0 x1 x5) k) (fun y => obind (X y) k) (fun z => obind (Q z) k) x0 x1 x5 := by
  unfold z18.b5; simp only [obind_none, obind_some, obind_cond, obind_oif, obind_oget, obind_obind]
theorem z18.k5 (lp : Nat) {R : Type} (K : Out → St → Option R) : ∀ (n : Nat) (x0 : List Entry) (x1 : Int) (x5 : Int), loopK z18.la5 (fun σ K => codeK (z18.E lp) z18.an lp (loopAt 5 (codeOf Tryz.f77)) σ K) n (z18.s5 x0 x1 x5) K = obind (z18.l5 lp n x0 x1 x5) (leK 0 z18.sr5 z18.sx5 K) := by
  intro n
  induction n with
  | zero => intros; rfl
  | succ n ih =>
    intro x0 x1 x5
    rw [loopK_succ, z18.t_b5, z18.l5, z18.n_b5]
    simp only [ih, obind_some, leK_ret, leK_brk]
theorem z18.t_a5 (lp : Nat) (y : Int) : kont (R := Int) (z18.E lp) z18.an lp (finK (z18.E lp) Tryz.f77 [(.int .i64)]) (stkAt 5 (codeOf Tryz.f77)) (.exit 0) (z18.sx5 y) = z18.a5 lp y := by kernel_rfl
theorem z18.t_q5 (lp : Nat) (z : Int) : kont (R := Int) (z18.E lp) z18.an lp (finK (z18.E lp) Tryz.f77 [(.int .i64)]) (stkAt 5 (codeOf Tryz.f77)) .ret (z18.sr5 z) = z18.q5 lp z := by kernel_rfl
theorem z18.t_e (lp : Nat) (x0 : List Entry) (x1 : Int) : evalF (z18.E lp) z18.an lp Tryz.f77 [.v (.sl TEntry), .v (.int .i64)] [(.int .i64)] (x0, x1, ()) = z18.e lp (fun x0 x1 x5 => loopK z18.la5 (fun σ K => codeK (z18.E lp) z18.an lp (loopAt 5 (codeOf Tryz.f77)) σ K) lp (z18.s5 x0 x1 x5) (kont (R := Int) (z18.E lp) z18.an lp (finK (z18.E lp) Tryz.f77 [(.int .i64)]) (stkAt 5 (codeOf Tryz.f77)))) x0 x1 := by kernel_rfl
theorem z18.eq0 (lp : Nat) (x0 : List Entry) (x1 : Int) : evalF (z18.E lp) z18.an lp Tryz.f77 [.v (.sl TEntry), .v (.int .i64)] [(.int .i64)] (x0, x1, ()) = z18 lp x0 x1 := by
  rw [z18.t_e]; unfold z18
  simp only [leK_leF _ z18.sr5 z18.sx5, z18.k5, z18.t_a5, z18.t_q5]
theorem z18.eq (lp : Nat) (x : ADens [.v (.sl TEntry), .v (.int .i64)]) : evalF (z18.E lp) z18.an lp Tryz.f77 [.v (.sl TEntry), .v (.int .i64)] [(.int .i64)] x = (z18.S lp).F x := z18.eq0 lp x.1 x.2.1
theorem z18.ok (lp : Nat) : Sound Tryz.prog 77 (z18.S lp) := sound_of (E := z18.E lp) (env_ok z0s tabEqs ⟨z5y.ok, trivial⟩ trivial) mixed Tryz.func77 (by kernel_rfl) (c := codeOf Tryz.f77) (by kernel_rfl) (by kernel_rfl) z18.an (fun x r h => ⟨lp, (z18.eq lp x).trans h⟩)
def z6s.E : Env := { tab := tab, fns := [], ann := { own := [], ro := [] } }
def z6s.an : An := { pre := [] }
def z6s.S : Spec := { ats := [.v (.sl (.int .i64)), .v (.int .i64)], rts := [(.int .i64)], F := fun x => z6s x.1 x.2.1 }
theorem z6s.eq (lp : Nat) (x : ADens [.v (.sl (.int .i64)), .v (.int .i64)]) : evalF (z6s.E) z6s.an lp Tryz.f134 [.v (.sl (.int .i64)), .v (.int .i64)] [(.int .i64)] x = (z6s.S).F x := by kernel_rfl
theorem z6s.ok : Sound Tryz.prog 134 (z6s.S) := sound_of (E := z6s.E) (env_ok z0s tabEqs trivial trivial) mixed Tryz.func134 (by kernel_rfl) (c := codeOf Tryz.f134) (by kernel_rfl) (by kernel_rfl) z6s.an (fun x r h => ⟨0, (z6s.eq 0 x).trans h⟩)
def z5b.E (lp : Nat) : Env := { tab := tab, fns := [(134, z6s.S), (77, z18.S lp)], ann := { own := [], ro := [2] } }
def z5b.an : An := { pre := [] }
def z5b.S (lp : Nat) : Spec := { ats := [.v TCommit, .v (.int .i64)], rts := [(.int .i64)], F := fun x => z5b lp x.1 x.2.1 }
theorem z5b.eq (lp : Nat) (x : ADens [.v TCommit, .v (.int .i64)]) : evalF (z5b.E lp) z5b.an lp Tryz.f74 [.v TCommit, .v (.int .i64)] [(.int .i64)] x = (z5b.S lp).F x := by kernel_rfl
theorem z5b.ok (lp : Nat) : Sound Tryz.prog 74 (z5b.S lp) := sound_of (E := z5b.E lp) (env_ok z0s tabEqs ⟨z6s.ok, z18.ok lp, trivial⟩ trivial) mixed Tryz.func74 (by kernel_rfl) (c := codeOf Tryz.f74) (by kernel_rfl) (by kernel_rfl) z5b.an (fun x r h => ⟨lp, (z5b.eq lp x).trans h⟩)
def z10.la5 : LoopAn := { kn := { tms := [0, 1, 5] }, kx := { tms := [1] }, kr := { tms := [4] } }
def z10.E (lp : Nat) : Env := { tab := tab, fns := [(74, z5b.S lp)], ann := { own := [], ro := [] } }
def z10.an : An := { loops := [(5, z10.la5)] }
def z10.s5 (x0 : List Commit) (x1 : Int) (x5 : Int) : St := ⟨.v (.one (.b (.d (.sl TCommit) x0))) :: .v (.one (.b (.d (.int .i64) x1))) :: (sk 3 (.v (.one (.b (.d (.int .i64) x5))) :: (sk 21 ([])))), sko 27 ([])⟩
def z10.sx5 (y : Int) : St := ⟨sk 1 (.v (.one (.b (.d (.int .i64) y))) :: (sk 25 ([]))), sko 27 ([])⟩
def z10.sr5 (z : Int) : St := ⟨sk 4 (.v (.one (.b (.d (.int .i64) z))) :: (sk 22 ([]))), sko 27 ([])⟩
def z10.S (lp : Nat) : Spec := { ats := [.v (.sl TCommit), .v (.int .i64)], rts := [(.int .i64)], F := fun x => z10 lp x.1 x.2.1 }
theorem z10.t_b5 (lp : Nat) {R : Type} (N : St → Option R) (X : Out → St → Option R) (x0 : List Commit) (x1 : Int) (x5 : Int) : codeK (z10.E lp) z10.an lp (loopAt 5 (codeOf Tryz.f31)) (z10.s5 x0 x1 x5) (lpK z10.la5 N X) = z10.b5 lp (fun x0 x1 x5 => N (z10.s5 x0 x1 x5)) (fun y => X (.exit 0) (z10.sx5 y)) (fun z => X .ret (z10.sr5 z)) x0 x1 x5 := by kernel_rfl
theorem z10.n_b5 (lp : Nat) {R S : Type} (N : List Commit → Int → Int → Option R) (X : Int → Option R) (Q : Int → Option R) (x0 : List Commit) (x1 : Int) (x5 : Int) (k : R → Option S) : obind (z10.b5 lp N X Q x0 x1 x5) k = z10.b5 lp (fun x0 x1 x5 => obind (N x0 x1 x5) k) (fun y => obind (X y) k) (fun z => obind (Q z) k) x0 x1 x5 := by
  unfold z10.b5; simp only [obind_none, obind_some, obind_cond, obind_oif, obind_oget, obind_obind]
theorem z10.k5 (lp : Nat) {R : Type} (K : Out → St → Option R) : ∀ (n : Nat) (x0 : List Commit) (x1 : Int) (x5 : Int), loopK z10.la5 (fun σ K => codeK (z10.E lp) z10.an lp (loopAt 5 (codeOf Tryz.f31)) σ K) n (z10.s5 x0 x1 x5) K = obind (z10.l5 lp n x0 x1 x5) (leK 0 z10.sr5 z10.sx5 K) := by
  intro n
  induction n with
  | zero => intros; rfl
  | succ n ih =>
    intro x0 x1 x5
    rw [loopK_succ, z10.t_b5, z10.l5, z10.n_b5]
    simp only [ih, obind_some, leK_ret, leK_brk]
theorem z10.t_a5 (lp : Nat) (y : Int) : kont (R := Int) (z10.E lp) z10.an lp (finK (z10.E lp) Tryz.f31 [(.int .i64)]) (stkAt 5 (codeOf Tryz.f31)) (.exit 0) (z10.sx5 y) = z10.a5 lp y := by kernel_rfl
theorem z10.t_q5 (lp : Nat) (z : Int) : kont (R := Int) (z10.E lp) z10.an lp (finK (z10.E lp) Tryz.f31 [(.int .i64)]) (stkAt 5 (codeOf Tryz.f31)) .ret (z10.sr5 z) = z10.q5 lp z := by kernel_rfl
theorem z10.t_e (lp : Nat) (x0 : List Commit) (x1 : Int) : evalF (z10.E lp) z10.an lp Tryz.f31 [.v (.sl TCommit), .v (.int .i64)] [(.int .i64)] (x0, x1, ()) = z10.e lp (fun x0 x1 x5 => loopK z10.la5 (fun σ K => codeK (z10.E lp) z10.an lp (loopAt 5 (codeOf Tryz.f31)) σ K) lp (z10.s5 x0 x1 x5) (kont (R := Int) (z10.E lp) z10.an lp (finK (z10.E lp) Tryz.f31 [(.int .i64)]) (stkAt 5 (codeOf Tryz.f31)))) x0 x1 := by kernel_rfl
theorem z10.eq0 (lp : Nat) (x0 : List Commit) (x1 : Int) : evalF (z10.E lp) z10.an lp Tryz.f31 [.v (.sl TCommit), .v (.int .i64)] [(.int .i64)] (x0, x1, ()) = z10 lp x0 x1 := by
  rw [z10.t_e]; unfold z10
  simp only [leK_leF _ z10.sr5 z10.sx5, z10.k5, z10.t_a5, z10.t_q5]
theorem z10.eq (lp : Nat) (x : ADens [.v (.sl TCommit), .v (.int .i64)]) : evalF (z10.E lp) z10.an lp Tryz.f31 [.v (.sl TCommit), .v (.int .i64)] [(.int .i64)] x = (z10.S lp).F x := z10.eq0 lp x.1 x.2.1
theorem z10.ok (lp : Nat) : Sound Tryz.prog 31 (z10.S lp) := sound_of (E := z10.E lp) (env_ok z0s tabEqs ⟨z5b.ok lp, trivial⟩ trivial) mixed Tryz.func31 (by kernel_rfl) (c := codeOf Tryz.f31) (by kernel_rfl) (by kernel_rfl) z10.an (fun x r h => ⟨lp, (z10.eq lp x).trans h⟩)
def z72.E : Env := { tab := tab, fns := [], ann := { own := [], ro := [2] } }
def z72.an : An := { pre := [] }
def z72.S : Spec := { ats := [.v TRef, .v (.int .i64)], rts := [(.int .i64)], F := fun x => z72 x.1 x.2.1 }
theorem z72.eq (lp : Nat) (x : ADens [.v TRef, .v (.int .i64)]) : evalF (z72.E) z72.an lp Tryz.f75 [.v TRef, .v (.int .i64)] [(.int .i64)] x = (z72.S).F x := by kernel_rfl
theorem z72.ok : Sound Tryz.prog 75 (z72.S) := sound_of (E := z72.E) (env_ok z0s tabEqs trivial trivial) mixed Tryz.func75 (by kernel_rfl) (c := codeOf Tryz.f75) (by kernel_rfl) (by kernel_rfl) z72.an (fun x r h => ⟨0, (z72.eq 0 x).trans h⟩)
def z28.la5 : LoopAn := { kn := { tms := [0, 1, 5] }, kx := { tms := [1] }, kr := { tms := [4] } }
def z28.E (lp : Nat) : Env := { tab := tab, fns := [(75, z72.S)], ann := { own := [], ro := [] } }
def z28.an : An := { loops := [(5, z28.la5)] }
def z28.s5 (x0 : List Ref) (x1 : Int) (x5 : Int) : St := ⟨.v (.one (.b (.d (.sl TRef) x0))) :: .v (.one (.b (.d (.int .i64) x1))) :: (sk 3 (.v (.one (.b (.d (.int .i64) x5))) :: (sk 21 ([])))), sko 27 ([])⟩
def z28.sx5 (y : Int) : St := ⟨sk 1 (.v (.one (.b (.d (.int .i64) y))) :: (sk 25 ([]))), sko 27 ([])⟩
def z28.sr5 (z : Int) : St := ⟨sk 4 (.v (.one (.b (.d (.int .i64) z))) :: (sk 22 ([]))), sko 27 ([])⟩
def z28.S (lp : Nat) : Spec := { ats := [.v (.sl TRef), .v (.int .i64)], rts := [(.int .i64)], F := fun x => z28 lp x.1 x.2.1 }
theorem z28.t_b5 (lp : Nat) {R : Type} (N : St → Option R) (X : Out → St → Option R) (x0 : List Ref) (x1 : Int) (x5 : Int) : codeK (z28.E lp) z28.an lp (loopAt 5 (codeOf Tryz.f32)) (z28.s5 x0 x1 x5) (lpK z28.la5 N X) = z28.b5 lp (fun x0 x1 x5 => N (z28.s5 x0 x1 x5)) (fun y => X (.exit 0) (z28.sx5 y)) (fun z => X .ret (z28.sr5 z)) x0 x1 x5 := by kernel_rfl
theorem z28.n_b5 (lp : Nat) {R S : Type} (N : List Ref → Int → Int → Option R) (X : Int → Option R) (Q : Int → Option R) (x0 : List Ref) (x1 : Int) (x5 : Int) (k : R → Option S) : obind (z28.b5 lp N X Q x0 x1 x5) k = z28.b5 lp (fun x0 x1 x5 => obind (N x0 x1 x5) k) (fun y => obind (X y) k) (fun z => obind (Q z) k) x0 x1 x5 := by
  unfold z28.b5; simp only [obind_none, obind_some, obind_cond, obind_oif, obind_oget, obind_obind]
theorem z28.k5 (lp : Nat) {R : Type} (K : Out → St → Option R) : ∀ (n : Nat) (x0 : List Ref) (x1 : Int) (x5 : Int), loopK z28.la5 (fun σ K => codeK (z28.E lp) z28.an lp (loopAt 5 (codeOf Tryz.f32)) σ K) n (z28.s5 x0 x1 x5) K = obind (z28.l5 lp n x0 x1 x5) (leK 0 z28.sr5 z28.sx5 K) := by
  intro n
  induction n with
  | zero => intros; rfl
  | succ n ih =>
    intro x0 x1 x5
    rw [loopK_succ, z28.t_b5, z28.l5, z28.n_b5]
    simp only [ih, obind_some, leK_ret, leK_brk]
theorem z28.t_a5 (lp : Nat) (y : Int) : kont (R := Int) (z28.E lp) z28.an lp (finK (z28.E lp) Tryz.f32 [(.int .i64)]) (stkAt 5 (codeOf Tryz.f32)) (.exit 0) (z28.sx5 y) = z28.a5 lp y := by kernel_rfl
theorem z28.t_q5 (lp : Nat) (z : Int) : kont (R := Int) (z28.E lp) z28.an lp (finK (z28.E lp) Tryz.f32 [(.int .i64)]) (stkAt 5 (codeOf Tryz.f32)) .ret (z28.sr5 z) = z28.q5 lp z := by kernel_rfl
theorem z28.t_e (lp : Nat) (x0 : List Ref) (x1 : Int) : evalF (z28.E lp) z28.an lp Tryz.f32 [.v (.sl TRef), .v (.int .i64)] [(.int .i64)] (x0, x1, ()) = z28.e lp (fun x0 x1 x5 => loopK z28.la5 (fun σ K => codeK (z28.E lp) z28.an lp (loopAt 5 (codeOf Tryz.f32)) σ K) lp (z28.s5 x0 x1 x5) (kont (R := Int) (z28.E lp) z28.an lp (finK (z28.E lp) Tryz.f32 [(.int .i64)]) (stkAt 5 (codeOf Tryz.f32)))) x0 x1 := by kernel_rfl
theorem z28.eq0 (lp : Nat) (x0 : List Ref) (x1 : Int) : evalF (z28.E lp) z28.an lp Tryz.f32 [.v (.sl TRef), .v (.int .i64)] [(.int .i64)] (x0, x1, ()) = z28 lp x0 x1 := by
  rw [z28.t_e]; unfold z28
  simp only [leK_leF _ z28.sr5 z28.sx5, z28.k5, z28.t_a5, z28.t_q5]
theorem z28.eq (lp : Nat) (x : ADens [.v (.sl TRef), .v (.int .i64)]) : evalF (z28.E lp) z28.an lp Tryz.f32 [.v (.sl TRef), .v (.int .i64)] [(.int .i64)] x = (z28.S lp).F x := z28.eq0 lp x.1 x.2.1
theorem z28.ok (lp : Nat) : Sound Tryz.prog 32 (z28.S lp) := sound_of (E := z28.E lp) (env_ok z0s tabEqs ⟨z72.ok, trivial⟩ trivial) mixed Tryz.func32 (by kernel_rfl) (c := codeOf Tryz.f32) (by kernel_rfl) (by kernel_rfl) z28.an (fun x r h => ⟨lp, (z28.eq lp x).trans h⟩)
def z6m.E (lp : Nat) : Env := { tab := tab, fns := [(31, z10.S lp), (32, z28.S lp)], ann := { own := [], ro := [2] } }
def z6m.an : An := { pre := [] }
def z6m.S (lp : Nat) : Spec := { ats := [.v TBase, .v (.int .i64)], rts := [(.int .i64)], F := fun x => z6m lp x.1 x.2.1 }
theorem z6m.eq (lp : Nat) (x : ADens [.v TBase, .v (.int .i64)]) : evalF (z6m.E lp) z6m.an lp Tryz.f9 [.v TBase, .v (.int .i64)] [(.int .i64)] x = (z6m.S lp).F x := by kernel_rfl
theorem z6m.ok (lp : Nat) : Sound Tryz.prog 9 (z6m.S lp) := sound_of (E := z6m.E lp) (env_ok z0s tabEqs ⟨z10.ok lp, z28.ok lp, trivial⟩ trivial) mixed Tryz.func9 (by kernel_rfl) (c := codeOf Tryz.f9) (by kernel_rfl) (by kernel_rfl) z6m.an (fun x r h => ⟨lp, (z6m.eq lp x).trans h⟩)
def z6q.E : Env := { tab := tab, fns := [], ann := { own := [], ro := [2] } }
def z6q.an : An := { pre := [] }
def z6q.S : Spec := { ats := [.v TEdit, .v (.int .i64)], rts := [(.int .i64)], F := fun x => z6q x.1 x.2.1 }
theorem z6q.eq (lp : Nat) (x : ADens [.v TEdit, .v (.int .i64)]) : evalF (z6q.E) z6q.an lp Tryz.f189 [.v TEdit, .v (.int .i64)] [(.int .i64)] x = (z6q.S).F x := by kernel_rfl
theorem z6q.ok : Sound Tryz.prog 189 (z6q.S) := sound_of (E := z6q.E) (env_ok z0s tabEqs trivial trivial) mixed Tryz.func189 (by kernel_rfl) (c := codeOf Tryz.f189) (by kernel_rfl) (by kernel_rfl) z6q.an (fun x r h => ⟨0, (z6q.eq 0 x).trans h⟩)
def z1p.la5 : LoopAn := { kn := { tms := [0, 1, 5] }, kx := { tms := [1] }, kr := { tms := [4] } }
def z1p.E (lp : Nat) : Env := { tab := tab, fns := [(189, z6q.S)], ann := { own := [], ro := [] } }
def z1p.an : An := { loops := [(5, z1p.la5)] }
def z1p.s5 (x0 : List Edit) (x1 : Int) (x5 : Int) : St := ⟨.v (.one (.b (.d (.sl TEdit) x0))) :: .v (.one (.b (.d (.int .i64) x1))) :: (sk 3 (.v (.one (.b (.d (.int .i64) x5))) :: (sk 21 ([])))), sko 27 ([])⟩
def z1p.sx5 (y : Int) : St := ⟨sk 1 (.v (.one (.b (.d (.int .i64) y))) :: (sk 25 ([]))), sko 27 ([])⟩
def z1p.sr5 (z : Int) : St := ⟨sk 4 (.v (.one (.b (.d (.int .i64) z))) :: (sk 22 ([]))), sko 27 ([])⟩
def z1p.S (lp : Nat) : Spec := { ats := [.v (.sl TEdit), .v (.int .i64)], rts := [(.int .i64)], F := fun x => z1p lp x.1 x.2.1 }
theorem z1p.t_b5 (lp : Nat) {R : Type} (N : St → Option R) (X : Out → St → Option R) (x0 : List Edit) (x1 : Int) (x5 : Int) : codeK (z1p.E lp) z1p.an lp (loopAt 5 (codeOf Tryz.f137)) (z1p.s5 x0 x1 x5) (lpK z1p.la5 N X) = z1p.b5 lp (fun x0 x1 x5 => N (z1p.s5 x0 x1 x5)) (fun y => X (.exit 0) (z1p.sx5 y)) (fun z => X .ret (z1p.sr5 z)) x0 x1 x5 := by kernel_rfl
theorem z1p.n_b5 (lp : Nat) {R S : Type} (N : List Edit → Int → Int → Option R) (X : Int → Option R) (Q : Int → Option R) (x0 : List Edit) (x1 : Int) (x5 : Int) (k : R → Option S) : obind (z1p.b5 lp N X Q x0 x1 x5) k = z1p.b5 lp (fun x0 x1 x5 => obind (N x0 x1 x5) k) (fun y => obind (X y) k) (fun z => obind (Q z) k) x0 x1 x5 := by
  unfold z1p.b5; simp only [obind_none, obind_some, obind_cond, obind_oif, obind_oget, obind_obind]
theorem z1p.k5 (lp : Nat) {R : Type} (K : Out → St → Option R) : ∀ (n : Nat) (x0 : List Edit) (x1 : Int) (x5 : Int), loopK z1p.la5 (fun σ K => codeK (z1p.E lp) z1p.an lp (loopAt 5 (codeOf Tryz.f137)) σ K) n (z1p.s5 x0 x1 x5) K = obind (z1p.l5 lp n x0 x1 x5) (leK 0 z1p.sr5 z1p.sx5 K) := by
  intro n
  induction n with
  | zero => intros; rfl
  | succ n ih =>
    intro x0 x1 x5
    rw [loopK_succ, z1p.t_b5, z1p.l5, z1p.n_b5]
    simp only [ih, obind_some, leK_ret, leK_brk]
theorem z1p.t_a5 (lp : Nat) (y : Int) : kont (R := Int) (z1p.E lp) z1p.an lp (finK (z1p.E lp) Tryz.f137 [(.int .i64)]) (stkAt 5 (codeOf Tryz.f137)) (.exit 0) (z1p.sx5 y) = z1p.a5 lp y := by kernel_rfl
theorem z1p.t_q5 (lp : Nat) (z : Int) : kont (R := Int) (z1p.E lp) z1p.an lp (finK (z1p.E lp) Tryz.f137 [(.int .i64)]) (stkAt 5 (codeOf Tryz.f137)) .ret (z1p.sr5 z) = z1p.q5 lp z := by kernel_rfl
theorem z1p.t_e (lp : Nat) (x0 : List Edit) (x1 : Int) : evalF (z1p.E lp) z1p.an lp Tryz.f137 [.v (.sl TEdit), .v (.int .i64)] [(.int .i64)] (x0, x1, ()) = z1p.e lp (fun x0 x1 x5 => loopK z1p.la5 (fun σ K => codeK (z1p.E lp) z1p.an lp (loopAt 5 (codeOf Tryz.f137)) σ K) lp (z1p.s5 x0 x1 x5) (kont (R := Int) (z1p.E lp) z1p.an lp (finK (z1p.E lp) Tryz.f137 [(.int .i64)]) (stkAt 5 (codeOf Tryz.f137)))) x0 x1 := by kernel_rfl
theorem z1p.eq0 (lp : Nat) (x0 : List Edit) (x1 : Int) : evalF (z1p.E lp) z1p.an lp Tryz.f137 [.v (.sl TEdit), .v (.int .i64)] [(.int .i64)] (x0, x1, ()) = z1p lp x0 x1 := by
  rw [z1p.t_e]; unfold z1p
  simp only [leK_leF _ z1p.sr5 z1p.sx5, z1p.k5, z1p.t_a5, z1p.t_q5]
theorem z1p.eq (lp : Nat) (x : ADens [.v (.sl TEdit), .v (.int .i64)]) : evalF (z1p.E lp) z1p.an lp Tryz.f137 [.v (.sl TEdit), .v (.int .i64)] [(.int .i64)] x = (z1p.S lp).F x := z1p.eq0 lp x.1 x.2.1
theorem z1p.ok (lp : Nat) : Sound Tryz.prog 137 (z1p.S lp) := sound_of (E := z1p.E lp) (env_ok z0s tabEqs ⟨z6q.ok, trivial⟩ trivial) mixed Tryz.func137 (by kernel_rfl) (c := codeOf Tryz.f137) (by kernel_rfl) (by kernel_rfl) z1p.an (fun x r h => ⟨lp, (z1p.eq lp x).trans h⟩)
def z6l.E (lp : Nat) : Env := { tab := tab, fns := [(137, z1p.S lp)], ann := { own := [], ro := [2] } }
def z6l.an : An := { pre := [] }
def z6l.S (lp : Nat) : Spec := { ats := [.v TWish, .v (.int .i64)], rts := [(.int .i64)], F := fun x => z6l lp x.1 x.2.1 }
theorem z6l.eq (lp : Nat) (x : ADens [.v TWish, .v (.int .i64)]) : evalF (z6l.E lp) z6l.an lp Tryz.f135 [.v TWish, .v (.int .i64)] [(.int .i64)] x = (z6l.S lp).F x := by kernel_rfl
theorem z6l.ok (lp : Nat) : Sound Tryz.prog 135 (z6l.S lp) := sound_of (E := z6l.E lp) (env_ok z0s tabEqs ⟨z1p.ok lp, trivial⟩ trivial) mixed Tryz.func135 (by kernel_rfl) (c := codeOf Tryz.f135) (by kernel_rfl) (by kernel_rfl) z6l.an (fun x r h => ⟨lp, (z6l.eq lp x).trans h⟩)
def z1r.la5 : LoopAn := { kn := { tms := [0, 1, 5] }, kx := { tms := [1] }, kr := { tms := [4] } }
def z1r.E (lp : Nat) : Env := { tab := tab, fns := [(135, z6l.S lp)], ann := { own := [], ro := [] } }
def z1r.an : An := { loops := [(5, z1r.la5)] }
def z1r.s5 (x0 : List Wish) (x1 : Int) (x5 : Int) : St := ⟨.v (.one (.b (.d (.sl TWish) x0))) :: .v (.one (.b (.d (.int .i64) x1))) :: (sk 3 (.v (.one (.b (.d (.int .i64) x5))) :: (sk 21 ([])))), sko 27 ([])⟩
def z1r.sx5 (y : Int) : St := ⟨sk 1 (.v (.one (.b (.d (.int .i64) y))) :: (sk 25 ([]))), sko 27 ([])⟩
def z1r.sr5 (z : Int) : St := ⟨sk 4 (.v (.one (.b (.d (.int .i64) z))) :: (sk 22 ([]))), sko 27 ([])⟩
def z1r.S (lp : Nat) : Spec := { ats := [.v (.sl TWish), .v (.int .i64)], rts := [(.int .i64)], F := fun x => z1r lp x.1 x.2.1 }
theorem z1r.t_b5 (lp : Nat) {R : Type} (N : St → Option R) (X : Out → St → Option R) (x0 : List Wish) (x1 : Int) (x5 : Int) : codeK (z1r.E lp) z1r.an lp (loopAt 5 (codeOf Tryz.f76)) (z1r.s5 x0 x1 x5) (lpK z1r.la5 N X) = z1r.b5 lp (fun x0 x1 x5 => N (z1r.s5 x0 x1 x5)) (fun y => X (.exit 0) (z1r.sx5 y)) (fun z => X .ret (z1r.sr5 z)) x0 x1 x5 := by kernel_rfl
theorem z1r.n_b5 (lp : Nat) {R S : Type} (N : List Wish → Int → Int → Option R) (X : Int → Option R) (Q : Int → Option R) (x0 : List Wish) (x1 : Int) (x5 : Int) (k : R → Option S) : obind (z1r.b5 lp N X Q x0 x1 x5) k = z1r.b5 lp (fun x0 x1 x5 => obind (N x0 x1 x5) k) (fun y => obind (X y) k) (fun z => obind (Q z) k) x0 x1 x5 := by
  unfold z1r.b5; simp only [obind_none, obind_some, obind_cond, obind_oif, obind_oget, obind_obind]
theorem z1r.k5 (lp : Nat) {R : Type} (K : Out → St → Option R) : ∀ (n : Nat) (x0 : List Wish) (x1 : Int) (x5 : Int), loopK z1r.la5 (fun σ K => codeK (z1r.E lp) z1r.an lp (loopAt 5 (codeOf Tryz.f76)) σ K) n (z1r.s5 x0 x1 x5) K = obind (z1r.l5 lp n x0 x1 x5) (leK 0 z1r.sr5 z1r.sx5 K) := by
  intro n
  induction n with
  | zero => intros; rfl
  | succ n ih =>
    intro x0 x1 x5
    rw [loopK_succ, z1r.t_b5, z1r.l5, z1r.n_b5]
    simp only [ih, obind_some, leK_ret, leK_brk]
theorem z1r.t_a5 (lp : Nat) (y : Int) : kont (R := Int) (z1r.E lp) z1r.an lp (finK (z1r.E lp) Tryz.f76 [(.int .i64)]) (stkAt 5 (codeOf Tryz.f76)) (.exit 0) (z1r.sx5 y) = z1r.a5 lp y := by kernel_rfl
theorem z1r.t_q5 (lp : Nat) (z : Int) : kont (R := Int) (z1r.E lp) z1r.an lp (finK (z1r.E lp) Tryz.f76 [(.int .i64)]) (stkAt 5 (codeOf Tryz.f76)) .ret (z1r.sr5 z) = z1r.q5 lp z := by kernel_rfl
theorem z1r.t_e (lp : Nat) (x0 : List Wish) (x1 : Int) : evalF (z1r.E lp) z1r.an lp Tryz.f76 [.v (.sl TWish), .v (.int .i64)] [(.int .i64)] (x0, x1, ()) = z1r.e lp (fun x0 x1 x5 => loopK z1r.la5 (fun σ K => codeK (z1r.E lp) z1r.an lp (loopAt 5 (codeOf Tryz.f76)) σ K) lp (z1r.s5 x0 x1 x5) (kont (R := Int) (z1r.E lp) z1r.an lp (finK (z1r.E lp) Tryz.f76 [(.int .i64)]) (stkAt 5 (codeOf Tryz.f76)))) x0 x1 := by kernel_rfl
theorem z1r.eq0 (lp : Nat) (x0 : List Wish) (x1 : Int) : evalF (z1r.E lp) z1r.an lp Tryz.f76 [.v (.sl TWish), .v (.int .i64)] [(.int .i64)] (x0, x1, ()) = z1r lp x0 x1 := by
  rw [z1r.t_e]; unfold z1r
  simp only [leK_leF _ z1r.sr5 z1r.sx5, z1r.k5, z1r.t_a5, z1r.t_q5]
theorem z1r.eq (lp : Nat) (x : ADens [.v (.sl TWish), .v (.int .i64)]) : evalF (z1r.E lp) z1r.an lp Tryz.f76 [.v (.sl TWish), .v (.int .i64)] [(.int .i64)] x = (z1r.S lp).F x := z1r.eq0 lp x.1 x.2.1
theorem z1r.ok (lp : Nat) : Sound Tryz.prog 76 (z1r.S lp) := sound_of (E := z1r.E lp) (env_ok z0s tabEqs ⟨z6l.ok lp, trivial⟩ trivial) mixed Tryz.func76 (by kernel_rfl) (c := codeOf Tryz.f76) (by kernel_rfl) (by kernel_rfl) z1r.an (fun x r h => ⟨lp, (z1r.eq lp x).trans h⟩)
def z5g.E (lp : Nat) : Env := { tab := tab, fns := [(76, z1r.S lp), (77, z18.S lp)], ann := { own := [], ro := [2] } }
def z5g.an : An := { pre := [] }
def z5g.S (lp : Nat) : Spec := { ats := [.v TClient, .v (.int .i64)], rts := [(.int .i64)], F := fun x => z5g lp x.1 x.2.1 }
theorem z5g.eq (lp : Nat) (x : ADens [.v TClient, .v (.int .i64)]) : evalF (z5g.E lp) z5g.an lp Tryz.f33 [.v TClient, .v (.int .i64)] [(.int .i64)] x = (z5g.S lp).F x := by kernel_rfl
theorem z5g.ok (lp : Nat) : Sound Tryz.prog 33 (z5g.S lp) := sound_of (E := z5g.E lp) (env_ok z0s tabEqs ⟨z1r.ok lp, z18.ok lp, trivial⟩ trivial) mixed Tryz.func33 (by kernel_rfl) (c := codeOf Tryz.f33) (by kernel_rfl) (by kernel_rfl) z5g.an (fun x r h => ⟨lp, (z5g.eq lp x).trans h⟩)
def z0z.la5 : LoopAn := { kn := { tms := [0, 1, 5] }, kx := { tms := [1] }, kr := { tms := [4] } }
def z0z.E (lp : Nat) : Env := { tab := tab, fns := [(33, z5g.S lp)], ann := { own := [], ro := [] } }
def z0z.an : An := { loops := [(5, z0z.la5)] }
def z0z.s5 (x0 : List Client) (x1 : Int) (x5 : Int) : St := ⟨.v (.one (.b (.d (.sl TClient) x0))) :: .v (.one (.b (.d (.int .i64) x1))) :: (sk 3 (.v (.one (.b (.d (.int .i64) x5))) :: (sk 21 ([])))), sko 27 ([])⟩
def z0z.sx5 (y : Int) : St := ⟨sk 1 (.v (.one (.b (.d (.int .i64) y))) :: (sk 25 ([]))), sko 27 ([])⟩
def z0z.sr5 (z : Int) : St := ⟨sk 4 (.v (.one (.b (.d (.int .i64) z))) :: (sk 22 ([]))), sko 27 ([])⟩
def z0z.S (lp : Nat) : Spec := { ats := [.v (.sl TClient), .v (.int .i64)], rts := [(.int .i64)], F := fun x => z0z lp x.1 x.2.1 }
theorem z0z.t_b5 (lp : Nat) {R : Type} (N : St → Option R) (X : Out → St → Option R) (x0 : List Client) (x1 : Int) (x5 : Int) : codeK (z0z.E lp) z0z.an lp (loopAt 5 (codeOf Tryz.f10)) (z0z.s5 x0 x1 x5) (lpK z0z.la5 N X) = z0z.b5 lp (fun x0 x1 x5 => N (z0z.s5 x0 x1 x5)) (fun y => X (.exit 0) (z0z.sx5 y)) (fun z => X .ret (z0z.sr5 z)) x0 x1 x5 := by kernel_rfl
theorem z0z.n_b5 (lp : Nat) {R S : Type} (N : List Client → Int → Int → Option R) (X : Int → Option R) (Q : Int → Option R) (x0 : List Client) (x1 : Int) (x5 : Int) (k : R → Option S) : obind (z0z.b5 lp N X Q x0 x1 x5) k = z0z.b5 lp (fun x0 x1 x5 => obind (N x0 x1 x5) k) (fun y => obind (X y) k) (fun z => obind (Q z) k) x0 x1 x5 := by
  unfold z0z.b5; simp only [obind_none, obind_some, obind_cond, obind_oif, obind_oget, obind_obind]
theorem z0z.k5 (lp : Nat) {R : Type} (K : Out → St → Option R) : ∀ (n : Nat) (x0 : List Client) (x1 : Int) (x5 : Int), loopK z0z.la5 (fun σ K => codeK (z0z.E lp) z0z.an lp (loopAt 5 (codeOf Tryz.f10)) σ K) n (z0z.s5 x0 x1 x5) K = obind (z0z.l5 lp n x0 x1 x5) (leK 0 z0z.sr5 z0z.sx5 K) := by
  intro n
  induction n with
  | zero => intros; rfl
  | succ n ih =>
    intro x0 x1 x5
    rw [loopK_succ, z0z.t_b5, z0z.l5, z0z.n_b5]
    simp only [ih, obind_some, leK_ret, leK_brk]
theorem z0z.t_a5 (lp : Nat) (y : Int) : kont (R := Int) (z0z.E lp) z0z.an lp (finK (z0z.E lp) Tryz.f10 [(.int .i64)]) (stkAt 5 (codeOf Tryz.f10)) (.exit 0) (z0z.sx5 y) = z0z.a5 lp y := by kernel_rfl
theorem z0z.t_q5 (lp : Nat) (z : Int) : kont (R := Int) (z0z.E lp) z0z.an lp (finK (z0z.E lp) Tryz.f10 [(.int .i64)]) (stkAt 5 (codeOf Tryz.f10)) .ret (z0z.sr5 z) = z0z.q5 lp z := by kernel_rfl
theorem z0z.t_e (lp : Nat) (x0 : List Client) (x1 : Int) : evalF (z0z.E lp) z0z.an lp Tryz.f10 [.v (.sl TClient), .v (.int .i64)] [(.int .i64)] (x0, x1, ()) = z0z.e lp (fun x0 x1 x5 => loopK z0z.la5 (fun σ K => codeK (z0z.E lp) z0z.an lp (loopAt 5 (codeOf Tryz.f10)) σ K) lp (z0z.s5 x0 x1 x5) (kont (R := Int) (z0z.E lp) z0z.an lp (finK (z0z.E lp) Tryz.f10 [(.int .i64)]) (stkAt 5 (codeOf Tryz.f10)))) x0 x1 := by kernel_rfl
theorem z0z.eq0 (lp : Nat) (x0 : List Client) (x1 : Int) : evalF (z0z.E lp) z0z.an lp Tryz.f10 [.v (.sl TClient), .v (.int .i64)] [(.int .i64)] (x0, x1, ()) = z0z lp x0 x1 := by
  rw [z0z.t_e]; unfold z0z
  simp only [leK_leF _ z0z.sr5 z0z.sx5, z0z.k5, z0z.t_a5, z0z.t_q5]
theorem z0z.eq (lp : Nat) (x : ADens [.v (.sl TClient), .v (.int .i64)]) : evalF (z0z.E lp) z0z.an lp Tryz.f10 [.v (.sl TClient), .v (.int .i64)] [(.int .i64)] x = (z0z.S lp).F x := z0z.eq0 lp x.1 x.2.1
theorem z0z.ok (lp : Nat) : Sound Tryz.prog 10 (z0z.S lp) := sound_of (E := z0z.E lp) (env_ok z0s tabEqs ⟨z5g.ok lp, trivial⟩ trivial) mixed Tryz.func10 (by kernel_rfl) (c := codeOf Tryz.f10) (by kernel_rfl) (by kernel_rfl) z0z.an (fun x r h => ⟨lp, (z0z.eq lp x).trans h⟩)
def z5t.E : Env := { tab := tab, fns := [], ann := { own := [], ro := [] } }
def z5t.an : An := { pre := [] }
def z5t.S : Spec := { ats := [.v (.sl TEvent), .v (.int .i64)], rts := [(.int .i64)], F := fun x => z5t x.1 x.2.1 }
theorem z5t.eq (lp : Nat) (x : ADens [.v (.sl TEvent), .v (.int .i64)]) : evalF (z5t.E) z5t.an lp Tryz.f78 [.v (.sl TEvent), .v (.int .i64)] [(.int .i64)] x = (z5t.S).F x := by kernel_rfl
theorem z5t.ok : Sound Tryz.prog 78 (z5t.S) := sound_of (E := z5t.E) (env_ok z0s tabEqs trivial trivial) mixed Tryz.func78 (by kernel_rfl) (c := codeOf Tryz.f78) (by kernel_rfl) (by kernel_rfl) z5t.an (fun x r h => ⟨0, (z5t.eq 0 x).trans h⟩)
def z61.E : Env := { tab := tab, fns := [(78, z5t.S)], ann := { own := [], ro := [2] } }
def z61.an : An := { pre := [] }
def z61.S : Spec := { ats := [.v TWatch, .v (.int .i64)], rts := [(.int .i64)], F := fun x => z61 x.1 x.2.1 }
theorem z61.eq (lp : Nat) (x : ADens [.v TWatch, .v (.int .i64)]) : evalF (z61.E) z61.an lp Tryz.f34 [.v TWatch, .v (.int .i64)] [(.int .i64)] x = (z61.S).F x := by kernel_rfl
theorem z61.ok : Sound Tryz.prog 34 (z61.S) := sound_of (E := z61.E) (env_ok z0s tabEqs ⟨z5t.ok, trivial⟩ trivial) mixed Tryz.func34 (by kernel_rfl) (c := codeOf Tryz.f34) (by kernel_rfl) (by kernel_rfl) z61.an (fun x r h => ⟨0, (z61.eq 0 x).trans h⟩)
def z1c.la5 : LoopAn := { kn := { tms := [0, 1, 5] }, kx := { tms := [1] }, kr := { tms := [4] } }
def z1c.E (lp : Nat) : Env := { tab := tab, fns := [(34, z61.S)], ann := { own := [], ro := [] } }
def z1c.an : An := { loops := [(5, z1c.la5)] }
def z1c.s5 (x0 : List Watch) (x1 : Int) (x5 : Int) : St := ⟨.v (.one (.b (.d (.sl TWatch) x0))) :: .v (.one (.b (.d (.int .i64) x1))) :: (sk 3 (.v (.one (.b (.d (.int .i64) x5))) :: (sk 21 ([])))), sko 27 ([])⟩
def z1c.sx5 (y : Int) : St := ⟨sk 1 (.v (.one (.b (.d (.int .i64) y))) :: (sk 25 ([]))), sko 27 ([])⟩
def z1c.sr5 (z : Int) : St := ⟨sk 4 (.v (.one (.b (.d (.int .i64) z))) :: (sk 22 ([]))), sko 27 ([])⟩
def z1c.S (lp : Nat) : Spec := { ats := [.v (.sl TWatch), .v (.int .i64)], rts := [(.int .i64)], F := fun x => z1c lp x.1 x.2.1 }
theorem z1c.t_b5 (lp : Nat) {R : Type} (N : St → Option R) (X : Out → St → Option R) (x0 : List Watch) (x1 : Int) (x5 : Int) : codeK (z1c.E lp) z1c.an lp (loopAt 5 (codeOf Tryz.f11)) (z1c.s5 x0 x1 x5) (lpK z1c.la5 N X) = z1c.b5 lp (fun x0 x1 x5 => N (z1c.s5 x0 x1 x5)) (fun y => X (.exit 0) (z1c.sx5 y)) (fun z => X .ret (z1c.sr5 z)) x0 x1 x5 := by kernel_rfl
theorem z1c.n_b5 (lp : Nat) {R S : Type} (N : List Watch → Int → Int → Option R) (X : Int → Option R) (Q : Int → Option R) (x0 : List Watch) (x1 : Int) (x5 : Int) (k : R → Option S) : obind (z1c.b5 lp N X Q x0 x1 x5) k = z1c.b5 lp (fun x0 x1 x5 => obind (N x0 x1 x5) k) (fun y => obind (X y) k) (fun z => obind (Q z) k) x0 x1 x5 := by
  unfold z1c.b5; simp only [obind_none, obind_some, obind_cond, obind_oif, obind_oget, obind_obind]
theorem z1c.k5 (lp : Nat) {R : Type} (K : Out → St → Option R) : ∀ (n : Nat) (x0 : List Watch) (x1 : Int) (x5 : Int), loopK z1c.la5 (fun σ K => codeK (z1c.E lp) z1c.an lp (loopAt 5 (codeOf Tryz.f11)) σ K) n (z1c.s5 x0 x1 x5) K = obind (z1c.l5 lp n x0 x1 x5) (leK 0 z1c.sr5 z1c.sx5 K) := by
  intro n
  induction n with
  | zero => intros; rfl
  | succ n ih =>
    intro x0 x1 x5
    rw [loopK_succ, z1c.t_b5, z1c.l5, z1c.n_b5]
    simp only [ih, obind_some, leK_ret, leK_brk]
theorem z1c.t_a5 (lp : Nat) (y : Int) : kont (R := Int) (z1c.E lp) z1c.an lp (finK (z1c.E lp) Tryz.f11 [(.int .i64)]) (stkAt 5 (codeOf Tryz.f11)) (.exit 0) (z1c.sx5 y) = z1c.a5 lp y := by kernel_rfl
theorem z1c.t_q5 (lp : Nat) (z : Int) : kont (R := Int) (z1c.E lp) z1c.an lp (finK (z1c.E lp) Tryz.f11 [(.int .i64)]) (stkAt 5 (codeOf Tryz.f11)) .ret (z1c.sr5 z) = z1c.q5 lp z := by kernel_rfl
theorem z1c.t_e (lp : Nat) (x0 : List Watch) (x1 : Int) : evalF (z1c.E lp) z1c.an lp Tryz.f11 [.v (.sl TWatch), .v (.int .i64)] [(.int .i64)] (x0, x1, ()) = z1c.e lp (fun x0 x1 x5 => loopK z1c.la5 (fun σ K => codeK (z1c.E lp) z1c.an lp (loopAt 5 (codeOf Tryz.f11)) σ K) lp (z1c.s5 x0 x1 x5) (kont (R := Int) (z1c.E lp) z1c.an lp (finK (z1c.E lp) Tryz.f11 [(.int .i64)]) (stkAt 5 (codeOf Tryz.f11)))) x0 x1 := by kernel_rfl
theorem z1c.eq0 (lp : Nat) (x0 : List Watch) (x1 : Int) : evalF (z1c.E lp) z1c.an lp Tryz.f11 [.v (.sl TWatch), .v (.int .i64)] [(.int .i64)] (x0, x1, ()) = z1c lp x0 x1 := by
  rw [z1c.t_e]; unfold z1c
  simp only [leK_leF _ z1c.sr5 z1c.sx5, z1c.k5, z1c.t_a5, z1c.t_q5]
theorem z1c.eq (lp : Nat) (x : ADens [.v (.sl TWatch), .v (.int .i64)]) : evalF (z1c.E lp) z1c.an lp Tryz.f11 [.v (.sl TWatch), .v (.int .i64)] [(.int .i64)] x = (z1c.S lp).F x := z1c.eq0 lp x.1 x.2.1
theorem z1c.ok (lp : Nat) : Sound Tryz.prog 11 (z1c.S lp) := sound_of (E := z1c.E lp) (env_ok z0s tabEqs ⟨z61.ok, trivial⟩ trivial) mixed Tryz.func11 (by kernel_rfl) (c := codeOf Tryz.f11) (by kernel_rfl) (by kernel_rfl) z1c.an (fun x r h => ⟨lp, (z1c.eq lp x).trans h⟩)
def z79.E (lp : Nat) : Env := { tab := tab, fns := [(137, z1p.S lp)], ann := { own := [], ro := [2] } }
def z79.an : An := { pre := [] }
def z79.S (lp : Nat) : Spec := { ats := [.v TOp, .v (.int .i64)], rts := [(.int .i64)], F := fun x => z79 lp x.1 x.2.1 }
theorem z79.eq (lp : Nat) (x : ADens [.v TOp, .v (.int .i64)]) : evalF (z79.E lp) z79.an lp Tryz.f79 [.v TOp, .v (.int .i64)] [(.int .i64)] x = (z79.S lp).F x := by kernel_rfl
theorem z79.ok (lp : Nat) : Sound Tryz.prog 79 (z79.S lp) := sound_of (E := z79.E lp) (env_ok z0s tabEqs ⟨z1p.ok lp, trivial⟩ trivial) mixed Tryz.func79 (by kernel_rfl) (c := codeOf Tryz.f79) (by kernel_rfl) (by kernel_rfl) z79.an (fun x r h => ⟨lp, (z79.eq lp x).trans h⟩)
def z0v.la5 : LoopAn := { kn := { tms := [0, 1, 5] }, kx := { tms := [1] }, kr := { tms := [4] } }
def z0v.E (lp : Nat) : Env := { tab := tab, fns := [], ann := { own := [], ro := [] } }
def z0v.an : An := { loops := [(5, z0v.la5)] }
def z0v.s5 (x0 : List ByteArray) (x1 : Int) (x5 : Int) : St := ⟨.v (.one (.b (.d (.sl .str) x0))) :: .v (.one (.b (.d (.int .i64) x1))) :: (sk 3 (.v (.one (.b (.d (.int .i64) x5))) :: (sk 22 ([])))), sko 28 ([])⟩
def z0v.sx5 (y : Int) : St := ⟨sk 1 (.v (.one (.b (.d (.int .i64) y))) :: (sk 26 ([]))), sko 28 ([])⟩
def z0v.sr5 (z : Int) : St := ⟨sk 4 (.v (.one (.b (.d (.int .i64) z))) :: (sk 23 ([]))), sko 28 ([])⟩
def z0v.S (lp : Nat) : Spec := { ats := [.v (.sl .str), .v (.int .i64)], rts := [(.int .i64)], F := fun x => z0v lp x.1 x.2.1 }
theorem z0v.t_b5 (lp : Nat) {R : Type} (N : St → Option R) (X : Out → St → Option R) (x0 : List ByteArray) (x1 : Int) (x5 : Int) : codeK (z0v.E lp) z0v.an lp (loopAt 5 (codeOf Tryz.f138)) (z0v.s5 x0 x1 x5) (lpK z0v.la5 N X) = z0v.b5 lp (fun x0 x1 x5 => N (z0v.s5 x0 x1 x5)) (fun y => X (.exit 0) (z0v.sx5 y)) (fun z => X .ret (z0v.sr5 z)) x0 x1 x5 := by kernel_rfl
theorem z0v.n_b5 (lp : Nat) {R S : Type} (N : List ByteArray → Int → Int → Option R) (X : Int → Option R) (Q : Int → Option R) (x0 : List ByteArray) (x1 : Int) (x5 : Int) (k : R → Option S) : obind (z0v.b5 lp N X Q x0 x1 x5) k = z0v.b5 lp (fun x0 x1 x5 => obind (N x0 x1 x5) k) (fun y => obind (X y) k) (fun z => obind (Q z) k) x0 x1 x5 := by
  unfold z0v.b5; simp only [obind_none, obind_some, obind_cond, obind_oif, obind_oget, obind_obind]
theorem z0v.k5 (lp : Nat) {R : Type} (K : Out → St → Option R) : ∀ (n : Nat) (x0 : List ByteArray) (x1 : Int) (x5 : Int), loopK z0v.la5 (fun σ K => codeK (z0v.E lp) z0v.an lp (loopAt 5 (codeOf Tryz.f138)) σ K) n (z0v.s5 x0 x1 x5) K = obind (z0v.l5 lp n x0 x1 x5) (leK 0 z0v.sr5 z0v.sx5 K) := by
  intro n
  induction n with
  | zero => intros; rfl
  | succ n ih =>
    intro x0 x1 x5
    rw [loopK_succ, z0v.t_b5, z0v.l5, z0v.n_b5]
    simp only [ih, obind_some, leK_ret, leK_brk]
theorem z0v.t_a5 (lp : Nat) (y : Int) : kont (R := Int) (z0v.E lp) z0v.an lp (finK (z0v.E lp) Tryz.f138 [(.int .i64)]) (stkAt 5 (codeOf Tryz.f138)) (.exit 0) (z0v.sx5 y) = z0v.a5 lp y := by kernel_rfl
theorem z0v.t_q5 (lp : Nat) (z : Int) : kont (R := Int) (z0v.E lp) z0v.an lp (finK (z0v.E lp) Tryz.f138 [(.int .i64)]) (stkAt 5 (codeOf Tryz.f138)) .ret (z0v.sr5 z) = z0v.q5 lp z := by kernel_rfl
theorem z0v.t_e (lp : Nat) (x0 : List ByteArray) (x1 : Int) : evalF (z0v.E lp) z0v.an lp Tryz.f138 [.v (.sl .str), .v (.int .i64)] [(.int .i64)] (x0, x1, ()) = z0v.e lp (fun x0 x1 x5 => loopK z0v.la5 (fun σ K => codeK (z0v.E lp) z0v.an lp (loopAt 5 (codeOf Tryz.f138)) σ K) lp (z0v.s5 x0 x1 x5) (kont (R := Int) (z0v.E lp) z0v.an lp (finK (z0v.E lp) Tryz.f138 [(.int .i64)]) (stkAt 5 (codeOf Tryz.f138)))) x0 x1 := by kernel_rfl
theorem z0v.eq0 (lp : Nat) (x0 : List ByteArray) (x1 : Int) : evalF (z0v.E lp) z0v.an lp Tryz.f138 [.v (.sl .str), .v (.int .i64)] [(.int .i64)] (x0, x1, ()) = z0v lp x0 x1 := by
  rw [z0v.t_e]; unfold z0v
  simp only [leK_leF _ z0v.sr5 z0v.sx5, z0v.k5, z0v.t_a5, z0v.t_q5]
theorem z0v.eq (lp : Nat) (x : ADens [.v (.sl .str), .v (.int .i64)]) : evalF (z0v.E lp) z0v.an lp Tryz.f138 [.v (.sl .str), .v (.int .i64)] [(.int .i64)] x = (z0v.S lp).F x := z0v.eq0 lp x.1 x.2.1
theorem z0v.ok (lp : Nat) : Sound Tryz.prog 138 (z0v.S lp) := sound_of (E := z0v.E lp) (env_ok z0s tabEqs trivial trivial) mixed Tryz.func138 (by kernel_rfl) (c := codeOf Tryz.f138) (by kernel_rfl) (by kernel_rfl) z0v.an (fun x r h => ⟨lp, (z0v.eq lp x).trans h⟩)
def z5j.E (lp : Nat) : Env := { tab := tab, fns := [(138, z0v.S lp), (77, z18.S lp)], ann := { own := [], ro := [2] } }
def z5j.an : An := { pre := [] }
def z5j.S (lp : Nat) : Spec := { ats := [.v TResult, .v (.int .i64)], rts := [(.int .i64)], F := fun x => z5j lp x.1 x.2.1 }
theorem z5j.eq (lp : Nat) (x : ADens [.v TResult, .v (.int .i64)]) : evalF (z5j.E lp) z5j.an lp Tryz.f80 [.v TResult, .v (.int .i64)] [(.int .i64)] x = (z5j.S lp).F x := by kernel_rfl
theorem z5j.ok (lp : Nat) : Sound Tryz.prog 80 (z5j.S lp) := sound_of (E := z5j.E lp) (env_ok z0s tabEqs ⟨z0v.ok lp, z18.ok lp, trivial⟩ trivial) mixed Tryz.func80 (by kernel_rfl) (c := codeOf Tryz.f80) (by kernel_rfl) (by kernel_rfl) z5j.an (fun x r h => ⟨lp, (z5j.eq lp x).trans h⟩)
def z59.E (lp : Nat) : Env := { tab := tab, fns := [(79, z79.S lp), (80, z5j.S lp)], ann := { own := [], ro := [2] } }
def z59.an : An := { pre := [] }
def z59.S (lp : Nat) : Spec := { ats := [.v TMoment, .v (.int .i64)], rts := [(.int .i64)], F := fun x => z59 lp x.1 x.2.1 }
theorem z59.eq (lp : Nat) (x : ADens [.v TMoment, .v (.int .i64)]) : evalF (z59.E lp) z59.an lp Tryz.f35 [.v TMoment, .v (.int .i64)] [(.int .i64)] x = (z59.S lp).F x := by kernel_rfl
theorem z59.ok (lp : Nat) : Sound Tryz.prog 35 (z59.S lp) := sound_of (E := z59.E lp) (env_ok z0s tabEqs ⟨z79.ok lp, z5j.ok lp, trivial⟩ trivial) mixed Tryz.func35 (by kernel_rfl) (c := codeOf Tryz.f35) (by kernel_rfl) (by kernel_rfl) z59.an (fun x r h => ⟨lp, (z59.eq lp x).trans h⟩)
def z0y.la5 : LoopAn := { kn := { tms := [0, 1, 5] }, kx := { tms := [1] }, kr := { tms := [4] } }
def z0y.E (lp : Nat) : Env := { tab := tab, fns := [(35, z59.S lp)], ann := { own := [], ro := [] } }
def z0y.an : An := { loops := [(5, z0y.la5)] }
def z0y.s5 (x0 : List Moment) (x1 : Int) (x5 : Int) : St := ⟨.v (.one (.b (.d (.sl TMoment) x0))) :: .v (.one (.b (.d (.int .i64) x1))) :: (sk 3 (.v (.one (.b (.d (.int .i64) x5))) :: (sk 21 ([])))), sko 27 ([])⟩
def z0y.sx5 (y : Int) : St := ⟨sk 1 (.v (.one (.b (.d (.int .i64) y))) :: (sk 25 ([]))), sko 27 ([])⟩
def z0y.sr5 (z : Int) : St := ⟨sk 4 (.v (.one (.b (.d (.int .i64) z))) :: (sk 22 ([]))), sko 27 ([])⟩
def z0y.S (lp : Nat) : Spec := { ats := [.v (.sl TMoment), .v (.int .i64)], rts := [(.int .i64)], F := fun x => z0y lp x.1 x.2.1 }
theorem z0y.t_b5 (lp : Nat) {R : Type} (N : St → Option R) (X : Out → St → Option R) (x0 : List Moment) (x1 : Int) (x5 : Int) : codeK (z0y.E lp) z0y.an lp (loopAt 5 (codeOf Tryz.f12)) (z0y.s5 x0 x1 x5) (lpK z0y.la5 N X) = z0y.b5 lp (fun x0 x1 x5 => N (z0y.s5 x0 x1 x5)) (fun y => X (.exit 0) (z0y.sx5 y)) (fun z => X .ret (z0y.sr5 z)) x0 x1 x5 := by kernel_rfl
theorem z0y.n_b5 (lp : Nat) {R S : Type} (N : List Moment → Int → Int → Option R) (X : Int → Option R) (Q : Int → Option R) (x0 : List Moment) (x1 : Int) (x5 : Int) (k : R → Option S) : obind (z0y.b5 lp N X Q x0 x1 x5) k = z0y.b5 lp (fun x0 x1 x5 => obind (N x0 x1 x5) k) (fun y => obind (X y) k) (fun z => obind (Q z) k) x0 x1 x5 := by
  unfold z0y.b5; simp only [obind_none, obind_some, obind_cond, obind_oif, obind_oget, obind_obind]
theorem z0y.k5 (lp : Nat) {R : Type} (K : Out → St → Option R) : ∀ (n : Nat) (x0 : List Moment) (x1 : Int) (x5 : Int), loopK z0y.la5 (fun σ K => codeK (z0y.E lp) z0y.an lp (loopAt 5 (codeOf Tryz.f12)) σ K) n (z0y.s5 x0 x1 x5) K = obind (z0y.l5 lp n x0 x1 x5) (leK 0 z0y.sr5 z0y.sx5 K) := by
  intro n
  induction n with
  | zero => intros; rfl
  | succ n ih =>
    intro x0 x1 x5
    rw [loopK_succ, z0y.t_b5, z0y.l5, z0y.n_b5]
    simp only [ih, obind_some, leK_ret, leK_brk]
theorem z0y.t_a5 (lp : Nat) (y : Int) : kont (R := Int) (z0y.E lp) z0y.an lp (finK (z0y.E lp) Tryz.f12 [(.int .i64)]) (stkAt 5 (codeOf Tryz.f12)) (.exit 0) (z0y.sx5 y) = z0y.a5 lp y := by kernel_rfl
theorem z0y.t_q5 (lp : Nat) (z : Int) : kont (R := Int) (z0y.E lp) z0y.an lp (finK (z0y.E lp) Tryz.f12 [(.int .i64)]) (stkAt 5 (codeOf Tryz.f12)) .ret (z0y.sr5 z) = z0y.q5 lp z := by kernel_rfl
theorem z0y.t_e (lp : Nat) (x0 : List Moment) (x1 : Int) : evalF (z0y.E lp) z0y.an lp Tryz.f12 [.v (.sl TMoment), .v (.int .i64)] [(.int .i64)] (x0, x1, ()) = z0y.e lp (fun x0 x1 x5 => loopK z0y.la5 (fun σ K => codeK (z0y.E lp) z0y.an lp (loopAt 5 (codeOf Tryz.f12)) σ K) lp (z0y.s5 x0 x1 x5) (kont (R := Int) (z0y.E lp) z0y.an lp (finK (z0y.E lp) Tryz.f12 [(.int .i64)]) (stkAt 5 (codeOf Tryz.f12)))) x0 x1 := by kernel_rfl
theorem z0y.eq0 (lp : Nat) (x0 : List Moment) (x1 : Int) : evalF (z0y.E lp) z0y.an lp Tryz.f12 [.v (.sl TMoment), .v (.int .i64)] [(.int .i64)] (x0, x1, ()) = z0y lp x0 x1 := by
  rw [z0y.t_e]; unfold z0y
  simp only [leK_leF _ z0y.sr5 z0y.sx5, z0y.k5, z0y.t_a5, z0y.t_q5]
theorem z0y.eq (lp : Nat) (x : ADens [.v (.sl TMoment), .v (.int .i64)]) : evalF (z0y.E lp) z0y.an lp Tryz.f12 [.v (.sl TMoment), .v (.int .i64)] [(.int .i64)] x = (z0y.S lp).F x := z0y.eq0 lp x.1 x.2.1
theorem z0y.ok (lp : Nat) : Sound Tryz.prog 12 (z0y.S lp) := sound_of (E := z0y.E lp) (env_ok z0s tabEqs ⟨z59.ok lp, trivial⟩ trivial) mixed Tryz.func12 (by kernel_rfl) (c := codeOf Tryz.f12) (by kernel_rfl) (by kernel_rfl) z0y.an (fun x r h => ⟨lp, (z0y.eq lp x).trans h⟩)
def z5o.E (lp : Nat) : Env := { tab := tab, fns := [(9, z6m.S lp), (10, z0z.S lp), (11, z1c.S lp), (12, z0y.S lp)], ann := { own := [], ro := [2] } }
def z5o.an : An := { pre := [] }
def z5o.S (lp : Nat) : Spec := { ats := [.v TWorld, .v (.int .i64)], rts := [(.int .i64)], F := fun x => z5o lp x.1 x.2.1 }
theorem z5o.eq (lp : Nat) (x : ADens [.v TWorld, .v (.int .i64)]) : evalF (z5o.E lp) z5o.an lp Tryz.f4 [.v TWorld, .v (.int .i64)] [(.int .i64)] x = (z5o.S lp).F x := by kernel_rfl
theorem z5o.ok (lp : Nat) : Sound Tryz.prog 4 (z5o.S lp) := sound_of (E := z5o.E lp) (env_ok z0s tabEqs ⟨z6m.ok lp, z0z.ok lp, z1c.ok lp, z0y.ok lp, trivial⟩ trivial) mixed Tryz.func4 (by kernel_rfl) (c := codeOf Tryz.f4) (by kernel_rfl) (by kernel_rfl) z5o.an (fun x r h => ⟨lp, (z5o.eq lp x).trans h⟩)
def z1s.E : Env := { tab := tab, fns := [], ann := { own := [], ro := [] } }
def z1s.an : An := { pre := [] }
def z1s.S : Spec := { ats := [.v (.int .i64), .v (.int .i64), .v (.int .i64)], rts := [.bool], F := fun x => z1s x.1 x.2.1 x.2.2.1 }
theorem z1s.eq (lp : Nat) (x : ADens [.v (.int .i64), .v (.int .i64), .v (.int .i64)]) : evalF (z1s.E) z1s.an lp Tryz.f37 [.v (.int .i64), .v (.int .i64), .v (.int .i64)] [.bool] x = (z1s.S).F x := by kernel_rfl
theorem z1s.ok : Sound Tryz.prog 37 (z1s.S) := sound_of (E := z1s.E) (env_ok z0s tabEqs trivial trivial) mixed Tryz.func37 (by kernel_rfl) (c := codeOf Tryz.f37) (by kernel_rfl) (by kernel_rfl) z1s.an (fun x r h => ⟨0, (z1s.eq 0 x).trans h⟩)
def z4n.E : Env := { tab := tab, fns := [], ann := { own := [], ro := [] } }
def z4n.an : An := { pre := [] }
def z4n.S : Spec := { ats := [.v (.int .u8)], rts := [.bool], F := fun x => z4n x.1 }
theorem z4n.eq (lp : Nat) (x : ADens [.v (.int .u8)]) : evalF (z4n.E) z4n.an lp Tryz.f143 [.v (.int .u8)] [.bool] x = (z4n.S).F x := by kernel_rfl
theorem z4n.ok : Sound Tryz.prog 143 (z4n.S) := sound_of (E := z4n.E) (env_ok z0s tabEqs trivial trivial) mixed Tryz.func143 (by kernel_rfl) (c := codeOf Tryz.f143) (by kernel_rfl) (by kernel_rfl) z4n.an (fun x r h => ⟨0, (z4n.eq 0 x).trans h⟩)
def z5s.E : Env := { tab := tab, fns := [], ann := { own := [], ro := [] } }
def z5s.an : An := { pre := [] }
def z5s.S : Spec := { ats := [.v (.int .u8)], rts := [.bool], F := fun x => z5s x.1 }
theorem z5s.eq (lp : Nat) (x : ADens [.v (.int .u8)]) : evalF (z5s.E) z5s.an lp Tryz.f144 [.v (.int .u8)] [.bool] x = (z5s.S).F x := by kernel_rfl
theorem z5s.ok : Sound Tryz.prog 144 (z5s.S) := sound_of (E := z5s.E) (env_ok z0s tabEqs trivial trivial) mixed Tryz.func144 (by kernel_rfl) (c := codeOf Tryz.f144) (by kernel_rfl) (by kernel_rfl) z5s.an (fun x r h => ⟨0, (z5s.eq 0 x).trans h⟩)
def z0t.la4 : LoopAn := { kn := { tms := [0, 3] }, kx := {}, kr := { tms := [2] } }
def z0t.E (lp : Nat) : Env := { tab := tab, fns := [(143, z4n.S), (144, z5s.S)], ann := { own := [], ro := [] } }
def z0t.an : An := { loops := [(4, z0t.la4)] }
def z0t.s4 (x0 : ByteArray) (x3 : Int) : St := ⟨.v (.one (.b (.d .str x0))) :: (sk 2 (.v (.one (.b (.d (.int .i64) x3))) :: (sk 32 ([])))), sko 36 ([])⟩
def z0t.sx4 (y : Unit) : St := ⟨sk 36 ([]), sko 36 ([])⟩
def z0t.sr4 (z : Bool) : St := ⟨sk 2 (.v (.one (.b (.d .bool z))) :: (sk 33 ([]))), sko 36 ([])⟩
def z0t.S (lp : Nat) : Spec := { ats := [.v .str], rts := [.bool], F := fun x => z0t lp x.1 }
theorem z0t.t_b4 (lp : Nat) {R : Type} (N : St → Option R) (X : Out → St → Option R) (x0 : ByteArray) (x3 : Int) : codeK (z0t.E lp) z0t.an lp (loopAt 4 (codeOf Tryz.f85)) (z0t.s4 x0 x3) (lpK z0t.la4 N X) = z0t.b4 lp (fun x0 x3 => N (z0t.s4 x0 x3)) (fun y => X (.exit 0) (z0t.sx4 y)) (fun z => X .ret (z0t.sr4 z)) x0 x3 := by kernel_rfl
theorem z0t.n_b4 (lp : Nat) {R S : Type} (N : ByteArray → Int → Option R) (X : Unit → Option R) (Q : Bool → Option R) (x0 : ByteArray) (x3 : Int) (k : R → Option S) : obind (z0t.b4 lp N X Q x0 x3) k = z0t.b4 lp (fun x0 x3 => obind (N x0 x3) k) (fun y => obind (X y) k) (fun z => obind (Q z) k) x0 x3 := by
  unfold z0t.b4; simp only [obind_none, obind_some, obind_cond, obind_oif, obind_oget, obind_obind]
theorem z0t.k4 (lp : Nat) {R : Type} (K : Out → St → Option R) : ∀ (n : Nat) (x0 : ByteArray) (x3 : Int), loopK z0t.la4 (fun σ K => codeK (z0t.E lp) z0t.an lp (loopAt 4 (codeOf Tryz.f85)) σ K) n (z0t.s4 x0 x3) K = obind (z0t.l4 lp n x0 x3) (leK 0 z0t.sr4 z0t.sx4 K) := by
  intro n
  induction n with
  | zero => intros; rfl
  | succ n ih =>
    intro x0 x3
    rw [loopK_succ, z0t.t_b4, z0t.l4, z0t.n_b4]
    simp only [ih, obind_some, leK_ret, leK_brk]
theorem z0t.t_a4 (lp : Nat) (y : Unit) : kont (R := Bool) (z0t.E lp) z0t.an lp (finK (z0t.E lp) Tryz.f85 [.bool]) (stkAt 4 (codeOf Tryz.f85)) (.exit 0) (z0t.sx4 y) = z0t.a4 lp y := by kernel_rfl
theorem z0t.t_q4 (lp : Nat) (z : Bool) : kont (R := Bool) (z0t.E lp) z0t.an lp (finK (z0t.E lp) Tryz.f85 [.bool]) (stkAt 4 (codeOf Tryz.f85)) .ret (z0t.sr4 z) = z0t.q4 lp z := by kernel_rfl
theorem z0t.t_e (lp : Nat) (x0 : ByteArray) : evalF (z0t.E lp) z0t.an lp Tryz.f85 [.v .str] [.bool] (x0, ()) = z0t.e lp (fun x0 x3 => loopK z0t.la4 (fun σ K => codeK (z0t.E lp) z0t.an lp (loopAt 4 (codeOf Tryz.f85)) σ K) lp (z0t.s4 x0 x3) (kont (R := Bool) (z0t.E lp) z0t.an lp (finK (z0t.E lp) Tryz.f85 [.bool]) (stkAt 4 (codeOf Tryz.f85)))) x0 := by kernel_rfl
theorem z0t.eq0 (lp : Nat) (x0 : ByteArray) : evalF (z0t.E lp) z0t.an lp Tryz.f85 [.v .str] [.bool] (x0, ()) = z0t lp x0 := by
  rw [z0t.t_e]; unfold z0t
  simp only [leK_leF _ z0t.sr4 z0t.sx4, z0t.k4, z0t.t_a4, z0t.t_q4]
theorem z0t.eq (lp : Nat) (x : ADens [.v .str]) : evalF (z0t.E lp) z0t.an lp Tryz.f85 [.v .str] [.bool] x = (z0t.S lp).F x := z0t.eq0 lp x.1
theorem z0t.ok (lp : Nat) : Sound Tryz.prog 85 (z0t.S lp) := sound_of (E := z0t.E lp) (env_ok z0s tabEqs ⟨z4n.ok, z5s.ok, trivial⟩ trivial) mixed Tryz.func85 (by kernel_rfl) (c := codeOf Tryz.f85) (by kernel_rfl) (by kernel_rfl) z0t.an (fun x r h => ⟨lp, (z0t.eq lp x).trans h⟩)
def z24.la4 : LoopAn := { kn := { tms := [0, 3] }, kx := {}, kr := { tms := [2] } }
def z24.E (lp : Nat) : Env := { tab := tab, fns := [(85, z0t.S lp), (37, z1s.S)], ann := { own := [], ro := [] } }
def z24.an : An := { loops := [(4, z24.la4)] }
def z24.s4 (x0 : List Entry) (x3 : Int) : St := ⟨.v (.one (.b (.d (.sl TEntry) x0))) :: (sk 2 (.v (.one (.b (.d (.int .i64) x3))) :: (sk 43 ([])))), sko 47 ([])⟩
def z24.sx4 (y : Unit) : St := ⟨sk 47 ([]), sko 47 ([])⟩
def z24.sr4 (z : Bool) : St := ⟨sk 2 (.v (.one (.b (.d .bool z))) :: (sk 44 ([]))), sko 47 ([])⟩
def z24.S (lp : Nat) : Spec := { ats := [.v (.sl TEntry)], rts := [.bool], F := fun x => z24 lp x.1 }
theorem z24.t_b4 (lp : Nat) {R : Type} (N : St → Option R) (X : Out → St → Option R) (x0 : List Entry) (x3 : Int) : codeK (z24.E lp) z24.an lp (loopAt 4 (codeOf Tryz.f89)) (z24.s4 x0 x3) (lpK z24.la4 N X) = z24.b4 lp (fun x0 x3 => N (z24.s4 x0 x3)) (fun y => X (.exit 0) (z24.sx4 y)) (fun z => X .ret (z24.sr4 z)) x0 x3 := by kernel_rfl
theorem z24.n_b4 (lp : Nat) {R S : Type} (N : List Entry → Int → Option R) (X : Unit → Option R) (Q : Bool → Option R) (x0 : List Entry) (x3 : Int) (k : R → Option S) : obind (z24.b4 lp N X Q x0 x3) k = z24.b4 lp (fun x0 x3 => obind (N x0 x3) k) (fun y => obind (X y) k) (fun z => obind (Q z) k) x0 x3 := by
  unfold z24.b4; simp only [obind_none, obind_some, obind_cond, obind_oif, obind_oget, obind_obind]
theorem z24.k4 (lp : Nat) {R : Type} (K : Out → St → Option R) : ∀ (n : Nat) (x0 : List Entry) (x3 : Int), loopK z24.la4 (fun σ K => codeK (z24.E lp) z24.an lp (loopAt 4 (codeOf Tryz.f89)) σ K) n (z24.s4 x0 x3) K = obind (z24.l4 lp n x0 x3) (leK 0 z24.sr4 z24.sx4 K) := by
  intro n
  induction n with
  | zero => intros; rfl
  | succ n ih =>
    intro x0 x3
    rw [loopK_succ, z24.t_b4, z24.l4, z24.n_b4]
    simp only [ih, obind_some, leK_ret, leK_brk]
theorem z24.t_a4 (lp : Nat) (y : Unit) : kont (R := Bool) (z24.E lp) z24.an lp (finK (z24.E lp) Tryz.f89 [.bool]) (stkAt 4 (codeOf Tryz.f89)) (.exit 0) (z24.sx4 y) = z24.a4 lp y := by kernel_rfl
theorem z24.t_q4 (lp : Nat) (z : Bool) : kont (R := Bool) (z24.E lp) z24.an lp (finK (z24.E lp) Tryz.f89 [.bool]) (stkAt 4 (codeOf Tryz.f89)) .ret (z24.sr4 z) = z24.q4 lp z := by kernel_rfl
theorem z24.t_e (lp : Nat) (x0 : List Entry) : evalF (z24.E lp) z24.an lp Tryz.f89 [.v (.sl TEntry)] [.bool] (x0, ()) = z24.e lp (fun x0 x3 => loopK z24.la4 (fun σ K => codeK (z24.E lp) z24.an lp (loopAt 4 (codeOf Tryz.f89)) σ K) lp (z24.s4 x0 x3) (kont (R := Bool) (z24.E lp) z24.an lp (finK (z24.E lp) Tryz.f89 [.bool]) (stkAt 4 (codeOf Tryz.f89)))) x0 := by kernel_rfl
theorem z24.eq0 (lp : Nat) (x0 : List Entry) : evalF (z24.E lp) z24.an lp Tryz.f89 [.v (.sl TEntry)] [.bool] (x0, ()) = z24 lp x0 := by
  rw [z24.t_e]; unfold z24
  simp only [leK_leF _ z24.sr4 z24.sx4, z24.k4, z24.t_a4, z24.t_q4]
theorem z24.eq (lp : Nat) (x : ADens [.v (.sl TEntry)]) : evalF (z24.E lp) z24.an lp Tryz.f89 [.v (.sl TEntry)] [.bool] x = (z24.S lp).F x := z24.eq0 lp x.1
theorem z24.ok (lp : Nat) : Sound Tryz.prog 89 (z24.S lp) := sound_of (E := z24.E lp) (env_ok z0s tabEqs ⟨z0t.ok lp, z1s.ok, trivial⟩ trivial) mixed Tryz.func89 (by kernel_rfl) (c := codeOf Tryz.f89) (by kernel_rfl) (by kernel_rfl) z24.an (fun x r h => ⟨lp, (z24.eq lp x).trans h⟩)
def z0w.la5 : LoopAn := { kn := { tms := [0, 3, 5, 6] }, kx := {}, kr := { tms := [4] } }
def z0w.E (lp : Nat) : Env := { tab := tab, fns := [(89, z24.S lp), (37, z1s.S)], ann := { own := [], ro := [3] } }
def z0w.an : An := { loops := [(5, z0w.la5)] }
def z0w.s5 (x0 : List Commit) (x3_0 : List Int) (x3_1 : List Entry) (x5 : Int) (x6 : Int) : St := ⟨.v (.one (.b (.d (.sl TCommit) x0))) :: (sk 2 (.v (.one (.rdp [.d (.sl (.int .i64)) x3_0, .d (.sl TEntry) x3_1])) :: (sk 1 (.v (.one (.b (.d (.int .i64) x5))) :: .v (.one (.b (.d (.int .i64) x6))) :: (sk 49 ([])))))), sko 56 ([])⟩
def z0w.sx5 (y : Unit) : St := ⟨sk 56 ([]), sko 56 ([])⟩
def z0w.sr5 (z : Bool) : St := ⟨sk 4 (.v (.one (.b (.d .bool z))) :: (sk 51 ([]))), sko 56 ([])⟩
def z0w.S (lp : Nat) : Spec := { ats := [.v (.sl TCommit), .v TCommit], rts := [.bool], F := fun x => z0w lp x.1 x.2.1 }
theorem z0w.t_b5 (lp : Nat) {R : Type} (N : St → Option R) (X : Out → St → Option R) (x0 : List Commit) (x3_0 : List Int) (x3_1 : List Entry) (x5 : Int) (x6 : Int) : codeK (z0w.E lp) z0w.an lp (loopAt 5 (codeOf Tryz.f139)) (z0w.s5 x0 x3_0 x3_1 x5 x6) (lpK z0w.la5 N X) = z0w.b5 lp (fun x0 x3_0 x3_1 x5 x6 => N (z0w.s5 x0 x3_0 x3_1 x5 x6)) (fun y => X (.exit 0) (z0w.sx5 y)) (fun z => X .ret (z0w.sr5 z)) x0 x3_0 x3_1 x5 x6 := by kernel_rfl
theorem z0w.n_b5 (lp : Nat) {R S : Type} (N : List Commit → List Int → List Entry → Int → Int → Option R) (X : Unit → Option R) (Q : Bool → Option R) (x0 : List Commit) (x3_0 : List Int) (x3_1 : List Entry) (x5 : Int) (x6 : Int) (k : R → Option S) : obind (z0w.b5 lp N X Q x0 x3_0 x3_1 x5 x6) k = z0w.b5 lp (fun x0 x3_0 x3_1 x5 x6 => obind (N x0 x3_0 x3_1 x5 x6) k) (fun y => obind (X y) k) (fun z => obind (Q z) k) x0 x3_0 x3_1 x5 x6 := by
  unfold z0w.b5; simp only [obind_none, obind_some, obind_cond, obind_oif, obind_oget, obind_obind]
theorem z0w.k5 (lp : Nat) {R : Type} (K : Out → St → Option R) : ∀ (n : Nat) (x0 : List Commit) (x3_0 : List Int) (x3_1 : List Entry) (x5 : Int) (x6 : Int), loopK z0w.la5 (fun σ K => codeK (z0w.E lp) z0w.an lp (loopAt 5 (codeOf Tryz.f139)) σ K) n (z0w.s5 x0 x3_0 x3_1 x5 x6) K = obind (z0w.l5 lp n x0 x3_0 x3_1 x5 x6) (leK 0 z0w.sr5 z0w.sx5 K) := by
  intro n
  induction n with
  | zero => intros; rfl
  | succ n ih =>
    intro x0 x3_0 x3_1 x5 x6
    rw [loopK_succ, z0w.t_b5, z0w.l5, z0w.n_b5]
    simp only [ih, obind_some, leK_ret, leK_brk]
theorem z0w.t_a5 (lp : Nat) (y : Unit) : kont (R := Bool) (z0w.E lp) z0w.an lp (finK (z0w.E lp) Tryz.f139 [.bool]) (stkAt 5 (codeOf Tryz.f139)) (.exit 0) (z0w.sx5 y) = z0w.a5 lp y := by kernel_rfl
theorem z0w.t_q5 (lp : Nat) (z : Bool) : kont (R := Bool) (z0w.E lp) z0w.an lp (finK (z0w.E lp) Tryz.f139 [.bool]) (stkAt 5 (codeOf Tryz.f139)) .ret (z0w.sr5 z) = z0w.q5 lp z := by kernel_rfl
theorem z0w.t_e (lp : Nat) (x0 : List Commit) (x1 : Commit) : evalF (z0w.E lp) z0w.an lp Tryz.f139 [.v (.sl TCommit), .v TCommit] [.bool] (x0, x1, ()) = z0w.e lp (fun x0 x3_0 x3_1 x5 x6 => loopK z0w.la5 (fun σ K => codeK (z0w.E lp) z0w.an lp (loopAt 5 (codeOf Tryz.f139)) σ K) lp (z0w.s5 x0 x3_0 x3_1 x5 x6) (kont (R := Bool) (z0w.E lp) z0w.an lp (finK (z0w.E lp) Tryz.f139 [.bool]) (stkAt 5 (codeOf Tryz.f139)))) x0 x1 := by kernel_rfl
theorem z0w.eq0 (lp : Nat) (x0 : List Commit) (x1 : Commit) : evalF (z0w.E lp) z0w.an lp Tryz.f139 [.v (.sl TCommit), .v TCommit] [.bool] (x0, x1, ()) = z0w lp x0 x1 := by
  rw [z0w.t_e]; unfold z0w
  simp only [leK_leF _ z0w.sr5 z0w.sx5, z0w.k5, z0w.t_a5, z0w.t_q5]
theorem z0w.eq (lp : Nat) (x : ADens [.v (.sl TCommit), .v TCommit]) : evalF (z0w.E lp) z0w.an lp Tryz.f139 [.v (.sl TCommit), .v TCommit] [.bool] x = (z0w.S lp).F x := z0w.eq0 lp x.1 x.2.1
theorem z0w.ok (lp : Nat) : Sound Tryz.prog 139 (z0w.S lp) := sound_of (E := z0w.E lp) (env_ok z0s tabEqs ⟨z24.ok lp, z1s.ok, trivial⟩ trivial) mixed Tryz.func139 (by kernel_rfl) (c := codeOf Tryz.f139) (by kernel_rfl) (by kernel_rfl) z0w.an (fun x r h => ⟨lp, (z0w.eq lp x).trans h⟩)
def z2n.la4 : LoopAn := { kn := { tms := [0, 3] }, kx := {}, kr := { tms := [2] } }
def z2n.E (lp : Nat) : Env := { tab := tab, fns := [(37, z1s.S), (139, z0w.S lp)], ann := { own := [], ro := [] } }
def z2n.an : An := { loops := [(4, z2n.la4)] }
def z2n.s4 (x0 : List Commit) (x3 : Int) : St := ⟨.v (.one (.b (.d (.sl TCommit) x0))) :: (sk 2 (.v (.one (.b (.d (.int .i64) x3))) :: (sk 19 ([])))), sko 23 ([])⟩
def z2n.sx4 (y : Unit) : St := ⟨sk 23 ([]), sko 23 ([])⟩
def z2n.sr4 (z : Bool) : St := ⟨sk 2 (.v (.one (.b (.d .bool z))) :: (sk 20 ([]))), sko 23 ([])⟩
def z2n.S (lp : Nat) : Spec := { ats := [.v (.sl TCommit)], rts := [.bool], F := fun x => z2n lp x.1 }
theorem z2n.t_b4 (lp : Nat) {R : Type} (N : St → Option R) (X : Out → St → Option R) (x0 : List Commit) (x3 : Int) : codeK (z2n.E lp) z2n.an lp (loopAt 4 (codeOf Tryz.f81)) (z2n.s4 x0 x3) (lpK z2n.la4 N X) = z2n.b4 lp (fun x0 x3 => N (z2n.s4 x0 x3)) (fun y => X (.exit 0) (z2n.sx4 y)) (fun z => X .ret (z2n.sr4 z)) x0 x3 := by kernel_rfl
theorem z2n.n_b4 (lp : Nat) {R S : Type} (N : List Commit → Int → Option R) (X : Unit → Option R) (Q : Bool → Option R) (x0 : List Commit) (x3 : Int) (k : R → Option S) : obind (z2n.b4 lp N X Q x0 x3) k = z2n.b4 lp (fun x0 x3 => obind (N x0 x3) k) (fun y => obind (X y) k) (fun z => obind (Q z) k) x0 x3 := by
  unfold z2n.b4; simp only [obind_none, obind_some, obind_cond, obind_oif, obind_oget, obind_obind]
theorem z2n.k4 (lp : Nat) {R : Type} (K : Out → St → Option R) : ∀ (n : Nat) (x0 : List Commit) (x3 : Int), loopK z2n.la4 (fun σ K => codeK (z2n.E lp) z2n.an lp (loopAt 4 (codeOf Tryz.f81)) σ K) n (z2n.s4 x0 x3) K = obind (z2n.l4 lp n x0 x3) (leK 0 z2n.sr4 z2n.sx4 K) := by
  intro n
  induction n with
  | zero => intros; rfl
  | succ n ih =>
    intro x0 x3
    rw [loopK_succ, z2n.t_b4, z2n.l4, z2n.n_b4]
    simp only [ih, obind_some, leK_ret, leK_brk]
theorem z2n.t_a4 (lp : Nat) (y : Unit) : kont (R := Bool) (z2n.E lp) z2n.an lp (finK (z2n.E lp) Tryz.f81 [.bool]) (stkAt 4 (codeOf Tryz.f81)) (.exit 0) (z2n.sx4 y) = z2n.a4 lp y := by kernel_rfl
theorem z2n.t_q4 (lp : Nat) (z : Bool) : kont (R := Bool) (z2n.E lp) z2n.an lp (finK (z2n.E lp) Tryz.f81 [.bool]) (stkAt 4 (codeOf Tryz.f81)) .ret (z2n.sr4 z) = z2n.q4 lp z := by kernel_rfl
theorem z2n.t_e (lp : Nat) (x0 : List Commit) : evalF (z2n.E lp) z2n.an lp Tryz.f81 [.v (.sl TCommit)] [.bool] (x0, ()) = z2n.e lp (fun x0 x3 => loopK z2n.la4 (fun σ K => codeK (z2n.E lp) z2n.an lp (loopAt 4 (codeOf Tryz.f81)) σ K) lp (z2n.s4 x0 x3) (kont (R := Bool) (z2n.E lp) z2n.an lp (finK (z2n.E lp) Tryz.f81 [.bool]) (stkAt 4 (codeOf Tryz.f81)))) x0 := by kernel_rfl
theorem z2n.eq0 (lp : Nat) (x0 : List Commit) : evalF (z2n.E lp) z2n.an lp Tryz.f81 [.v (.sl TCommit)] [.bool] (x0, ()) = z2n lp x0 := by
  rw [z2n.t_e]; unfold z2n
  simp only [leK_leF _ z2n.sr4 z2n.sx4, z2n.k4, z2n.t_a4, z2n.t_q4]
theorem z2n.eq (lp : Nat) (x : ADens [.v (.sl TCommit)]) : evalF (z2n.E lp) z2n.an lp Tryz.f81 [.v (.sl TCommit)] [.bool] x = (z2n.S lp).F x := z2n.eq0 lp x.1
theorem z2n.ok (lp : Nat) : Sound Tryz.prog 81 (z2n.S lp) := sound_of (E := z2n.E lp) (env_ok z0s tabEqs ⟨z1s.ok, z0w.ok lp, trivial⟩ trivial) mixed Tryz.func81 (by kernel_rfl) (c := codeOf Tryz.f81) (by kernel_rfl) (by kernel_rfl) z2n.an (fun x r h => ⟨lp, (z2n.eq lp x).trans h⟩)
def z2h.la2 : LoopAn := { kn := { tms := [0, 1, 5] }, kx := {}, kr := { tms := [4] } }
def z2h.E (lp : Nat) : Env := { tab := tab, fns := [], ann := { own := [], ro := [] } }
def z2h.an : An := { loops := [(2, z2h.la2)] }
def z2h.s2 (x0 : List Ref) (x1 : ByteArray) (x5 : Int) : St := ⟨.v (.one (.b (.d (.sl TRef) x0))) :: .v (.one (.b (.d .str x1))) :: (sk 3 (.v (.one (.b (.d (.int .i64) x5))) :: (sk 14 ([])))), sko 20 ([])⟩
def z2h.sx2 (y : Unit) : St := ⟨sk 20 ([]), sko 20 ([])⟩
def z2h.sr2 (z : Int) : St := ⟨sk 4 (.v (.one (.b (.d (.int .i64) z))) :: (sk 15 ([]))), sko 20 ([])⟩
def z2h.S (lp : Nat) : Spec := { ats := [.v (.sl TRef), .v .str], rts := [(.int .i64)], F := fun x => z2h lp x.1 x.2.1 }
theorem z2h.t_b2 (lp : Nat) {R : Type} (N : St → Option R) (X : Out → St → Option R) (x0 : List Ref) (x1 : ByteArray) (x5 : Int) : codeK (z2h.E lp) z2h.an lp (loopAt 2 (codeOf Tryz.f87)) (z2h.s2 x0 x1 x5) (lpK z2h.la2 N X) = z2h.b2 lp (fun x0 x1 x5 => N (z2h.s2 x0 x1 x5)) (fun y => X (.exit 0) (z2h.sx2 y)) (fun z => X .ret (z2h.sr2 z)) x0 x1 x5 := by kernel_rfl
theorem z2h.n_b2 (lp : Nat) {R S : Type} (N : List Ref → ByteArray → Int → Option R) (X : Unit → Option R) (Q : Int → Option R) (x0 : List Ref) (x1 : ByteArray) (x5 : Int) (k : R → Option S) : obind (z2h.b2 lp N X Q x0 x1 x5) k = z2h.b2 lp (fun x0 x1 x5 => obind (N x0 x1 x5) k) (fun y => obind (X y) k) (fun z => obind (Q z) k) x0 x1 x5 := by
  unfold z2h.b2; simp only [obind_none, obind_some, obind_cond, obind_oif, obind_oget, obind_obind]
theorem z2h.k2 (lp : Nat) {R : Type} (K : Out → St → Option R) : ∀ (n : Nat) (x0 : List Ref) (x1 : ByteArray) (x5 : Int), loopK z2h.la2 (fun σ K => codeK (z2h.E lp) z2h.an lp (loopAt 2 (codeOf Tryz.f87)) σ K) n (z2h.s2 x0 x1 x5) K = obind (z2h.l2 lp n x0 x1 x5) (leK 0 z2h.sr2 z2h.sx2 K) := by
  intro n
  induction n with
  | zero => intros; rfl
  | succ n ih =>
    intro x0 x1 x5
    rw [loopK_succ, z2h.t_b2, z2h.l2, z2h.n_b2]
    simp only [ih, obind_some, leK_ret, leK_brk]
theorem z2h.t_a2 (lp : Nat) (y : Unit) : kont (R := Int) (z2h.E lp) z2h.an lp (finK (z2h.E lp) Tryz.f87 [(.int .i64)]) (stkAt 2 (codeOf Tryz.f87)) (.exit 0) (z2h.sx2 y) = z2h.a2 lp y := by kernel_rfl
theorem z2h.t_q2 (lp : Nat) (z : Int) : kont (R := Int) (z2h.E lp) z2h.an lp (finK (z2h.E lp) Tryz.f87 [(.int .i64)]) (stkAt 2 (codeOf Tryz.f87)) .ret (z2h.sr2 z) = z2h.q2 lp z := by kernel_rfl
theorem z2h.t_e (lp : Nat) (x0 : List Ref) (x1 : ByteArray) : evalF (z2h.E lp) z2h.an lp Tryz.f87 [.v (.sl TRef), .v .str] [(.int .i64)] (x0, x1, ()) = z2h.e lp (fun x0 x1 x5 => loopK z2h.la2 (fun σ K => codeK (z2h.E lp) z2h.an lp (loopAt 2 (codeOf Tryz.f87)) σ K) lp (z2h.s2 x0 x1 x5) (kont (R := Int) (z2h.E lp) z2h.an lp (finK (z2h.E lp) Tryz.f87 [(.int .i64)]) (stkAt 2 (codeOf Tryz.f87)))) x0 x1 := by kernel_rfl
theorem z2h.eq0 (lp : Nat) (x0 : List Ref) (x1 : ByteArray) : evalF (z2h.E lp) z2h.an lp Tryz.f87 [.v (.sl TRef), .v .str] [(.int .i64)] (x0, x1, ()) = z2h lp x0 x1 := by
  rw [z2h.t_e]; unfold z2h
  simp only [leK_leF _ z2h.sr2 z2h.sx2, z2h.k2, z2h.t_a2, z2h.t_q2]
theorem z2h.eq (lp : Nat) (x : ADens [.v (.sl TRef), .v .str]) : evalF (z2h.E lp) z2h.an lp Tryz.f87 [.v (.sl TRef), .v .str] [(.int .i64)] x = (z2h.S lp).F x := z2h.eq0 lp x.1 x.2.1
theorem z2h.ok (lp : Nat) : Sound Tryz.prog 87 (z2h.S lp) := sound_of (E := z2h.E lp) (env_ok z0s tabEqs trivial trivial) mixed Tryz.func87 (by kernel_rfl) (c := codeOf Tryz.f87) (by kernel_rfl) (by kernel_rfl) z2h.an (fun x r h => ⟨lp, (z2h.eq lp x).trans h⟩)
def z2m.la4 : LoopAn := { kn := { tms := [0, 3] }, kx := {}, kr := { tms := [2] } }
def z2m.E (lp : Nat) : Env := { tab := tab, fns := [(85, z0t.S lp), (37, z1s.S), (87, z2h.S lp)], ann := { own := [], ro := [] } }
def z2m.an : An := { loops := [(4, z2m.la4)] }
def z2m.s4 (x0 : List Ref) (x3 : Int) : St := ⟨.v (.one (.b (.d (.sl TRef) x0))) :: (sk 2 (.v (.one (.b (.d (.int .i64) x3))) :: (sk 52 ([])))), sko 56 ([])⟩
def z2m.sx4 (y : Unit) : St := ⟨sk 56 ([]), sko 56 ([])⟩
def z2m.sr4 (z : Bool) : St := ⟨sk 2 (.v (.one (.b (.d .bool z))) :: (sk 53 ([]))), sko 56 ([])⟩
def z2m.S (lp : Nat) : Spec := { ats := [.v (.sl TRef)], rts := [.bool], F := fun x => z2m lp x.1 }
theorem z2m.t_b4 (lp : Nat) {R : Type} (N : St → Option R) (X : Out → St → Option R) (x0 : List Ref) (x3 : Int) : codeK (z2m.E lp) z2m.an lp (loopAt 4 (codeOf Tryz.f82)) (z2m.s4 x0 x3) (lpK z2m.la4 N X) = z2m.b4 lp (fun x0 x3 => N (z2m.s4 x0 x3)) (fun y => X (.exit 0) (z2m.sx4 y)) (fun z => X .ret (z2m.sr4 z)) x0 x3 := by kernel_rfl
theorem z2m.n_b4 (lp : Nat) {R S : Type} (N : List Ref → Int → Option R) (X : Unit → Option R) (Q : Bool → Option R) (x0 : List Ref) (x3 : Int) (k : R → Option S) : obind (z2m.b4 lp N X Q x0 x3) k = z2m.b4 lp (fun x0 x3 => obind (N x0 x3) k) (fun y => obind (X y) k) (fun z => obind (Q z) k) x0 x3 := by
  unfold z2m.b4; simp only [obind_none, obind_some, obind_cond, obind_oif, obind_oget, obind_obind]
theorem z2m.k4 (lp : Nat) {R : Type} (K : Out → St → Option R) : ∀ (n : Nat) (x0 : List Ref) (x3 : Int), loopK z2m.la4 (fun σ K => codeK (z2m.E lp) z2m.an lp (loopAt 4 (codeOf Tryz.f82)) σ K) n (z2m.s4 x0 x3) K = obind (z2m.l4 lp n x0 x3) (leK 0 z2m.sr4 z2m.sx4 K) := by
  intro n
  induction n with
  | zero => intros; rfl
  | succ n ih =>
    intro x0 x3
    rw [loopK_succ, z2m.t_b4, z2m.l4, z2m.n_b4]
    simp only [ih, obind_some, leK_ret, leK_brk]
theorem z2m.t_a4 (lp : Nat) (y : Unit) : kont (R := Bool) (z2m.E lp) z2m.an lp (finK (z2m.E lp) Tryz.f82 [.bool]) (stkAt 4 (codeOf Tryz.f82)) (.exit 0) (z2m.sx4 y) = z2m.a4 lp y := by kernel_rfl
theorem z2m.t_q4 (lp : Nat) (z : Bool) : kont (R := Bool) (z2m.E lp) z2m.an lp (finK (z2m.E lp) Tryz.f82 [.bool]) (stkAt 4 (codeOf Tryz.f82)) .ret (z2m.sr4 z) = z2m.q4 lp z := by kernel_rfl
theorem z2m.t_e (lp : Nat) (x0 : List Ref) : evalF (z2m.E lp) z2m.an lp Tryz.f82 [.v (.sl TRef)] [.bool] (x0, ()) = z2m.e lp (fun x0 x3 => loopK z2m.la4 (fun σ K => codeK (z2m.E lp) z2m.an lp (loopAt 4 (codeOf Tryz.f82)) σ K) lp (z2m.s4 x0 x3) (kont (R := Bool) (z2m.E lp) z2m.an lp (finK (z2m.E lp) Tryz.f82 [.bool]) (stkAt 4 (codeOf Tryz.f82)))) x0 := by kernel_rfl
theorem z2m.eq0 (lp : Nat) (x0 : List Ref) : evalF (z2m.E lp) z2m.an lp Tryz.f82 [.v (.sl TRef)] [.bool] (x0, ()) = z2m lp x0 := by
  rw [z2m.t_e]; unfold z2m
  simp only [leK_leF _ z2m.sr4 z2m.sx4, z2m.k4, z2m.t_a4, z2m.t_q4]
theorem z2m.eq (lp : Nat) (x : ADens [.v (.sl TRef)]) : evalF (z2m.E lp) z2m.an lp Tryz.f82 [.v (.sl TRef)] [.bool] x = (z2m.S lp).F x := z2m.eq0 lp x.1
theorem z2m.ok (lp : Nat) : Sound Tryz.prog 82 (z2m.S lp) := sound_of (E := z2m.E lp) (env_ok z0s tabEqs ⟨z0t.ok lp, z1s.ok, z2h.ok lp, trivial⟩ trivial) mixed Tryz.func82 (by kernel_rfl) (c := codeOf Tryz.f82) (by kernel_rfl) (by kernel_rfl) z2m.an (fun x r h => ⟨lp, (z2m.eq lp x).trans h⟩)
def z2o.la4 : LoopAn := { kn := { tms := [1, 3] }, kx := {}, kr := { tms := [2] } }
def z2o.E (lp : Nat) : Env := { tab := tab, fns := [(81, z2n.S lp), (82, z2m.S lp)], ann := { own := [], ro := [1] } }
def z2o.an : An := { loops := [(4, z2o.la4)] }
def z2o.s4 (x1_0 : List Commit) (x1_1 : List Ref) (x3 : Int) : St := ⟨sk 1 (.v (.one (.rdp [.d (.sl TCommit) x1_0, .d (.sl TRef) x1_1])) :: (sk 1 (.v (.one (.b (.d (.int .i64) x3))) :: (sk 27 ([]))))), sko 31 ([])⟩
def z2o.sx4 (y : Unit) : St := ⟨sk 31 ([]), sko 31 ([])⟩
def z2o.sr4 (z : Bool) : St := ⟨sk 2 (.v (.one (.b (.d .bool z))) :: (sk 28 ([]))), sko 31 ([])⟩
def z2o.S (lp : Nat) : Spec := { ats := [.v TBase], rts := [.bool], F := fun x => z2o lp x.1 }
theorem z2o.t_b4 (lp : Nat) {R : Type} (N : St → Option R) (X : Out → St → Option R) (x1_0 : List Commit) (x1_1 : List Ref) (x3 : Int) : codeK (z2o.E lp) z2o.an lp (loopAt 4 (codeOf Tryz.f36)) (z2o.s4 x1_0 x1_1 x3) (lpK z2o.la4 N X) = z2o.b4 lp (fun x1_0 x1_1 x3 => N (z2o.s4 x1_0 x1_1 x3)) (fun y => X (.exit 0) (z2o.sx4 y)) (fun z => X .ret (z2o.sr4 z)) x1_0 x1_1 x3 := by kernel_rfl
theorem z2o.n_b4 (lp : Nat) {R S : Type} (N : List Commit → List Ref → Int → Option R) (X : Unit → Option R) (Q : Bool → Option R) (x1_0 : List Commit) (x1_1 : List Ref) (x3 : Int) (k : R → Option S) : obind (z2o.b4 lp N X Q x1_0 x1_1 x3) k = z2o.b4 lp (fun x1_0 x1_1 x3 => obind (N x1_0 x1_1 x3) k) (fun y => obind (X y) k) (fun z => obind (Q z) k) x1_0 x1_1 x3 := by
  unfold z2o.b4; simp only [obind_none, obind_some, obind_cond, obind_oif, obind_oget, obind_obind]
theorem z2o.k4 (lp : Nat) {R : Type} (K : Out → St → Option R) : ∀ (n : Nat) (x1_0 : List Commit) (x1_1 : List Ref) (x3 : Int), loopK z2o.la4 (fun σ K => codeK (z2o.E lp) z2o.an lp (loopAt 4 (codeOf Tryz.f36)) σ K) n (z2o.s4 x1_0 x1_1 x3) K = obind (z2o.l4 lp n x1_0 x1_1 x3) (leK 0 z2o.sr4 z2o.sx4 K) := by
  intro n
  induction n with
  | zero => intros; rfl
  | succ n ih =>
    intro x1_0 x1_1 x3
    rw [loopK_succ, z2o.t_b4, z2o.l4, z2o.n_b4]
    simp only [ih, obind_some, leK_ret, leK_brk]
theorem z2o.t_a4 (lp : Nat) (y : Unit) : kont (R := Bool) (z2o.E lp) z2o.an lp (finK (z2o.E lp) Tryz.f36 [.bool]) (stkAt 4 (codeOf Tryz.f36)) (.exit 0) (z2o.sx4 y) = z2o.a4 lp y := by kernel_rfl
theorem z2o.t_q4 (lp : Nat) (z : Bool) : kont (R := Bool) (z2o.E lp) z2o.an lp (finK (z2o.E lp) Tryz.f36 [.bool]) (stkAt 4 (codeOf Tryz.f36)) .ret (z2o.sr4 z) = z2o.q4 lp z := by kernel_rfl
theorem z2o.t_e (lp : Nat) (x0 : Base) : evalF (z2o.E lp) z2o.an lp Tryz.f36 [.v TBase] [.bool] (x0, ()) = z2o.e lp (fun x1_0 x1_1 x3 => loopK z2o.la4 (fun σ K => codeK (z2o.E lp) z2o.an lp (loopAt 4 (codeOf Tryz.f36)) σ K) lp (z2o.s4 x1_0 x1_1 x3) (kont (R := Bool) (z2o.E lp) z2o.an lp (finK (z2o.E lp) Tryz.f36 [.bool]) (stkAt 4 (codeOf Tryz.f36)))) x0 := by kernel_rfl
theorem z2o.eq0 (lp : Nat) (x0 : Base) : evalF (z2o.E lp) z2o.an lp Tryz.f36 [.v TBase] [.bool] (x0, ()) = z2o lp x0 := by
  rw [z2o.t_e]; unfold z2o
  simp only [leK_leF _ z2o.sr4 z2o.sx4, z2o.k4, z2o.t_a4, z2o.t_q4]
theorem z2o.eq (lp : Nat) (x : ADens [.v TBase]) : evalF (z2o.E lp) z2o.an lp Tryz.f36 [.v TBase] [.bool] x = (z2o.S lp).F x := z2o.eq0 lp x.1
theorem z2o.ok (lp : Nat) : Sound Tryz.prog 36 (z2o.S lp) := sound_of (E := z2o.E lp) (env_ok z0s tabEqs ⟨z2n.ok lp, z2m.ok lp, trivial⟩ trivial) mixed Tryz.func36 (by kernel_rfl) (c := codeOf Tryz.f36) (by kernel_rfl) (by kernel_rfl) z2o.an (fun x r h => ⟨lp, (z2o.eq lp x).trans h⟩)
def z11.la4 : LoopAn := { kn := { tms := [0, 3] }, kx := {}, kr := { tms := [2] } }
def z11.E (lp : Nat) : Env := { tab := tab, fns := [(85, z0t.S lp), (37, z1s.S)], ann := { own := [], ro := [] } }
def z11.an : An := { loops := [(4, z11.la4)] }
def z11.s4 (x0 : List Edit) (x3 : Int) : St := ⟨.v (.one (.b (.d (.sl TEdit) x0))) :: (sk 2 (.v (.one (.b (.d (.int .i64) x3))) :: (sk 48 ([])))), sko 52 ([])⟩
def z11.sx4 (y : Unit) : St := ⟨sk 52 ([]), sko 52 ([])⟩
def z11.sr4 (z : Bool) : St := ⟨sk 2 (.v (.one (.b (.d .bool z))) :: (sk 49 ([]))), sko 52 ([])⟩
def z11.S (lp : Nat) : Spec := { ats := [.v (.sl TEdit)], rts := [.bool], F := fun x => z11 lp x.1 }
theorem z11.t_b4 (lp : Nat) {R : Type} (N : St → Option R) (X : Out → St → Option R) (x0 : List Edit) (x3 : Int) : codeK (z11.E lp) z11.an lp (loopAt 4 (codeOf Tryz.f145)) (z11.s4 x0 x3) (lpK z11.la4 N X) = z11.b4 lp (fun x0 x3 => N (z11.s4 x0 x3)) (fun y => X (.exit 0) (z11.sx4 y)) (fun z => X .ret (z11.sr4 z)) x0 x3 := by kernel_rfl
theorem z11.n_b4 (lp : Nat) {R S : Type} (N : List Edit → Int → Option R) (X : Unit → Option R) (Q : Bool → Option R) (x0 : List Edit) (x3 : Int) (k : R → Option S) : obind (z11.b4 lp N X Q x0 x3) k = z11.b4 lp (fun x0 x3 => obind (N x0 x3) k) (fun y => obind (X y) k) (fun z => obind (Q z) k) x0 x3 := by
  unfold z11.b4; simp only [obind_none, obind_some, obind_cond, obind_oif, obind_oget, obind_obind]
theorem z11.k4 (lp : Nat) {R : Type} (K : Out → St → Option R) : ∀ (n : Nat) (x0 : List Edit) (x3 : Int), loopK z11.la4 (fun σ K => codeK (z11.E lp) z11.an lp (loopAt 4 (codeOf Tryz.f145)) σ K) n (z11.s4 x0 x3) K = obind (z11.l4 lp n x0 x3) (leK 0 z11.sr4 z11.sx4 K) := by
  intro n
  induction n with
  | zero => intros; rfl
  | succ n ih =>
    intro x0 x3
    rw [loopK_succ, z11.t_b4, z11.l4, z11.n_b4]
    simp only [ih, obind_some, leK_ret, leK_brk]
theorem z11.t_a4 (lp : Nat) (y : Unit) : kont (R := Bool) (z11.E lp) z11.an lp (finK (z11.E lp) Tryz.f145 [.bool]) (stkAt 4 (codeOf Tryz.f145)) (.exit 0) (z11.sx4 y) = z11.a4 lp y := by kernel_rfl
theorem z11.t_q4 (lp : Nat) (z : Bool) : kont (R := Bool) (z11.E lp) z11.an lp (finK (z11.E lp) Tryz.f145 [.bool]) (stkAt 4 (codeOf Tryz.f145)) .ret (z11.sr4 z) = z11.q4 lp z := by kernel_rfl
theorem z11.t_e (lp : Nat) (x0 : List Edit) : evalF (z11.E lp) z11.an lp Tryz.f145 [.v (.sl TEdit)] [.bool] (x0, ()) = z11.e lp (fun x0 x3 => loopK z11.la4 (fun σ K => codeK (z11.E lp) z11.an lp (loopAt 4 (codeOf Tryz.f145)) σ K) lp (z11.s4 x0 x3) (kont (R := Bool) (z11.E lp) z11.an lp (finK (z11.E lp) Tryz.f145 [.bool]) (stkAt 4 (codeOf Tryz.f145)))) x0 := by kernel_rfl
theorem z11.eq0 (lp : Nat) (x0 : List Edit) : evalF (z11.E lp) z11.an lp Tryz.f145 [.v (.sl TEdit)] [.bool] (x0, ()) = z11 lp x0 := by
  rw [z11.t_e]; unfold z11
  simp only [leK_leF _ z11.sr4 z11.sx4, z11.k4, z11.t_a4, z11.t_q4]
theorem z11.eq (lp : Nat) (x : ADens [.v (.sl TEdit)]) : evalF (z11.E lp) z11.an lp Tryz.f145 [.v (.sl TEdit)] [.bool] x = (z11.S lp).F x := z11.eq0 lp x.1
theorem z11.ok (lp : Nat) : Sound Tryz.prog 145 (z11.S lp) := sound_of (E := z11.E lp) (env_ok z0s tabEqs ⟨z0t.ok lp, z1s.ok, trivial⟩ trivial) mixed Tryz.func145 (by kernel_rfl) (c := codeOf Tryz.f145) (by kernel_rfl) (by kernel_rfl) z11.an (fun x r h => ⟨lp, (z11.eq lp x).trans h⟩)
def z52.E (lp : Nat) : Env := { tab := tab, fns := [(85, z0t.S lp), (37, z1s.S), (145, z11.S lp)], ann := { own := [], ro := [1] } }
def z52.an : An := { pre := [] }
def z52.S (lp : Nat) : Spec := { ats := [.v TWish], rts := [.bool], F := fun x => z52 lp x.1 }
theorem z52.eq (lp : Nat) (x : ADens [.v TWish]) : evalF (z52.E lp) z52.an lp Tryz.f140 [.v TWish] [.bool] x = (z52.S lp).F x := by kernel_rfl
theorem z52.ok (lp : Nat) : Sound Tryz.prog 140 (z52.S lp) := sound_of (E := z52.E lp) (env_ok z0s tabEqs ⟨z0t.ok lp, z1s.ok, z11.ok lp, trivial⟩ trivial) mixed Tryz.func140 (by kernel_rfl) (c := codeOf Tryz.f140) (by kernel_rfl) (by kernel_rfl) z52.an (fun x r h => ⟨lp, (z52.eq lp x).trans h⟩)
def z0x.la4 : LoopAn := { kn := { tms := [0, 3] }, kx := {}, kr := { tms := [2] } }
def z0x.E (lp : Nat) : Env := { tab := tab, fns := [(140, z52.S lp)], ann := { own := [], ro := [] } }
def z0x.an : An := { loops := [(4, z0x.la4)] }
def z0x.s4 (x0 : List Wish) (x3 : Int) : St := ⟨.v (.one (.b (.d (.sl TWish) x0))) :: (sk 2 (.v (.one (.b (.d (.int .i64) x3))) :: (sk 15 ([])))), sko 19 ([])⟩
def z0x.sx4 (y : Unit) : St := ⟨sk 19 ([]), sko 19 ([])⟩
def z0x.sr4 (z : Bool) : St := ⟨sk 2 (.v (.one (.b (.d .bool z))) :: (sk 16 ([]))), sko 19 ([])⟩
def z0x.S (lp : Nat) : Spec := { ats := [.v (.sl TWish)], rts := [.bool], F := fun x => z0x lp x.1 }
theorem z0x.t_b4 (lp : Nat) {R : Type} (N : St → Option R) (X : Out → St → Option R) (x0 : List Wish) (x3 : Int) : codeK (z0x.E lp) z0x.an lp (loopAt 4 (codeOf Tryz.f83)) (z0x.s4 x0 x3) (lpK z0x.la4 N X) = z0x.b4 lp (fun x0 x3 => N (z0x.s4 x0 x3)) (fun y => X (.exit 0) (z0x.sx4 y)) (fun z => X .ret (z0x.sr4 z)) x0 x3 := by kernel_rfl
theorem z0x.n_b4 (lp : Nat) {R S : Type} (N : List Wish → Int → Option R) (X : Unit → Option R) (Q : Bool → Option R) (x0 : List Wish) (x3 : Int) (k : R → Option S) : obind (z0x.b4 lp N X Q x0 x3) k = z0x.b4 lp (fun x0 x3 => obind (N x0 x3) k) (fun y => obind (X y) k) (fun z => obind (Q z) k) x0 x3 := by
  unfold z0x.b4; simp only [obind_none, obind_some, obind_cond, obind_oif, obind_oget, obind_obind]
theorem z0x.k4 (lp : Nat) {R : Type} (K : Out → St → Option R) : ∀ (n : Nat) (x0 : List Wish) (x3 : Int), loopK z0x.la4 (fun σ K => codeK (z0x.E lp) z0x.an lp (loopAt 4 (codeOf Tryz.f83)) σ K) n (z0x.s4 x0 x3) K = obind (z0x.l4 lp n x0 x3) (leK 0 z0x.sr4 z0x.sx4 K) := by
  intro n
  induction n with
  | zero => intros; rfl
  | succ n ih =>
    intro x0 x3
    rw [loopK_succ, z0x.t_b4, z0x.l4, z0x.n_b4]
    simp only [ih, obind_some, leK_ret, leK_brk]
theorem z0x.t_a4 (lp : Nat) (y : Unit) : kont (R := Bool) (z0x.E lp) z0x.an lp (finK (z0x.E lp) Tryz.f83 [.bool]) (stkAt 4 (codeOf Tryz.f83)) (.exit 0) (z0x.sx4 y) = z0x.a4 lp y := by kernel_rfl
theorem z0x.t_q4 (lp : Nat) (z : Bool) : kont (R := Bool) (z0x.E lp) z0x.an lp (finK (z0x.E lp) Tryz.f83 [.bool]) (stkAt 4 (codeOf Tryz.f83)) .ret (z0x.sr4 z) = z0x.q4 lp z := by kernel_rfl
theorem z0x.t_e (lp : Nat) (x0 : List Wish) : evalF (z0x.E lp) z0x.an lp Tryz.f83 [.v (.sl TWish)] [.bool] (x0, ()) = z0x.e lp (fun x0 x3 => loopK z0x.la4 (fun σ K => codeK (z0x.E lp) z0x.an lp (loopAt 4 (codeOf Tryz.f83)) σ K) lp (z0x.s4 x0 x3) (kont (R := Bool) (z0x.E lp) z0x.an lp (finK (z0x.E lp) Tryz.f83 [.bool]) (stkAt 4 (codeOf Tryz.f83)))) x0 := by kernel_rfl
theorem z0x.eq0 (lp : Nat) (x0 : List Wish) : evalF (z0x.E lp) z0x.an lp Tryz.f83 [.v (.sl TWish)] [.bool] (x0, ()) = z0x lp x0 := by
  rw [z0x.t_e]; unfold z0x
  simp only [leK_leF _ z0x.sr4 z0x.sx4, z0x.k4, z0x.t_a4, z0x.t_q4]
theorem z0x.eq (lp : Nat) (x : ADens [.v (.sl TWish)]) : evalF (z0x.E lp) z0x.an lp Tryz.f83 [.v (.sl TWish)] [.bool] x = (z0x.S lp).F x := z0x.eq0 lp x.1
theorem z0x.ok (lp : Nat) : Sound Tryz.prog 83 (z0x.S lp) := sound_of (E := z0x.E lp) (env_ok z0s tabEqs ⟨z52.ok lp, trivial⟩ trivial) mixed Tryz.func83 (by kernel_rfl) (c := codeOf Tryz.f83) (by kernel_rfl) (by kernel_rfl) z0x.an (fun x r h => ⟨lp, (z0x.eq lp x).trans h⟩)
def z17.la4 : LoopAn := { kn := { tms := [0, 1, 5] }, kx := {}, kr := { tms := [4] } }
def z17.E (lp : Nat) : Env := { tab := tab, fns := [], ann := { own := [], ro := [] } }
def z17.an : An := { loops := [(4, z17.la4)] }
def z17.s4 (x0 : List Entry) (x1 : List Entry) (x5 : Int) : St := ⟨.v (.one (.b (.d (.sl TEntry) x0))) :: .v (.one (.b (.d (.sl TEntry) x1))) :: (sk 3 (.v (.one (.b (.d (.int .i64) x5))) :: (sk 20 ([])))), sko 26 ([])⟩
def z17.sx4 (y : Unit) : St := ⟨sk 26 ([]), sko 26 ([])⟩
def z17.sr4 (z : Bool) : St := ⟨sk 4 (.v (.one (.b (.d .bool z))) :: (sk 21 ([]))), sko 26 ([])⟩
def z17.S (lp : Nat) : Spec := { ats := [.v (.sl TEntry), .v (.sl TEntry)], rts := [.bool], F := fun x => z17 lp x.1 x.2.1 }
theorem z17.t_b4 (lp : Nat) {R : Type} (N : St → Option R) (X : Out → St → Option R) (x0 : List Entry) (x1 : List Entry) (x5 : Int) : codeK (z17.E lp) z17.an lp (loopAt 4 (codeOf Tryz.f92)) (z17.s4 x0 x1 x5) (lpK z17.la4 N X) = z17.b4 lp (fun x0 x1 x5 => N (z17.s4 x0 x1 x5)) (fun y => X (.exit 0) (z17.sx4 y)) (fun z => X .ret (z17.sr4 z)) x0 x1 x5 := by kernel_rfl
theorem z17.n_b4 (lp : Nat) {R S : Type} (N : List Entry → List Entry → Int → Option R) (X : Unit → Option R) (Q : Bool → Option R) (x0 : List Entry) (x1 : List Entry) (x5 : Int) (k : R → Option S) : obind (z17.b4 lp N X Q x0 x1 x5) k = z17.b4 lp (fun x0 x1 x5 => obind (N x0 x1 x5) k) (fun y => obind (X y) k) (fun z => obind (Q z) k) x0 x1 x5 := by
  unfold z17.b4; simp only [obind_none, obind_some, obind_cond, obind_oif, obind_oget, obind_obind]
theorem z17.k4 (lp : Nat) {R : Type} (K : Out → St → Option R) : ∀ (n : Nat) (x0 : List Entry) (x1 : List Entry) (x5 : Int), loopK z17.la4 (fun σ K => codeK (z17.E lp) z17.an lp (loopAt 4 (codeOf Tryz.f92)) σ K) n (z17.s4 x0 x1 x5) K = obind (z17.l4 lp n x0 x1 x5) (leK 0 z17.sr4 z17.sx4 K) := by
  intro n
  induction n with
  | zero => intros; rfl
  | succ n ih =>
    intro x0 x1 x5
    rw [loopK_succ, z17.t_b4, z17.l4, z17.n_b4]
    simp only [ih, obind_some, leK_ret, leK_brk]
theorem z17.t_a4 (lp : Nat) (y : Unit) : kont (R := Bool) (z17.E lp) z17.an lp (finK (z17.E lp) Tryz.f92 [.bool]) (stkAt 4 (codeOf Tryz.f92)) (.exit 0) (z17.sx4 y) = z17.a4 lp y := by kernel_rfl
theorem z17.t_q4 (lp : Nat) (z : Bool) : kont (R := Bool) (z17.E lp) z17.an lp (finK (z17.E lp) Tryz.f92 [.bool]) (stkAt 4 (codeOf Tryz.f92)) .ret (z17.sr4 z) = z17.q4 lp z := by kernel_rfl
theorem z17.t_e (lp : Nat) (x0 : List Entry) (x1 : List Entry) : evalF (z17.E lp) z17.an lp Tryz.f92 [.v (.sl TEntry), .v (.sl TEntry)] [.bool] (x0, x1, ()) = z17.e lp (fun x0 x1 x5 => loopK z17.la4 (fun σ K => codeK (z17.E lp) z17.an lp (loopAt 4 (codeOf Tryz.f92)) σ K) lp (z17.s4 x0 x1 x5) (kont (R := Bool) (z17.E lp) z17.an lp (finK (z17.E lp) Tryz.f92 [.bool]) (stkAt 4 (codeOf Tryz.f92)))) x0 x1 := by kernel_rfl
theorem z17.eq0 (lp : Nat) (x0 : List Entry) (x1 : List Entry) : evalF (z17.E lp) z17.an lp Tryz.f92 [.v (.sl TEntry), .v (.sl TEntry)] [.bool] (x0, x1, ()) = z17 lp x0 x1 := by
  rw [z17.t_e]; unfold z17
  simp only [leK_leF _ z17.sr4 z17.sx4, z17.k4, z17.t_a4, z17.t_q4]
theorem z17.eq (lp : Nat) (x : ADens [.v (.sl TEntry), .v (.sl TEntry)]) : evalF (z17.E lp) z17.an lp Tryz.f92 [.v (.sl TEntry), .v (.sl TEntry)] [.bool] x = (z17.S lp).F x := z17.eq0 lp x.1 x.2.1
theorem z17.ok (lp : Nat) : Sound Tryz.prog 92 (z17.S lp) := sound_of (E := z17.E lp) (env_ok z0s tabEqs trivial trivial) mixed Tryz.func92 (by kernel_rfl) (c := codeOf Tryz.f92) (by kernel_rfl) (by kernel_rfl) z17.an (fun x r h => ⟨lp, (z17.eq lp x).trans h⟩)
def z0e.la4 : LoopAn := { kn := { tms := [0, 5, 6], obs := [11] }, kx := { tms := [5], obs := [11] }, kr := {} }
def z0e.la8 : LoopAn := { kn := { tms := [0, 5, 6, 7], obs := [11] }, kx := { tms := [0, 5, 6], obs := [11] }, kr := {} }
def z0e.E (lp : Nat) : Env := { tab := tab, fns := [], ann := { own := [], ro := [] } }
def z0e.an : An := { loops := [(4, z0e.la4), (8, z0e.la8)] }
def z0e.s4 (x0 : List Commit) (x6 : Int) (xo11 : List Bool) : St := ⟨.v (.one (.b (.d (.sl TCommit) x0))) :: (sk 4 (.v (.one (.row 11 0)) :: .v (.one (.b (.d (.int .i64) x6))) :: (sk 41 ([])))), sko 11 (some (.row 4 .bool xo11 0) :: (sko 36 ([])))⟩
def z0e.sx4 (y : (List Bool)) : St := ⟨sk 5 (.v (.one (.row 11 0)) :: (sk 42 ([]))), sko 11 (some (.row 4 .bool y 0) :: (sko 36 ([])))⟩
def z0e.sr4 (z : Empty) : St := z.elim
def z0e.s8 (x0 : List Commit) (x6 : Int) (x7 : Int) (xo11 : List Bool) : St := ⟨.v (.one (.b (.d (.sl TCommit) x0))) :: (sk 4 (.v (.one (.row 11 0)) :: .v (.one (.b (.d (.int .i64) x6))) :: .v (.one (.b (.d (.int .i64) x7))) :: (sk 40 ([])))), sko 11 (some (.row 4 .bool xo11 0) :: (sko 36 ([])))⟩
def z0e.sx8 (y : (List Commit) × Int × (List Bool)) : St := ⟨.v (.one (.b (.d (.sl TCommit) y.1))) :: (sk 4 (.v (.one (.row 11 0)) :: .v (.one (.b (.d (.int .i64) y.2.1))) :: (sk 41 ([])))), sko 11 (some (.row 4 .bool y.2.2 0) :: (sko 36 ([])))⟩
def z0e.sr8 (z : Empty) : St := z.elim
def z0e.S (lp : Nat) : Spec := { ats := [.v (.sl TCommit), .v (.int .i64)], rts := [(.sl .bool)], F := fun x => z0e lp x.1 x.2.1 }
theorem z0e.t_b8 (lp : Nat) {R : Type} (N : St → Option R) (X : Out → St → Option R) (x0 : List Commit) (x6 : Int) (x7 : Int) (xo11 : List Bool) : codeK (z0e.E lp) z0e.an lp (loopAt 8 (codeOf Tryz.f217)) (z0e.s8 x0 x6 x7 xo11) (lpK z0e.la8 N X) = z0e.b8 lp (fun x0 x6 x7 xo11 => N (z0e.s8 x0 x6 x7 xo11)) (fun y => X (.exit 2) (z0e.sx8 y)) (fun z => X .ret (z0e.sr8 z)) x0 x6 x7 xo11 := by kernel_rfl
theorem z0e.n_b8 (lp : Nat) {R S : Type} (N : List Commit → Int → Int → List Bool → Option R) (X : ((List Commit) × Int × (List Bool)) → Option R) (Q : Empty → Option R) (x0 : List Commit) (x6 : Int) (x7 : Int) (xo11 : List Bool) (k : R → Option S) : obind (z0e.b8 lp N X Q x0 x6 x7 xo11) k = z0e.b8 lp (fun x0 x6 x7 xo11 => obind (N x0 x6 x7 xo11) k) (fun y => obind (X y) k) (fun z => obind (Q z) k) x0 x6 x7 xo11 := by
  unfold z0e.b8; simp only [obind_none, obind_some, obind_cond, obind_oif, obind_oget, obind_obind]
theorem z0e.k8 (lp : Nat) {R : Type} (K : Out → St → Option R) : ∀ (n : Nat) (x0 : List Commit) (x6 : Int) (x7 : Int) (xo11 : List Bool), loopK z0e.la8 (fun σ K => codeK (z0e.E lp) z0e.an lp (loopAt 8 (codeOf Tryz.f217)) σ K) n (z0e.s8 x0 x6 x7 xo11) K = obind (z0e.l8 lp n x0 x6 x7 xo11) (leK 2 z0e.sr8 z0e.sx8 K) := by
  intro n
  induction n with
  | zero => intros; rfl
  | succ n ih =>
    intro x0 x6 x7 xo11
    rw [loopK_succ, z0e.t_b8, z0e.l8, z0e.n_b8]
    simp only [ih, obind_some, leK_ret, leK_brk]
theorem z0e.t_a8 (lp : Nat) {R : Type} (N : St → Option R) (X : Out → St → Option R) (y : (List Commit) × Int × (List Bool)) : kont (z0e.E lp) z0e.an lp (lpK z0e.la4 N X) (stkAt 8 (loopAt 4 (codeOf Tryz.f217))) (.exit 2) (z0e.sx8 y) = z0e.a8 lp (fun x0 x6 xo11 => N (z0e.s4 x0 x6 xo11)) (fun y => X (.exit 0) (z0e.sx4 y)) (fun z => X .ret (z0e.sr4 z)) y := by kernel_rfl
theorem z0e.n_a8 (lp : Nat) {R S : Type} (N : List Commit → Int → List Bool → Option R) (X : ((List Bool)) → Option R) (Q : Empty → Option R) (y : (List Commit) × Int × (List Bool)) (k : R → Option S) : obind (z0e.a8 lp N X Q y) k = z0e.a8 lp (fun x0 x6 xo11 => obind (N x0 x6 xo11) k) (fun y => obind (X y) k) (fun z => obind (Q z) k) y := by
  unfold z0e.a8; simp only [obind_none, obind_some, obind_cond, obind_oif, obind_oget, obind_obind]
theorem z0e.t_b4 (lp : Nat) {R : Type} (N : St → Option R) (X : Out → St → Option R) (x0 : List Commit) (x6 : Int) (xo11 : List Bool) : codeK (z0e.E lp) z0e.an lp (loopAt 4 (codeOf Tryz.f217)) (z0e.s4 x0 x6 xo11) (lpK z0e.la4 N X) = z0e.b4 lp (fun x0 x6 xo11 => N (z0e.s4 x0 x6 xo11)) (fun y => X (.exit 0) (z0e.sx4 y)) (fun z => X .ret (z0e.sr4 z)) (fun x0 x6 x7 xo11 => loopK z0e.la8 (fun σ K => codeK (z0e.E lp) z0e.an lp (loopAt 8 (codeOf Tryz.f217)) σ K) lp (z0e.s8 x0 x6 x7 xo11) (kont (z0e.E lp) z0e.an lp (lpK z0e.la4 N X) (stkAt 8 (loopAt 4 (codeOf Tryz.f217))))) x0 x6 xo11 := by kernel_rfl
theorem z0e.n_b4 (lp : Nat) {R S : Type} (N : List Commit → Int → List Bool → Option R) (X : ((List Bool)) → Option R) (Q : Empty → Option R) (L8 : List Commit → Int → Int → List Bool → Option R) (x0 : List Commit) (x6 : Int) (xo11 : List Bool) (k : R → Option S) : obind (z0e.b4 lp N X Q L8 x0 x6 xo11) k = z0e.b4 lp (fun x0 x6 xo11 => obind (N x0 x6 xo11) k) (fun y => obind (X y) k) (fun z => obind (Q z) k) (fun x0 x6 x7 xo11 => obind (L8 x0 x6 x7 xo11) k) x0 x6 xo11 := by
  unfold z0e.b4; simp only [obind_none, obind_some, obind_cond, obind_oif, obind_oget, obind_obind]
theorem z0e.k4 (lp : Nat) {R : Type} (K : Out → St → Option R) : ∀ (n : Nat) (x0 : List Commit) (x6 : Int) (xo11 : List Bool), loopK z0e.la4 (fun σ K => codeK (z0e.E lp) z0e.an lp (loopAt 4 (codeOf Tryz.f217)) σ K) n (z0e.s4 x0 x6 xo11) K = obind (z0e.l4 lp n x0 x6 xo11) (leK 0 z0e.sr4 z0e.sx4 K) := by
  intro n
  induction n with
  | zero => intros; rfl
  | succ n ih =>
    intro x0 x6 xo11
    rw [loopK_succ, z0e.t_b4, z0e.l4, z0e.n_b4]
    simp only [ih, obind_some, leK_ret, leK_brk, leF_ret, leF_brk, obind_obind, obind_leF, obind_elim, leK_ret0 _ z0e.sr8 z0e.sx8, z0e.k8, z0e.t_a8, z0e.n_a8]
theorem z0e.t_a4 (lp : Nat) (y : (List Bool)) : kont (R := (List Bool)) (z0e.E lp) z0e.an lp (finK (z0e.E lp) Tryz.f217 [(.sl .bool)]) (stkAt 4 (codeOf Tryz.f217)) (.exit 0) (z0e.sx4 y) = z0e.a4 lp y := by kernel_rfl
theorem z0e.t_e (lp : Nat) (x0 : List Commit) (x1 : Int) : evalF (z0e.E lp) z0e.an lp Tryz.f217 [.v (.sl TCommit), .v (.int .i64)] [(.sl .bool)] (x0, x1, ()) = z0e.e lp (fun x0 x6 xo11 => loopK z0e.la4 (fun σ K => codeK (z0e.E lp) z0e.an lp (loopAt 4 (codeOf Tryz.f217)) σ K) lp (z0e.s4 x0 x6 xo11) (kont (R := (List Bool)) (z0e.E lp) z0e.an lp (finK (z0e.E lp) Tryz.f217 [(.sl .bool)]) (stkAt 4 (codeOf Tryz.f217)))) x0 x1 := by kernel_rfl
theorem z0e.eq0 (lp : Nat) (x0 : List Commit) (x1 : Int) : evalF (z0e.E lp) z0e.an lp Tryz.f217 [.v (.sl TCommit), .v (.int .i64)] [(.sl .bool)] (x0, x1, ()) = z0e lp x0 x1 := by
  rw [z0e.t_e]; unfold z0e
  simp only [leK_ret0 _ z0e.sr4 z0e.sx4, z0e.k4, z0e.t_a4]
theorem z0e.eq (lp : Nat) (x : ADens [.v (.sl TCommit), .v (.int .i64)]) : evalF (z0e.E lp) z0e.an lp Tryz.f217 [.v (.sl TCommit), .v (.int .i64)] [(.sl .bool)] x = (z0e.S lp).F x := z0e.eq0 lp x.1 x.2.1
theorem z0e.ok (lp : Nat) : Sound Tryz.prog 217 (z0e.S lp) := sound_of (E := z0e.E lp) (env_ok z0s tabEqs trivial trivial) mixed Tryz.func217 (by kernel_rfl) (c := codeOf Tryz.f217) (by kernel_rfl) (by kernel_rfl) z0e.an (fun x r h => ⟨lp, (z0e.eq lp x).trans h⟩)
def z2g.la4 : LoopAn := { kn := { tms := [7, 8, 9] }, kx := { tms := [9] }, kr := {} }
def z2g.E (lp : Nat) : Env := { tab := tab, fns := [(217, z0e.S lp)], ann := { own := [], ro := [] } }
def z2g.an : An := { loops := [(4, z2g.la4)] }
def z2g.s4 (x7 : List Bool) (x8 : List Bool) (x9 : Int) : St := ⟨sk 7 (.v (.one (.b (.d (.sl .bool) x7))) :: .v (.one (.b (.d (.sl .bool) x8))) :: .v (.one (.b (.d (.int .i64) x9))) :: (sk 24 ([]))), sko 34 ([])⟩
def z2g.sx4 (y : Int) : St := ⟨sk 9 (.v (.one (.b (.d (.int .i64) y))) :: (sk 24 ([]))), sko 34 ([])⟩
def z2g.sr4 (z : Empty) : St := z.elim
def z2g.S (lp : Nat) : Spec := { ats := [.v (.sl TCommit), .v (.int .i64), .v (.int .i64)], rts := [(.int .i64)], F := fun x => z2g lp x.1 x.2.1 x.2.2.1 }
theorem z2g.t_b4 (lp : Nat) {R : Type} (N : St → Option R) (X : Out → St → Option R) (x7 : List Bool) (x8 : List Bool) (x9 : Int) : codeK (z2g.E lp) z2g.an lp (loopAt 4 (codeOf Tryz.f205)) (z2g.s4 x7 x8 x9) (lpK z2g.la4 N X) = z2g.b4 lp (fun x7 x8 x9 => N (z2g.s4 x7 x8 x9)) (fun y => X (.exit 0) (z2g.sx4 y)) (fun z => X .ret (z2g.sr4 z)) x7 x8 x9 := by kernel_rfl
theorem z2g.n_b4 (lp : Nat) {R S : Type} (N : List Bool → List Bool → Int → Option R) (X : Int → Option R) (Q : Empty → Option R) (x7 : List Bool) (x8 : List Bool) (x9 : Int) (k : R → Option S) : obind (z2g.b4 lp N X Q x7 x8 x9) k = z2g.b4 lp (fun x7 x8 x9 => obind (N x7 x8 x9) k) (fun y => obind (X y) k) (fun z => obind (Q z) k) x7 x8 x9 := by
  unfold z2g.b4; simp only [obind_none, obind_some, obind_cond, obind_oif, obind_oget, obind_obind]
theorem z2g.k4 (lp : Nat) {R : Type} (K : Out → St → Option R) : ∀ (n : Nat) (x7 : List Bool) (x8 : List Bool) (x9 : Int), loopK z2g.la4 (fun σ K => codeK (z2g.E lp) z2g.an lp (loopAt 4 (codeOf Tryz.f205)) σ K) n (z2g.s4 x7 x8 x9) K = obind (z2g.l4 lp n x7 x8 x9) (leK 0 z2g.sr4 z2g.sx4 K) := by
  intro n
  induction n with
  | zero => intros; rfl
  | succ n ih =>
    intro x7 x8 x9
    rw [loopK_succ, z2g.t_b4, z2g.l4, z2g.n_b4]
    simp only [ih, obind_some, leK_ret, leK_brk]
theorem z2g.t_a4 (lp : Nat) (y : Int) : kont (R := Int) (z2g.E lp) z2g.an lp (finK (z2g.E lp) Tryz.f205 [(.int .i64)]) (stkAt 4 (codeOf Tryz.f205)) (.exit 0) (z2g.sx4 y) = z2g.a4 lp y := by kernel_rfl
theorem z2g.t_e (lp : Nat) (x0 : List Commit) (x1 : Int) (x2 : Int) : evalF (z2g.E lp) z2g.an lp Tryz.f205 [.v (.sl TCommit), .v (.int .i64), .v (.int .i64)] [(.int .i64)] (x0, x1, x2, ()) = z2g.e lp (fun x7 x8 x9 => loopK z2g.la4 (fun σ K => codeK (z2g.E lp) z2g.an lp (loopAt 4 (codeOf Tryz.f205)) σ K) lp (z2g.s4 x7 x8 x9) (kont (R := Int) (z2g.E lp) z2g.an lp (finK (z2g.E lp) Tryz.f205 [(.int .i64)]) (stkAt 4 (codeOf Tryz.f205)))) x0 x1 x2 := by kernel_rfl
theorem z2g.eq0 (lp : Nat) (x0 : List Commit) (x1 : Int) (x2 : Int) : evalF (z2g.E lp) z2g.an lp Tryz.f205 [.v (.sl TCommit), .v (.int .i64), .v (.int .i64)] [(.int .i64)] (x0, x1, x2, ()) = z2g lp x0 x1 x2 := by
  rw [z2g.t_e]; unfold z2g
  simp only [leK_ret0 _ z2g.sr4 z2g.sx4, z2g.k4, z2g.t_a4]
theorem z2g.eq (lp : Nat) (x : ADens [.v (.sl TCommit), .v (.int .i64), .v (.int .i64)]) : evalF (z2g.E lp) z2g.an lp Tryz.f205 [.v (.sl TCommit), .v (.int .i64), .v (.int .i64)] [(.int .i64)] x = (z2g.S lp).F x := z2g.eq0 lp x.1 x.2.1 x.2.2.1
theorem z2g.ok (lp : Nat) : Sound Tryz.prog 205 (z2g.S lp) := sound_of (E := z2g.E lp) (env_ok z0s tabEqs ⟨z0e.ok lp, trivial⟩ trivial) mixed Tryz.func205 (by kernel_rfl) (c := codeOf Tryz.f205) (by kernel_rfl) (by kernel_rfl) z2g.an (fun x r h => ⟨lp, (z2g.eq lp x).trans h⟩)
def z4a.E : Env := { tab := tab, fns := [], ann := { own := [], ro := [] } }
def z4a.an : An := { pre := [] }
def z4a.S : Spec := { ats := [.v (.int .i64), .v (.sl .str)], rts := [TResult], F := fun x => z4a x.1 x.2.1 }
theorem z4a.eq (lp : Nat) (x : ADens [.v (.int .i64), .v (.sl .str)]) : evalF (z4a.E) z4a.an lp Tryz.f206 [.v (.int .i64), .v (.sl .str)] [TResult] x = (z4a.S).F x := by kernel_rfl
theorem z4a.ok : Sound Tryz.prog 206 (z4a.S) := sound_of (E := z4a.E) (env_ok z0s tabEqs trivial trivial) mixed Tryz.func206 (by kernel_rfl) (c := codeOf Tryz.f206) (by kernel_rfl) (by kernel_rfl) z4a.an (fun x r h => ⟨0, (z4a.eq 0 x).trans h⟩)
def z4w.E : Env := { tab := tab, fns := [], ann := { own := [], ro := [] } }
def z4w.an : An := { pre := [] }
def z4w.S : Spec := { ats := [.v (.sl TEntry), .v (.sl .str)], rts := [(.sl TEntry), (.sl .str), (.int .i64)], F := fun x => z4w x.1 x.2.1 }
theorem z4w.eq (lp : Nat) (x : ADens [.v (.sl TEntry), .v (.sl .str)]) : evalF (z4w.E) z4w.an lp Tryz.f207 [.v (.sl TEntry), .v (.sl .str)] [(.sl TEntry), (.sl .str), (.int .i64)] x = (z4w.S).F x := by kernel_rfl
theorem z4w.ok : Sound Tryz.prog 207 (z4w.S) := sound_of (E := z4w.E) (env_ok z0s tabEqs trivial trivial) mixed Tryz.func207 (by kernel_rfl) (c := codeOf Tryz.f207) (by kernel_rfl) (by kernel_rfl) z4w.an (fun x r h => ⟨0, (z4w.eq 0 x).trans h⟩)
def z1m.la3 : LoopAn := { kn := { tms := [0, 1, 5, 6], obs := [7] }, kx := { tms := [5], obs := [7] }, kr := {} }
def z1m.E (lp : Nat) : Env := { tab := tab, fns := [], ann := { own := [7], ro := [] } }
def z1m.an : An := { loops := [(3, z1m.la3)] }
def z1m.s3 (x0 : List Entry) (x1 : ByteArray) (x6 : Int) (xo7 : List Entry) : St := ⟨.v (.one (.b (.d (.sl TEntry) x0))) :: .v (.one (.b (.d .str x1))) :: (sk 3 (.v (.one (.row 7 0)) :: .v (.one (.b (.d (.int .i64) x6))) :: (sk 22 ([])))), sko 7 (some (.row 122 TEntry xo7 0) :: (sko 21 ([])))⟩
def z1m.sx3 (y : (List Entry)) : St := ⟨sk 5 (.v (.one (.row 7 0)) :: (sk 23 ([]))), sko 7 (some (.row 122 TEntry y 0) :: (sko 21 ([])))⟩
def z1m.sr3 (z : Empty) : St := z.elim
def z1m.S (lp : Nat) : Spec := { ats := [.v (.sl TEntry), .v .str], rts := [(.sl TEntry)], F := fun x => z1m lp x.1 x.2.1 }
theorem z1m.t_b3 (lp : Nat) {R : Type} (N : St → Option R) (X : Out → St → Option R) (x0 : List Entry) (x1 : ByteArray) (x6 : Int) (xo7 : List Entry) : codeK (z1m.E lp) z1m.an lp (loopAt 3 (codeOf Tryz.f220)) (z1m.s3 x0 x1 x6 xo7) (lpK z1m.la3 N X) = z1m.b3 lp (fun x0 x1 x6 xo7 => N (z1m.s3 x0 x1 x6 xo7)) (fun y => X (.exit 0) (z1m.sx3 y)) (fun z => X .ret (z1m.sr3 z)) x0 x1 x6 xo7 := by kernel_rfl
theorem z1m.n_b3 (lp : Nat) {R S : Type} (N : List Entry → ByteArray → Int → List Entry → Option R) (X : ((List Entry)) → Option R) (Q : Empty → Option R) (x0 : List Entry) (x1 : ByteArray) (x6 : Int) (xo7 : List Entry) (k : R → Option S) : obind (z1m.b3 lp N X Q x0 x1 x6 xo7) k = z1m.b3 lp (fun x0 x1 x6 xo7 => obind (N x0 x1 x6 xo7) k) (fun y => obind (X y) k) (fun z => obind (Q z) k) x0 x1 x6 xo7 := by
  unfold z1m.b3; simp only [obind_none, obind_some, obind_cond, obind_oif, obind_oget, obind_obind]
theorem z1m.k3 (lp : Nat) {R : Type} (K : Out → St → Option R) : ∀ (n : Nat) (x0 : List Entry) (x1 : ByteArray) (x6 : Int) (xo7 : List Entry), loopK z1m.la3 (fun σ K => codeK (z1m.E lp) z1m.an lp (loopAt 3 (codeOf Tryz.f220)) σ K) n (z1m.s3 x0 x1 x6 xo7) K = obind (z1m.l3 lp n x0 x1 x6 xo7) (leK 0 z1m.sr3 z1m.sx3 K) := by
  intro n
  induction n with
  | zero => intros; rfl
  | succ n ih =>
    intro x0 x1 x6 xo7
    rw [loopK_succ, z1m.t_b3, z1m.l3, z1m.n_b3]
    simp only [ih, obind_some, leK_ret, leK_brk]
theorem z1m.t_a3 (lp : Nat) (y : (List Entry)) : kont (R := (List Entry)) (z1m.E lp) z1m.an lp (finK (z1m.E lp) Tryz.f220 [(.sl TEntry)]) (stkAt 3 (codeOf Tryz.f220)) (.exit 0) (z1m.sx3 y) = z1m.a3 lp y := by kernel_rfl
theorem z1m.t_e (lp : Nat) (x0 : List Entry) (x1 : ByteArray) : evalF (z1m.E lp) z1m.an lp Tryz.f220 [.v (.sl TEntry), .v .str] [(.sl TEntry)] (x0, x1, ()) = z1m.e lp (fun x0 x1 x6 xo7 => loopK z1m.la3 (fun σ K => codeK (z1m.E lp) z1m.an lp (loopAt 3 (codeOf Tryz.f220)) σ K) lp (z1m.s3 x0 x1 x6 xo7) (kont (R := (List Entry)) (z1m.E lp) z1m.an lp (finK (z1m.E lp) Tryz.f220 [(.sl TEntry)]) (stkAt 3 (codeOf Tryz.f220)))) x0 x1 := by kernel_rfl
theorem z1m.eq0 (lp : Nat) (x0 : List Entry) (x1 : ByteArray) : evalF (z1m.E lp) z1m.an lp Tryz.f220 [.v (.sl TEntry), .v .str] [(.sl TEntry)] (x0, x1, ()) = z1m lp x0 x1 := by
  rw [z1m.t_e]; unfold z1m
  simp only [leK_ret0 _ z1m.sr3 z1m.sx3, z1m.k3, z1m.t_a3]
theorem z1m.eq (lp : Nat) (x : ADens [.v (.sl TEntry), .v .str]) : evalF (z1m.E lp) z1m.an lp Tryz.f220 [.v (.sl TEntry), .v .str] [(.sl TEntry)] x = (z1m.S lp).F x := z1m.eq0 lp x.1 x.2.1
theorem z1m.ok (lp : Nat) : Sound Tryz.prog 220 (z1m.S lp) := sound_of (E := z1m.E lp) (env_ok z0s tabEqs trivial trivial) mixed Tryz.func220 (by kernel_rfl) (c := codeOf Tryz.f220) (by kernel_rfl) (by kernel_rfl) z1m.an (fun x r h => ⟨lp, (z1m.eq lp x).trans h⟩)
def z2p.la4 : LoopAn := { kn := { tms := [0, 1, 2, 7, 8, 9], obs := [10] }, kx := { tms := [1, 2, 7, 8], obs := [10] }, kr := {} }
def z2p.E (lp : Nat) : Env := { tab := tab, fns := [], ann := { own := [10], ro := [] } }
def z2p.an : An := { loops := [(4, z2p.la4)] }
def z2p.s4 (x0 : List Entry) (x1 : ByteArray) (x2 : Int) (x8 : Bool) (x9 : Int) (xo10 : List Entry) : St := ⟨.v (.one (.b (.d (.sl TEntry) x0))) :: .v (.one (.b (.d .str x1))) :: .v (.one (.b (.d (.int .i64) x2))) :: (sk 4 (.v (.one (.row 10 0)) :: .v (.one (.b (.d .bool x8))) :: .v (.one (.b (.d (.int .i64) x9))) :: (sk 47 ([])))), sko 10 (some (.row 122 TEntry xo10 0) :: (sko 46 ([])))⟩
def z2p.sx4 (y : ByteArray × Int × Bool × (List Entry)) : St := ⟨sk 1 (.v (.one (.b (.d .str y.1))) :: .v (.one (.b (.d (.int .i64) y.2.1))) :: (sk 4 (.v (.one (.row 10 0)) :: .v (.one (.b (.d .bool y.2.2.1))) :: (sk 48 ([]))))), sko 10 (some (.row 122 TEntry y.2.2.2 0) :: (sko 46 ([])))⟩
def z2p.sr4 (z : Empty) : St := z.elim
def z2p.S (lp : Nat) : Spec := { ats := [.v (.sl TEntry), .v .str, .v (.int .i64)], rts := [(.sl TEntry)], F := fun x => z2p lp x.1 x.2.1 x.2.2.1 }
theorem z2p.t_b4 (lp : Nat) {R : Type} (N : St → Option R) (X : Out → St → Option R) (x0 : List Entry) (x1 : ByteArray) (x2 : Int) (x8 : Bool) (x9 : Int) (xo10 : List Entry) : codeK (z2p.E lp) z2p.an lp (loopAt 4 (codeOf Tryz.f221)) (z2p.s4 x0 x1 x2 x8 x9 xo10) (lpK z2p.la4 N X) = z2p.b4 lp (fun x0 x1 x2 x8 x9 xo10 => N (z2p.s4 x0 x1 x2 x8 x9 xo10)) (fun y => X (.exit 0) (z2p.sx4 y)) (fun z => X .ret (z2p.sr4 z)) x0 x1 x2 x8 x9 xo10 := by kernel_rfl
theorem z2p.n_b4 (lp : Nat) {R S : Type} (N : List Entry → ByteArray → Int → Bool → Int → List Entry → Option R) (X : (ByteArray × Int × Bool × (List Entry)) → Option R) (Q : Empty → Option R) (x0 : List Entry) (x1 : ByteArray) (x2 : Int) (x8 : Bool) (x9 : Int) (xo10 : List Entry) (k : R → Option S) : obind (z2p.b4 lp N X Q x0 x1 x2 x8 x9 xo10) k = z2p.b4 lp (fun x0 x1 x2 x8 x9 xo10 => obind (N x0 x1 x2 x8 x9 xo10) k) (fun y => obind (X y) k) (fun z => obind (Q z) k) x0 x1 x2 x8 x9 xo10 := by
  unfold z2p.b4; simp only [obind_none, obind_some, obind_cond, obind_oif, obind_oget, obind_obind]
theorem z2p.k4 (lp : Nat) {R : Type} (K : Out → St → Option R) : ∀ (n : Nat) (x0 : List Entry) (x1 : ByteArray) (x2 : Int) (x8 : Bool) (x9 : Int) (xo10 : List Entry), loopK z2p.la4 (fun σ K => codeK (z2p.E lp) z2p.an lp (loopAt 4 (codeOf Tryz.f221)) σ K) n (z2p.s4 x0 x1 x2 x8 x9 xo10) K = obind (z2p.l4 lp n x0 x1 x2 x8 x9 xo10) (leK 0 z2p.sr4 z2p.sx4 K) := by
  intro n
  induction n with
  | zero => intros; rfl
  | succ n ih =>
    intro x0 x1 x2 x8 x9 xo10
    rw [loopK_succ, z2p.t_b4, z2p.l4, z2p.n_b4]
    simp only [ih, obind_some, leK_ret, leK_brk]
theorem z2p.t_a4 (lp : Nat) (y : ByteArray × Int × Bool × (List Entry)) : kont (R := (List Entry)) (z2p.E lp) z2p.an lp (finK (z2p.E lp) Tryz.f221 [(.sl TEntry)]) (stkAt 4 (codeOf Tryz.f221)) (.exit 0) (z2p.sx4 y) = z2p.a4 lp y := by kernel_rfl
theorem z2p.t_e (lp : Nat) (x0 : List Entry) (x1 : ByteArray) (x2 : Int) : evalF (z2p.E lp) z2p.an lp Tryz.f221 [.v (.sl TEntry), .v .str, .v (.int .i64)] [(.sl TEntry)] (x0, x1, x2, ()) = z2p.e lp (fun x0 x1 x2 x8 x9 xo10 => loopK z2p.la4 (fun σ K => codeK (z2p.E lp) z2p.an lp (loopAt 4 (codeOf Tryz.f221)) σ K) lp (z2p.s4 x0 x1 x2 x8 x9 xo10) (kont (R := (List Entry)) (z2p.E lp) z2p.an lp (finK (z2p.E lp) Tryz.f221 [(.sl TEntry)]) (stkAt 4 (codeOf Tryz.f221)))) x0 x1 x2 := by kernel_rfl
theorem z2p.eq0 (lp : Nat) (x0 : List Entry) (x1 : ByteArray) (x2 : Int) : evalF (z2p.E lp) z2p.an lp Tryz.f221 [.v (.sl TEntry), .v .str, .v (.int .i64)] [(.sl TEntry)] (x0, x1, x2, ()) = z2p lp x0 x1 x2 := by
  rw [z2p.t_e]; unfold z2p
  simp only [leK_ret0 _ z2p.sr4 z2p.sx4, z2p.k4, z2p.t_a4]
theorem z2p.eq (lp : Nat) (x : ADens [.v (.sl TEntry), .v .str, .v (.int .i64)]) : evalF (z2p.E lp) z2p.an lp Tryz.f221 [.v (.sl TEntry), .v .str, .v (.int .i64)] [(.sl TEntry)] x = (z2p.S lp).F x := z2p.eq0 lp x.1 x.2.1 x.2.2.1
theorem z2p.ok (lp : Nat) : Sound Tryz.prog 221 (z2p.S lp) := sound_of (E := z2p.E lp) (env_ok z0s tabEqs trivial trivial) mixed Tryz.func221 (by kernel_rfl) (c := codeOf Tryz.f221) (by kernel_rfl) (by kernel_rfl) z2p.an (fun x r h => ⟨lp, (z2p.eq lp x).trans h⟩)
def z1o.la3 : LoopAn := { kn := { freeze := [6], tms := [0, 1, 5], obs := [6] }, kx := { tms := [0] }, kr := {} }
def z1o.E (lp : Nat) : Env := { tab := tab, fns := [(220, z1m.S lp), (221, z2p.S lp)], ann := { own := [6], ro := [] } }
def z1o.an : An := { loops := [(3, z1o.la3)], pre := [(6, [6])] }
def z1o.s3 (x0 : List Entry) (x1 : List Edit) (x5 : Int) : St := ⟨.v (.one (.b (.d (.sl TEntry) x0))) :: .v (.one (.b (.d (.sl TEdit) x1))) :: (sk 3 (.v (.one (.b (.d (.int .i64) x5))) :: (sk 34 ([])))), sko 40 ([])⟩
def z1o.sx3 (y : (List Entry)) : St := ⟨.v (.one (.b (.d (.sl TEntry) y))) :: (sk 39 ([])), sko 40 ([])⟩
def z1o.sr3 (z : Empty) : St := z.elim
def z1o.S (lp : Nat) : Spec := { ats := [.v (.sl TEntry), .v (.sl TEdit)], rts := [(.sl TEntry)], F := fun x => z1o lp x.1 x.2.1 }
theorem z1o.t_b3 (lp : Nat) {R : Type} (N : St → Option R) (X : Out → St → Option R) (x0 : List Entry) (x1 : List Edit) (x5 : Int) : codeK (z1o.E lp) z1o.an lp (loopAt 3 (codeOf Tryz.f209)) (z1o.s3 x0 x1 x5) (lpK z1o.la3 N X) = z1o.b3 lp (fun x0 x1 x5 => N (z1o.s3 x0 x1 x5)) (fun y => X (.exit 0) (z1o.sx3 y)) (fun z => X .ret (z1o.sr3 z)) x0 x1 x5 := by kernel_rfl
theorem z1o.n_b3 (lp : Nat) {R S : Type} (N : List Entry → List Edit → Int → Option R) (X : ((List Entry)) → Option R) (Q : Empty → Option R) (x0 : List Entry) (x1 : List Edit) (x5 : Int) (k : R → Option S) : obind (z1o.b3 lp N X Q x0 x1 x5) k = z1o.b3 lp (fun x0 x1 x5 => obind (N x0 x1 x5) k) (fun y => obind (X y) k) (fun z => obind (Q z) k) x0 x1 x5 := by
  unfold z1o.b3; simp only [obind_none, obind_some, obind_cond, obind_oif, obind_oget, obind_obind]
theorem z1o.k3 (lp : Nat) {R : Type} (K : Out → St → Option R) : ∀ (n : Nat) (x0 : List Entry) (x1 : List Edit) (x5 : Int), loopK z1o.la3 (fun σ K => codeK (z1o.E lp) z1o.an lp (loopAt 3 (codeOf Tryz.f209)) σ K) n (z1o.s3 x0 x1 x5) K = obind (z1o.l3 lp n x0 x1 x5) (leK 0 z1o.sr3 z1o.sx3 K) := by
  intro n
  induction n with
  | zero => intros; rfl
  | succ n ih =>
    intro x0 x1 x5
    rw [loopK_succ, z1o.t_b3, z1o.l3, z1o.n_b3]
    simp only [ih, obind_some, leK_ret, leK_brk]
theorem z1o.t_a3 (lp : Nat) (y : (List Entry)) : kont (R := (List Entry)) (z1o.E lp) z1o.an lp (finK (z1o.E lp) Tryz.f209 [(.sl TEntry)]) (stkAt 3 (codeOf Tryz.f209)) (.exit 0) (z1o.sx3 y) = z1o.a3 lp y := by kernel_rfl
theorem z1o.t_e (lp : Nat) (x0 : List Entry) (x1 : List Edit) : evalF (z1o.E lp) z1o.an lp Tryz.f209 [.v (.sl TEntry), .v (.sl TEdit)] [(.sl TEntry)] (x0, x1, ()) = z1o.e lp (fun x0 x1 x5 => loopK z1o.la3 (fun σ K => codeK (z1o.E lp) z1o.an lp (loopAt 3 (codeOf Tryz.f209)) σ K) lp (z1o.s3 x0 x1 x5) (kont (R := (List Entry)) (z1o.E lp) z1o.an lp (finK (z1o.E lp) Tryz.f209 [(.sl TEntry)]) (stkAt 3 (codeOf Tryz.f209)))) x0 x1 := by kernel_rfl
theorem z1o.eq0 (lp : Nat) (x0 : List Entry) (x1 : List Edit) : evalF (z1o.E lp) z1o.an lp Tryz.f209 [.v (.sl TEntry), .v (.sl TEdit)] [(.sl TEntry)] (x0, x1, ()) = z1o lp x0 x1 := by
  rw [z1o.t_e]; unfold z1o
  simp only [leK_ret0 _ z1o.sr3 z1o.sx3, z1o.k3, z1o.t_a3]
theorem z1o.eq (lp : Nat) (x : ADens [.v (.sl TEntry), .v (.sl TEdit)]) : evalF (z1o.E lp) z1o.an lp Tryz.f209 [.v (.sl TEntry), .v (.sl TEdit)] [(.sl TEntry)] x = (z1o.S lp).F x := z1o.eq0 lp x.1 x.2.1
theorem z1o.ok (lp : Nat) : Sound Tryz.prog 209 (z1o.S lp) := sound_of (E := z1o.E lp) (env_ok z0s tabEqs ⟨z1m.ok lp, z2p.ok lp, trivial⟩ trivial) mixed Tryz.func209 (by kernel_rfl) (c := codeOf Tryz.f209) (by kernel_rfl) (by kernel_rfl) z1o.an (fun x r h => ⟨lp, (z1o.eq lp x).trans h⟩)
def z29.la4 : LoopAn := { kn := { tms := [0, 1, 5, 6, 7], obs := [8] }, kx := { tms := [5], obs := [8] }, kr := {} }
def z29.E (lp : Nat) : Env := { tab := tab, fns := [], ann := { own := [8], ro := [] } }
def z29.an : An := { loops := [(4, z29.la4)] }
def z29.s4 (x0 : List Entry) (x1 : List Entry) (x6 : Int) (x7 : Int) (xo8 : List Edit) : St := ⟨.v (.one (.b (.d (.sl TEntry) x0))) :: .v (.one (.b (.d (.sl TEntry) x1))) :: (sk 3 (.v (.one (.row 8 0)) :: .v (.one (.b (.d (.int .i64) x6))) :: .v (.one (.b (.d (.int .i64) x7))) :: (sk 110 ([])))), sko 8 (some (.row 168 TEdit xo8 0) :: (sko 109 ([])))⟩
def z29.sx4 (y : (List Edit)) : St := ⟨sk 5 (.v (.one (.row 8 0)) :: (sk 112 ([]))), sko 8 (some (.row 168 TEdit y 0) :: (sko 109 ([])))⟩
def z29.sr4 (z : Empty) : St := z.elim
def z29.S (lp : Nat) : Spec := { ats := [.v (.sl TEntry), .v (.sl TEntry)], rts := [(.sl TEdit)], F := fun x => z29 lp x.1 x.2.1 }
theorem z29.t_b4 (lp : Nat) {R : Type} (N : St → Option R) (X : Out → St → Option R) (x0 : List Entry) (x1 : List Entry) (x6 : Int) (x7 : Int) (xo8 : List Edit) : codeK (z29.E lp) z29.an lp (loopAt 4 (codeOf Tryz.f218)) (z29.s4 x0 x1 x6 x7 xo8) (lpK z29.la4 N X) = z29.b4 lp (fun x0 x1 x6 x7 xo8 => N (z29.s4 x0 x1 x6 x7 xo8)) (fun y => X (.exit 0) (z29.sx4 y)) (fun z => X .ret (z29.sr4 z)) x0 x1 x6 x7 xo8 := by kernel_rfl
theorem z29.n_b4 (lp : Nat) {R S : Type} (N : List Entry → List Entry → Int → Int → List Edit → Option R) (X : ((List Edit)) → Option R) (Q : Empty → Option R) (x0 : List Entry) (x1 : List Entry) (x6 : Int) (x7 : Int) (xo8 : List Edit) (k : R → Option S) : obind (z29.b4 lp N X Q x0 x1 x6 x7 xo8) k = z29.b4 lp (fun x0 x1 x6 x7 xo8 => obind (N x0 x1 x6 x7 xo8) k) (fun y => obind (X y) k) (fun z => obind (Q z) k) x0 x1 x6 x7 xo8 := by
  unfold z29.b4; simp only [obind_none, obind_some, obind_cond, obind_oif, obind_oget, obind_obind]
theorem z29.k4 (lp : Nat) {R : Type} (K : Out → St → Option R) : ∀ (n : Nat) (x0 : List Entry) (x1 : List Entry) (x6 : Int) (x7 : Int) (xo8 : List Edit), loopK z29.la4 (fun σ K => codeK (z29.E lp) z29.an lp (loopAt 4 (codeOf Tryz.f218)) σ K) n (z29.s4 x0 x1 x6 x7 xo8) K = obind (z29.l4 lp n x0 x1 x6 x7 xo8) (leK 0 z29.sr4 z29.sx4 K) := by
  intro n
  induction n with
  | zero => intros; rfl
  | succ n ih =>
    intro x0 x1 x6 x7 xo8
    rw [loopK_succ, z29.t_b4, z29.l4, z29.n_b4]
    simp only [ih, obind_some, leK_ret, leK_brk]
theorem z29.t_a4 (lp : Nat) (y : (List Edit)) : kont (R := (List Edit)) (z29.E lp) z29.an lp (finK (z29.E lp) Tryz.f218 [(.sl TEdit)]) (stkAt 4 (codeOf Tryz.f218)) (.exit 0) (z29.sx4 y) = z29.a4 lp y := by kernel_rfl
theorem z29.t_e (lp : Nat) (x0 : List Entry) (x1 : List Entry) : evalF (z29.E lp) z29.an lp Tryz.f218 [.v (.sl TEntry), .v (.sl TEntry)] [(.sl TEdit)] (x0, x1, ()) = z29.e lp (fun x0 x1 x6 x7 xo8 => loopK z29.la4 (fun σ K => codeK (z29.E lp) z29.an lp (loopAt 4 (codeOf Tryz.f218)) σ K) lp (z29.s4 x0 x1 x6 x7 xo8) (kont (R := (List Edit)) (z29.E lp) z29.an lp (finK (z29.E lp) Tryz.f218 [(.sl TEdit)]) (stkAt 4 (codeOf Tryz.f218)))) x0 x1 := by kernel_rfl
theorem z29.eq0 (lp : Nat) (x0 : List Entry) (x1 : List Entry) : evalF (z29.E lp) z29.an lp Tryz.f218 [.v (.sl TEntry), .v (.sl TEntry)] [(.sl TEdit)] (x0, x1, ()) = z29 lp x0 x1 := by
  rw [z29.t_e]; unfold z29
  simp only [leK_ret0 _ z29.sr4 z29.sx4, z29.k4, z29.t_a4]
theorem z29.eq (lp : Nat) (x : ADens [.v (.sl TEntry), .v (.sl TEntry)]) : evalF (z29.E lp) z29.an lp Tryz.f218 [.v (.sl TEntry), .v (.sl TEntry)] [(.sl TEdit)] x = (z29.S lp).F x := z29.eq0 lp x.1 x.2.1
theorem z29.ok (lp : Nat) : Sound Tryz.prog 218 (z29.S lp) := sound_of (E := z29.E lp) (env_ok z0s tabEqs trivial trivial) mixed Tryz.func218 (by kernel_rfl) (c := codeOf Tryz.f218) (by kernel_rfl) (by kernel_rfl) z29.an (fun x r h => ⟨lp, (z29.eq lp x).trans h⟩)
def z1x.la2 : LoopAn := { kn := { tms := [0, 1, 4, 6], obs := [4] }, kx := { tms := [4], obs := [4] }, kr := { tms := [4, 5], obs := [4] } }
def z1x.E (lp : Nat) : Env := { tab := tab, fns := [], ann := { own := [], ro := [] } }
def z1x.an : An := { loops := [(2, z1x.la2)] }
def z1x.s2 (x0 : List Edit) (x1 : ByteArray) (x6 : Int) (xb4_0 : ByteArray) (xb4_1 : Int) (xb4_2 : Bool) : St := ⟨.v (.one (.b (.d (.sl TEdit) x0))) :: .v (.one (.b (.d .str x1))) :: (sk 2 (.v (.one (.ptr 4 0)) :: (sk 1 (.v (.one (.b (.d (.int .i64) x6))) :: (sk 18 ([])))))), sko 4 (some (.box [.b (.d .str xb4_0), .b (.d (.int .i64) xb4_1), .b (.d .bool xb4_2)]) :: (sko 20 ([])))⟩
def z1x.sx2 (y : ByteArray × Int × Bool) : St := ⟨sk 4 (.v (.one (.ptr 4 0)) :: (sk 20 ([]))), sko 4 (some (.box [.b (.d .str y.1), .b (.d (.int .i64) y.2.1), .b (.d .bool y.2.2)]) :: (sko 20 ([])))⟩
def z1x.sr2 (z : Bool × ByteArray × Int × Bool) : St := ⟨sk 4 (.v (.one (.ptr 4 0)) :: .v (.one (.b (.d .bool z.1))) :: (sk 19 ([]))), sko 4 (some (.box [.b (.d .str z.2.1), .b (.d (.int .i64) z.2.2.1), .b (.d .bool z.2.2.2)]) :: (sko 20 ([])))⟩
def z1x.S (lp : Nat) : Spec := { ats := [.v (.sl TEdit), .v .str], rts := [TEdit, .bool], F := fun x => z1x lp x.1 x.2.1 }
theorem z1x.t_b2 (lp : Nat) {R : Type} (N : St → Option R) (X : Out → St → Option R) (x0 : List Edit) (x1 : ByteArray) (x6 : Int) (xb4_0 : ByteArray) (xb4_1 : Int) (xb4_2 : Bool) : codeK (z1x.E lp) z1x.an lp (loopAt 2 (codeOf Tryz.f219)) (z1x.s2 x0 x1 x6 xb4_0 xb4_1 xb4_2) (lpK z1x.la2 N X) = z1x.b2 lp (fun x0 x1 x6 xb4_0 xb4_1 xb4_2 => N (z1x.s2 x0 x1 x6 xb4_0 xb4_1 xb4_2)) (fun y => X (.exit 0) (z1x.sx2 y)) (fun z => X .ret (z1x.sr2 z)) x0 x1 x6 xb4_0 xb4_1 xb4_2 := by kernel_rfl
theorem z1x.n_b2 (lp : Nat) {R S : Type} (N : List Edit → ByteArray → Int → ByteArray → Int → Bool → Option R) (X : (ByteArray × Int × Bool) → Option R) (Q : (Bool × ByteArray × Int × Bool) → Option R) (x0 : List Edit) (x1 : ByteArray) (x6 : Int) (xb4_0 : ByteArray) (xb4_1 : Int) (xb4_2 : Bool) (k : R → Option S) : obind (z1x.b2 lp N X Q x0 x1 x6 xb4_0 xb4_1 xb4_2) k = z1x.b2 lp (fun x0 x1 x6 xb4_0 xb4_1 xb4_2 => obind (N x0 x1 x6 xb4_0 xb4_1 xb4_2) k) (fun y => obind (X y) k) (fun z => obind (Q z) k) x0 x1 x6 xb4_0 xb4_1 xb4_2 := by
  unfold z1x.b2; simp only [obind_none, obind_some, obind_cond, obind_oif, obind_oget, obind_obind]
theorem z1x.k2 (lp : Nat) {R : Type} (K : Out → St → Option R) : ∀ (n : Nat) (x0 : List Edit) (x1 : ByteArray) (x6 : Int) (xb4_0 : ByteArray) (xb4_1 : Int) (xb4_2 : Bool), loopK z1x.la2 (fun σ K => codeK (z1x.E lp) z1x.an lp (loopAt 2 (codeOf Tryz.f219)) σ K) n (z1x.s2 x0 x1 x6 xb4_0 xb4_1 xb4_2) K = obind (z1x.l2 lp n x0 x1 x6 xb4_0 xb4_1 xb4_2) (leK 0 z1x.sr2 z1x.sx2 K) := by
  intro n
  induction n with
  | zero => intros; rfl
  | succ n ih =>
    intro x0 x1 x6 xb4_0 xb4_1 xb4_2
    rw [loopK_succ, z1x.t_b2, z1x.l2, z1x.n_b2]
    simp only [ih, obind_some, leK_ret, leK_brk]
theorem z1x.t_a2 (lp : Nat) (y : ByteArray × Int × Bool) : kont (R := Edit × Bool) (z1x.E lp) z1x.an lp (finK (z1x.E lp) Tryz.f219 [TEdit, .bool]) (stkAt 2 (codeOf Tryz.f219)) (.exit 0) (z1x.sx2 y) = z1x.a2 lp y := by kernel_rfl
theorem z1x.t_q2 (lp : Nat) (z : Bool × ByteArray × Int × Bool) : kont (R := Edit × Bool) (z1x.E lp) z1x.an lp (finK (z1x.E lp) Tryz.f219 [TEdit, .bool]) (stkAt 2 (codeOf Tryz.f219)) .ret (z1x.sr2 z) = z1x.q2 lp z := by kernel_rfl
theorem z1x.t_e (lp : Nat) (x0 : List Edit) (x1 : ByteArray) : evalF (z1x.E lp) z1x.an lp Tryz.f219 [.v (.sl TEdit), .v .str] [TEdit, .bool] (x0, x1, ()) = z1x.e lp (fun x0 x1 x6 xb4_0 xb4_1 xb4_2 => loopK z1x.la2 (fun σ K => codeK (z1x.E lp) z1x.an lp (loopAt 2 (codeOf Tryz.f219)) σ K) lp (z1x.s2 x0 x1 x6 xb4_0 xb4_1 xb4_2) (kont (R := Edit × Bool) (z1x.E lp) z1x.an lp (finK (z1x.E lp) Tryz.f219 [TEdit, .bool]) (stkAt 2 (codeOf Tryz.f219)))) x0 x1 := by kernel_rfl
theorem z1x.eq0 (lp : Nat) (x0 : List Edit) (x1 : ByteArray) : evalF (z1x.E lp) z1x.an lp Tryz.f219 [.v (.sl TEdit), .v .str] [TEdit, .bool] (x0, x1, ()) = z1x lp x0 x1 := by
  rw [z1x.t_e]; unfold z1x
  simp only [leK_leF _ z1x.sr2 z1x.sx2, z1x.k2, z1x.t_a2, z1x.t_q2]
theorem z1x.eq (lp : Nat) (x : ADens [.v (.sl TEdit), .v .str]) : evalF (z1x.E lp) z1x.an lp Tryz.f219 [.v (.sl TEdit), .v .str] [TEdit, .bool] x = (z1x.S lp).F x := z1x.eq0 lp x.1 x.2.1
theorem z1x.ok (lp : Nat) : Sound Tryz.prog 219 (z1x.S lp) := sound_of (E := z1x.E lp) (env_ok z0s tabEqs trivial trivial) mixed Tryz.func219 (by kernel_rfl) (c := codeOf Tryz.f219) (by kernel_rfl) (by kernel_rfl) z1x.an (fun x r h => ⟨lp, (z1x.eq lp x).trans h⟩)
def z1n.la6 : LoopAn := { kn := { tms := [1, 8, 9, 10, 11, 12], obs := [21, 22] }, kx := { tms := [1, 10, 11], obs := [21, 22] }, kr := {} }
def z1n.E (lp : Nat) : Env := { tab := tab, fns := [(218, z29.S lp), (219, z1x.S lp), (209, z1o.S lp)], ann := { own := [21, 22], ro := [] } }
def z1n.an : An := { loops := [(6, z1n.la6)], pre := [(13, [22])] }
def z1n.s6 (x1 : List Entry) (x8 : List Edit) (x9 : List Edit) (x12 : Int) (xo21 : List ByteArray) (xo22 : List Edit) : St := ⟨sk 1 (.v (.one (.b (.d (.sl TEntry) x1))) :: (sk 6 (.v (.one (.b (.d (.sl TEdit) x8))) :: .v (.one (.b (.d (.sl TEdit) x9))) :: .v (.one (.row 21 0)) :: .v (.one (.row 22 0)) :: .v (.one (.b (.d (.int .i64) x12))) :: (sk 53 ([]))))), sko 21 (some (.row 9 .str xo21 0) :: some (.row 168 TEdit xo22 0) :: (sko 43 ([])))⟩
def z1n.sx6 (y : (List Entry) × (List ByteArray) × (List Edit)) : St := ⟨sk 1 (.v (.one (.b (.d (.sl TEntry) y.1))) :: (sk 8 (.v (.one (.row 21 0)) :: .v (.one (.row 22 0)) :: (sk 54 ([]))))), sko 21 (some (.row 9 .str y.2.1 0) :: some (.row 168 TEdit y.2.2 0) :: (sko 43 ([])))⟩
def z1n.sr6 (z : Empty) : St := z.elim
def z1n.S (lp : Nat) : Spec := { ats := [.v (.sl TEntry), .v (.sl TEntry), .v (.sl TEntry)], rts := [(.sl TEntry), (.sl .str)], F := fun x => z1n lp x.1 x.2.1 x.2.2.1 }
theorem z1n.t_b6 (lp : Nat) {R : Type} (N : St → Option R) (X : Out → St → Option R) (x1 : List Entry) (x8 : List Edit) (x9 : List Edit) (x12 : Int) (xo21 : List ByteArray) (xo22 : List Edit) : codeK (z1n.E lp) z1n.an lp (loopAt 6 (codeOf Tryz.f208)) (z1n.s6 x1 x8 x9 x12 xo21 xo22) (lpK z1n.la6 N X) = z1n.b6 lp (fun x1 x8 x9 x12 xo21 xo22 => N (z1n.s6 x1 x8 x9 x12 xo21 xo22)) (fun y => X (.exit 0) (z1n.sx6 y)) (fun z => X .ret (z1n.sr6 z)) x1 x8 x9 x12 xo21 xo22 := by kernel_rfl
theorem z1n.n_b6 (lp : Nat) {R S : Type} (N : List Entry → List Edit → List Edit → Int → List ByteArray → List Edit → Option R) (X : ((List Entry) × (List ByteArray) × (List Edit)) → Option R) (Q : Empty → Option R) (x1 : List Entry) (x8 : List Edit) (x9 : List Edit) (x12 : Int) (xo21 : List ByteArray) (xo22 : List Edit) (k : R → Option S) : obind (z1n.b6 lp N X Q x1 x8 x9 x12 xo21 xo22) k = z1n.b6 lp (fun x1 x8 x9 x12 xo21 xo22 => obind (N x1 x8 x9 x12 xo21 xo22) k) (fun y => obind (X y) k) (fun z => obind (Q z) k) x1 x8 x9 x12 xo21 xo22 := by
  unfold z1n.b6; simp only [obind_none, obind_some, obind_cond, obind_oif, obind_oget, obind_obind]
theorem z1n.k6 (lp : Nat) {R : Type} (K : Out → St → Option R) : ∀ (n : Nat) (x1 : List Entry) (x8 : List Edit) (x9 : List Edit) (x12 : Int) (xo21 : List ByteArray) (xo22 : List Edit), loopK z1n.la6 (fun σ K => codeK (z1n.E lp) z1n.an lp (loopAt 6 (codeOf Tryz.f208)) σ K) n (z1n.s6 x1 x8 x9 x12 xo21 xo22) K = obind (z1n.l6 lp n x1 x8 x9 x12 xo21 xo22) (leK 0 z1n.sr6 z1n.sx6 K) := by
  intro n
  induction n with
  | zero => intros; rfl
  | succ n ih =>
    intro x1 x8 x9 x12 xo21 xo22
    rw [loopK_succ, z1n.t_b6, z1n.l6, z1n.n_b6]
    simp only [ih, obind_some, leK_ret, leK_brk]
theorem z1n.t_a6 (lp : Nat) (y : (List Entry) × (List ByteArray) × (List Edit)) : kont (R := (List Entry) × (List ByteArray)) (z1n.E lp) z1n.an lp (finK (z1n.E lp) Tryz.f208 [(.sl TEntry), (.sl .str)]) (stkAt 6 (codeOf Tryz.f208)) (.exit 0) (z1n.sx6 y) = z1n.a6 lp y := by kernel_rfl
theorem z1n.t_e (lp : Nat) (x0 : List Entry) (x1 : List Entry) (x2 : List Entry) : evalF (z1n.E lp) z1n.an lp Tryz.f208 [.v (.sl TEntry), .v (.sl TEntry), .v (.sl TEntry)] [(.sl TEntry), (.sl .str)] (x0, x1, x2, ()) = z1n.e lp (fun x1 x8 x9 x12 xo21 xo22 => loopK z1n.la6 (fun σ K => codeK (z1n.E lp) z1n.an lp (loopAt 6 (codeOf Tryz.f208)) σ K) lp (z1n.s6 x1 x8 x9 x12 xo21 xo22) (kont (R := (List Entry) × (List ByteArray)) (z1n.E lp) z1n.an lp (finK (z1n.E lp) Tryz.f208 [(.sl TEntry), (.sl .str)]) (stkAt 6 (codeOf Tryz.f208)))) x0 x1 x2 := by kernel_rfl
theorem z1n.eq0 (lp : Nat) (x0 : List Entry) (x1 : List Entry) (x2 : List Entry) : evalF (z1n.E lp) z1n.an lp Tryz.f208 [.v (.sl TEntry), .v (.sl TEntry), .v (.sl TEntry)] [(.sl TEntry), (.sl .str)] (x0, x1, x2, ()) = z1n lp x0 x1 x2 := by
  rw [z1n.t_e]; unfold z1n
  simp only [leK_ret0 _ z1n.sr6 z1n.sx6, z1n.k6, z1n.t_a6]
theorem z1n.eq (lp : Nat) (x : ADens [.v (.sl TEntry), .v (.sl TEntry), .v (.sl TEntry)]) : evalF (z1n.E lp) z1n.an lp Tryz.f208 [.v (.sl TEntry), .v (.sl TEntry), .v (.sl TEntry)] [(.sl TEntry), (.sl .str)] x = (z1n.S lp).F x := z1n.eq0 lp x.1 x.2.1 x.2.2.1
theorem z1n.ok (lp : Nat) : Sound Tryz.prog 208 (z1n.S lp) := sound_of (E := z1n.E lp) (env_ok z0s tabEqs ⟨z29.ok lp, z1x.ok lp, z1o.ok lp, trivial⟩ trivial) mixed Tryz.func208 (by kernel_rfl) (c := codeOf Tryz.f208) (by kernel_rfl) (by kernel_rfl) z1n.an (fun x r h => ⟨lp, (z1n.eq lp x).trans h⟩)
def z5v.E (lp : Nat) : Env := { tab := tab, fns := [(205, z2g.S lp), (206, z4a.S), (208, z1n.S lp), (207, z4w.S)], ann := { own := [], ro := [] } }
def z5v.an : An := { pre := [] }
def z5v.S (lp : Nat) : Spec := { ats := [.v (.sl TCommit), .v (.int .i64), .v (.int .i64)], rts := [.bool, (.sl TEntry), TResult], F := fun x => z5v lp x.1 x.2.1 x.2.2.1 }
theorem z5v.eq (lp : Nat) (x : ADens [.v (.sl TCommit), .v (.int .i64), .v (.int .i64)]) : evalF (z5v.E lp) z5v.an lp Tryz.f190 [.v (.sl TCommit), .v (.int .i64), .v (.int .i64)] [.bool, (.sl TEntry), TResult] x = (z5v.S lp).F x := by kernel_rfl
theorem z5v.ok (lp : Nat) : Sound Tryz.prog 190 (z5v.S lp) := sound_of (E := z5v.E lp) (env_ok z0s tabEqs ⟨z2g.ok lp, z4a.ok, z1n.ok lp, z4w.ok, trivial⟩ trivial) mixed Tryz.func190 (by kernel_rfl) (c := codeOf Tryz.f190) (by kernel_rfl) (by kernel_rfl) z5v.an (fun x r h => ⟨lp, (z5v.eq lp x).trans h⟩)
def z5p.E (lp : Nat) : Env := { tab := tab, fns := [(209, z1o.S lp), (206, z4a.S), (208, z1n.S lp), (207, z4w.S), (92, z17.S lp)], ann := { own := [], ro := [] } }
def z5p.an : An := { pre := [] }
def z5p.S (lp : Nat) : Spec := { ats := [.v (.sl TCommit), .v (.int .i64), .v (.int .i64), .v (.sl TEdit)], rts := [(.sl TEntry), TResult], F := fun x => z5p lp x.1 x.2.1 x.2.2.1 x.2.2.2.1 }
theorem z5p.eq (lp : Nat) (x : ADens [.v (.sl TCommit), .v (.int .i64), .v (.int .i64), .v (.sl TEdit)]) : evalF (z5p.E lp) z5p.an lp Tryz.f191 [.v (.sl TCommit), .v (.int .i64), .v (.int .i64), .v (.sl TEdit)] [(.sl TEntry), TResult] x = (z5p.S lp).F x := by kernel_rfl
theorem z5p.ok (lp : Nat) : Sound Tryz.prog 191 (z5p.S lp) := sound_of (E := z5p.E lp) (env_ok z0s tabEqs ⟨z1o.ok lp, z4a.ok, z1n.ok lp, z4w.ok, z17.ok lp, trivial⟩ trivial) mixed Tryz.func191 (by kernel_rfl) (c := codeOf Tryz.f191) (by kernel_rfl) (by kernel_rfl) z5p.an (fun x r h => ⟨lp, (z5p.eq lp x).trans h⟩)
def z4j.E (lp : Nat) : Env := { tab := tab, fns := [(190, z5v.S lp), (191, z5p.S lp)], ann := { own := [], ro := [5] } }
def z4j.an : An := { pre := [] }
def z4j.S (lp : Nat) : Spec := { ats := [.v (.sl TCommit), .v TWish, .v (.int .i64), .v (.int .i64)], rts := [.bool, (.sl TEntry), TResult], F := fun x => z4j lp x.1 x.2.1 x.2.2.1 x.2.2.2.1 }
theorem z4j.eq (lp : Nat) (x : ADens [.v (.sl TCommit), .v TWish, .v (.int .i64), .v (.int .i64)]) : evalF (z4j.E lp) z4j.an lp Tryz.f141 [.v (.sl TCommit), .v TWish, .v (.int .i64), .v (.int .i64)] [.bool, (.sl TEntry), TResult] x = (z4j.S lp).F x := by kernel_rfl
theorem z4j.ok (lp : Nat) : Sound Tryz.prog 141 (z4j.S lp) := sound_of (E := z4j.E lp) (env_ok z0s tabEqs ⟨z5v.ok lp, z5p.ok lp, trivial⟩ trivial) mixed Tryz.func141 (by kernel_rfl) (c := codeOf Tryz.f141) (by kernel_rfl) (by kernel_rfl) z4j.an (fun x r h => ⟨lp, (z4j.eq lp x).trans h⟩)
def z54.E : Env := { tab := tab, fns := [], ann := { own := [], ro := [1] } }
def z54.an : An := { pre := [] }
def z54.S : Spec := { ats := [.v TClient], rts := [.bool], F := fun x => z54 x.1 }
theorem z54.eq (lp : Nat) (x : ADens [.v TClient]) : evalF (z54.E) z54.an lp Tryz.f142 [.v TClient] [.bool] x = (z54.S).F x := by kernel_rfl
theorem z54.ok : Sound Tryz.prog 142 (z54.S) := sound_of (E := z54.E) (env_ok z0s tabEqs trivial trivial) mixed Tryz.func142 (by kernel_rfl) (c := codeOf Tryz.f142) (by kernel_rfl) (by kernel_rfl) z54.an (fun x r h => ⟨0, (z54.eq 0 x).trans h⟩)
def z4l.E (lp : Nat) : Env := { tab := tab, fns := [(37, z1s.S), (141, z4j.S lp), (142, z54.S), (92, z17.S lp)], ann := { own := [], ro := [2, 3] } }
def z4l.an : An := { pre := [] }
def z4l.S (lp : Nat) : Spec := { ats := [.v TBase, .v TClient], rts := [.bool], F := fun x => z4l lp x.1 x.2.1 }
theorem z4l.eq (lp : Nat) (x : ADens [.v TBase, .v TClient]) : evalF (z4l.E lp) z4l.an lp Tryz.f84 [.v TBase, .v TClient] [.bool] x = (z4l.S lp).F x := by kernel_rfl
theorem z4l.ok (lp : Nat) : Sound Tryz.prog 84 (z4l.S lp) := sound_of (E := z4l.E lp) (env_ok z0s tabEqs ⟨z1s.ok, z4j.ok lp, z54.ok, z17.ok lp, trivial⟩ trivial) mixed Tryz.func84 (by kernel_rfl) (c := codeOf Tryz.f84) (by kernel_rfl) (by kernel_rfl) z4l.an (fun x r h => ⟨lp, (z4l.eq lp x).trans h⟩)
def z6z.E (lp : Nat) : Env := { tab := tab, fns := [(83, z0x.S lp), (37, z1s.S), (84, z4l.S lp)], ann := { own := [], ro := [2, 3] } }
def z6z.an : An := { pre := [] }
def z6z.S (lp : Nat) : Spec := { ats := [.v TBase, .v TClient], rts := [.bool], F := fun x => z6z lp x.1 x.2.1 }
theorem z6z.eq (lp : Nat) (x : ADens [.v TBase, .v TClient]) : evalF (z6z.E lp) z6z.an lp Tryz.f38 [.v TBase, .v TClient] [.bool] x = (z6z.S lp).F x := by kernel_rfl
theorem z6z.ok (lp : Nat) : Sound Tryz.prog 38 (z6z.S lp) := sound_of (E := z6z.E lp) (env_ok z0s tabEqs ⟨z0x.ok lp, z1s.ok, z4l.ok lp, trivial⟩ trivial) mixed Tryz.func38 (by kernel_rfl) (c := codeOf Tryz.f38) (by kernel_rfl) (by kernel_rfl) z6z.an (fun x r h => ⟨lp, (z6z.eq lp x).trans h⟩)
def z14.la2 : LoopAn := { kn := { tms := [0, 3] }, kx := {}, kr := { tms := [2] } }
def z14.E (lp : Nat) : Env := { tab := tab, fns := [(37, z1s.S)], ann := { own := [], ro := [] } }
def z14.an : An := { loops := [(2, z14.la2)] }
def z14.s2 (x0 : List Event) (x3 : Int) : St := ⟨.v (.one (.b (.d (.sl TEvent) x0))) :: (sk 2 (.v (.one (.b (.d (.int .i64) x3))) :: (sk 57 ([])))), sko 61 ([])⟩
def z14.sx2 (y : Unit) : St := ⟨sk 61 ([]), sko 61 ([])⟩
def z14.sr2 (z : Bool) : St := ⟨sk 2 (.v (.one (.b (.d .bool z))) :: (sk 58 ([]))), sko 61 ([])⟩
def z14.S (lp : Nat) : Spec := { ats := [.v (.sl TEvent)], rts := [.bool], F := fun x => z14 lp x.1 }
theorem z14.t_b2 (lp : Nat) {R : Type} (N : St → Option R) (X : Out → St → Option R) (x0 : List Event) (x3 : Int) : codeK (z14.E lp) z14.an lp (loopAt 2 (codeOf Tryz.f86)) (z14.s2 x0 x3) (lpK z14.la2 N X) = z14.b2 lp (fun x0 x3 => N (z14.s2 x0 x3)) (fun y => X (.exit 0) (z14.sx2 y)) (fun z => X .ret (z14.sr2 z)) x0 x3 := by kernel_rfl
theorem z14.n_b2 (lp : Nat) {R S : Type} (N : List Event → Int → Option R) (X : Unit → Option R) (Q : Bool → Option R) (x0 : List Event) (x3 : Int) (k : R → Option S) : obind (z14.b2 lp N X Q x0 x3) k = z14.b2 lp (fun x0 x3 => obind (N x0 x3) k) (fun y => obind (X y) k) (fun z => obind (Q z) k) x0 x3 := by
  unfold z14.b2; simp only [obind_none, obind_some, obind_cond, obind_oif, obind_oget, obind_obind]
theorem z14.k2 (lp : Nat) {R : Type} (K : Out → St → Option R) : ∀ (n : Nat) (x0 : List Event) (x3 : Int), loopK z14.la2 (fun σ K => codeK (z14.E lp) z14.an lp (loopAt 2 (codeOf Tryz.f86)) σ K) n (z14.s2 x0 x3) K = obind (z14.l2 lp n x0 x3) (leK 0 z14.sr2 z14.sx2 K) := by
  intro n
  induction n with
  | zero => intros; rfl
  | succ n ih =>
    intro x0 x3
    rw [loopK_succ, z14.t_b2, z14.l2, z14.n_b2]
    simp only [ih, obind_some, leK_ret, leK_brk]
theorem z14.t_a2 (lp : Nat) (y : Unit) : kont (R := Bool) (z14.E lp) z14.an lp (finK (z14.E lp) Tryz.f86 [.bool]) (stkAt 2 (codeOf Tryz.f86)) (.exit 0) (z14.sx2 y) = z14.a2 lp y := by kernel_rfl
theorem z14.t_q2 (lp : Nat) (z : Bool) : kont (R := Bool) (z14.E lp) z14.an lp (finK (z14.E lp) Tryz.f86 [.bool]) (stkAt 2 (codeOf Tryz.f86)) .ret (z14.sr2 z) = z14.q2 lp z := by kernel_rfl
theorem z14.t_e (lp : Nat) (x0 : List Event) : evalF (z14.E lp) z14.an lp Tryz.f86 [.v (.sl TEvent)] [.bool] (x0, ()) = z14.e lp (fun x0 x3 => loopK z14.la2 (fun σ K => codeK (z14.E lp) z14.an lp (loopAt 2 (codeOf Tryz.f86)) σ K) lp (z14.s2 x0 x3) (kont (R := Bool) (z14.E lp) z14.an lp (finK (z14.E lp) Tryz.f86 [.bool]) (stkAt 2 (codeOf Tryz.f86)))) x0 := by kernel_rfl
theorem z14.eq0 (lp : Nat) (x0 : List Event) : evalF (z14.E lp) z14.an lp Tryz.f86 [.v (.sl TEvent)] [.bool] (x0, ()) = z14 lp x0 := by
  rw [z14.t_e]; unfold z14
  simp only [leK_leF _ z14.sr2 z14.sx2, z14.k2, z14.t_a2, z14.t_q2]
theorem z14.eq (lp : Nat) (x : ADens [.v (.sl TEvent)]) : evalF (z14.E lp) z14.an lp Tryz.f86 [.v (.sl TEvent)] [.bool] x = (z14.S lp).F x := z14.eq0 lp x.1
theorem z14.ok (lp : Nat) : Sound Tryz.prog 86 (z14.S lp) := sound_of (E := z14.E lp) (env_ok z0s tabEqs ⟨z1s.ok, trivial⟩ trivial) mixed Tryz.func86 (by kernel_rfl) (c := codeOf Tryz.f86) (by kernel_rfl) (by kernel_rfl) z14.an (fun x r h => ⟨lp, (z14.eq lp x).trans h⟩)
def z2f.la5 : LoopAn := { kn := { tms := [1, 3, 4] }, kx := {}, kr := { tms := [2] } }
def z2f.E (lp : Nat) : Env := { tab := tab, fns := [(85, z0t.S lp), (37, z1s.S), (86, z14.S lp)], ann := { own := [], ro := [1] } }
def z2f.an : An := { loops := [(5, z2f.la5)] }
def z2f.s5 (x1_0 : ByteArray) (x1_1 : Int) (x1_2 : List Event) (x3 : Int) (x4 : Int) : St := ⟨sk 1 (.v (.one (.rdp [.d .str x1_0, .d (.int .i64) x1_1, .d (.sl TEvent) x1_2])) :: (sk 1 (.v (.one (.b (.d (.int .i64) x3))) :: .v (.one (.b (.d (.int .i64) x4))) :: (sk 50 ([]))))), sko 55 ([])⟩
def z2f.sx5 (y : Unit) : St := ⟨sk 55 ([]), sko 55 ([])⟩
def z2f.sr5 (z : Bool) : St := ⟨sk 2 (.v (.one (.b (.d .bool z))) :: (sk 52 ([]))), sko 55 ([])⟩
def z2f.S (lp : Nat) : Spec := { ats := [.v TWatch], rts := [.bool], F := fun x => z2f lp x.1 }
theorem z2f.t_b5 (lp : Nat) {R : Type} (N : St → Option R) (X : Out → St → Option R) (x1_0 : ByteArray) (x1_1 : Int) (x1_2 : List Event) (x3 : Int) (x4 : Int) : codeK (z2f.E lp) z2f.an lp (loopAt 5 (codeOf Tryz.f39)) (z2f.s5 x1_0 x1_1 x1_2 x3 x4) (lpK z2f.la5 N X) = z2f.b5 lp (fun x1_0 x1_1 x1_2 x3 x4 => N (z2f.s5 x1_0 x1_1 x1_2 x3 x4)) (fun y => X (.exit 0) (z2f.sx5 y)) (fun z => X .ret (z2f.sr5 z)) x1_0 x1_1 x1_2 x3 x4 := by kernel_rfl
theorem z2f.n_b5 (lp : Nat) {R S : Type} (N : ByteArray → Int → List Event → Int → Int → Option R) (X : Unit → Option R) (Q : Bool → Option R) (x1_0 : ByteArray) (x1_1 : Int) (x1_2 : List Event) (x3 : Int) (x4 : Int) (k : R → Option S) : obind (z2f.b5 lp N X Q x1_0 x1_1 x1_2 x3 x4) k = z2f.b5 lp (fun x1_0 x1_1 x1_2 x3 x4 => obind (N x1_0 x1_1 x1_2 x3 x4) k) (fun y => obind (X y) k) (fun z => obind (Q z) k) x1_0 x1_1 x1_2 x3 x4 := by
  unfold z2f.b5; simp only [obind_none, obind_some, obind_cond, obind_oif, obind_oget, obind_obind]
theorem z2f.k5 (lp : Nat) {R : Type} (K : Out → St → Option R) : ∀ (n : Nat) (x1_0 : ByteArray) (x1_1 : Int) (x1_2 : List Event) (x3 : Int) (x4 : Int), loopK z2f.la5 (fun σ K => codeK (z2f.E lp) z2f.an lp (loopAt 5 (codeOf Tryz.f39)) σ K) n (z2f.s5 x1_0 x1_1 x1_2 x3 x4) K = obind (z2f.l5 lp n x1_0 x1_1 x1_2 x3 x4) (leK 0 z2f.sr5 z2f.sx5 K) := by
  intro n
  induction n with
  | zero => intros; rfl
  | succ n ih =>
    intro x1_0 x1_1 x1_2 x3 x4
    rw [loopK_succ, z2f.t_b5, z2f.l5, z2f.n_b5]
    simp only [ih, obind_some, leK_ret, leK_brk]
theorem z2f.t_a5 (lp : Nat) (y : Unit) : kont (R := Bool) (z2f.E lp) z2f.an lp (finK (z2f.E lp) Tryz.f39 [.bool]) (stkAt 5 (codeOf Tryz.f39)) (.exit 0) (z2f.sx5 y) = z2f.a5 lp y := by kernel_rfl
theorem z2f.t_q5 (lp : Nat) (z : Bool) : kont (R := Bool) (z2f.E lp) z2f.an lp (finK (z2f.E lp) Tryz.f39 [.bool]) (stkAt 5 (codeOf Tryz.f39)) .ret (z2f.sr5 z) = z2f.q5 lp z := by kernel_rfl
theorem z2f.t_e (lp : Nat) (x0 : Watch) : evalF (z2f.E lp) z2f.an lp Tryz.f39 [.v TWatch] [.bool] (x0, ()) = z2f.e lp (fun x1_0 x1_1 x1_2 x3 x4 => loopK z2f.la5 (fun σ K => codeK (z2f.E lp) z2f.an lp (loopAt 5 (codeOf Tryz.f39)) σ K) lp (z2f.s5 x1_0 x1_1 x1_2 x3 x4) (kont (R := Bool) (z2f.E lp) z2f.an lp (finK (z2f.E lp) Tryz.f39 [.bool]) (stkAt 5 (codeOf Tryz.f39)))) x0 := by kernel_rfl
theorem z2f.eq0 (lp : Nat) (x0 : Watch) : evalF (z2f.E lp) z2f.an lp Tryz.f39 [.v TWatch] [.bool] (x0, ()) = z2f lp x0 := by
  rw [z2f.t_e]; unfold z2f
  simp only [leK_leF _ z2f.sr5 z2f.sx5, z2f.k5, z2f.t_a5, z2f.t_q5]
theorem z2f.eq (lp : Nat) (x : ADens [.v TWatch]) : evalF (z2f.E lp) z2f.an lp Tryz.f39 [.v TWatch] [.bool] x = (z2f.S lp).F x := z2f.eq0 lp x.1
theorem z2f.ok (lp : Nat) : Sound Tryz.prog 39 (z2f.S lp) := sound_of (E := z2f.E lp) (env_ok z0s tabEqs ⟨z0t.ok lp, z1s.ok, z14.ok lp, trivial⟩ trivial) mixed Tryz.func39 (by kernel_rfl) (c := codeOf Tryz.f39) (by kernel_rfl) (by kernel_rfl) z2f.an (fun x r h => ⟨lp, (z2f.eq lp x).trans h⟩)
def z6b.E (lp : Nat) : Env := { tab := tab, fns := [(87, z2h.S lp)], ann := { own := [], ro := [] } }
def z6b.an : An := { pre := [] }
def z6b.S (lp : Nat) : Spec := { ats := [.v (.sl TRef), .v .str], rts := [TWatch], F := fun x => z6b lp x.1 x.2.1 }
theorem z6b.eq (lp : Nat) (x : ADens [.v (.sl TRef), .v .str]) : evalF (z6b.E lp) z6b.an lp Tryz.f40 [.v (.sl TRef), .v .str] [TWatch] x = (z6b.S lp).F x := by kernel_rfl
theorem z6b.ok (lp : Nat) : Sound Tryz.prog 40 (z6b.S lp) := sound_of (E := z6b.E lp) (env_ok z0s tabEqs ⟨z2h.ok lp, trivial⟩ trivial) mixed Tryz.func40 (by kernel_rfl) (c := codeOf Tryz.f40) (by kernel_rfl) (by kernel_rfl) z6b.an (fun x r h => ⟨lp, (z6b.eq lp x).trans h⟩)
def z4y.E (lp : Nat) : Env := { tab := tab, fns := [(85, z0t.S lp), (37, z1s.S), (145, z11.S lp)], ann := { own := [], ro := [1] } }
def z4y.an : An := { pre := [] }
def z4y.S (lp : Nat) : Spec := { ats := [.v TOp], rts := [.bool], F := fun x => z4y lp x.1 }
theorem z4y.eq (lp : Nat) (x : ADens [.v TOp]) : evalF (z4y.E lp) z4y.an lp Tryz.f88 [.v TOp] [.bool] x = (z4y.S lp).F x := by kernel_rfl
theorem z4y.ok (lp : Nat) : Sound Tryz.prog 88 (z4y.S lp) := sound_of (E := z4y.E lp) (env_ok z0s tabEqs ⟨z0t.ok lp, z1s.ok, z11.ok lp, trivial⟩ trivial) mixed Tryz.func88 (by kernel_rfl) (c := codeOf Tryz.f88) (by kernel_rfl) (by kernel_rfl) z4y.an (fun x r h => ⟨lp, (z4y.eq lp x).trans h⟩)
def z4s.E (lp : Nat) : Env := { tab := tab, fns := [(37, z1s.S), (89, z24.S lp), (88, z4y.S lp)], ann := { own := [], ro := [2, 3] } }
def z4s.an : An := { pre := [] }
def z4s.S (lp : Nat) : Spec := { ats := [.v TWorld, .v TMoment], rts := [.bool], F := fun x => z4s lp x.1 x.2.1 }
theorem z4s.eq (lp : Nat) (x : ADens [.v TWorld, .v TMoment]) : evalF (z4s.E lp) z4s.an lp Tryz.f41 [.v TWorld, .v TMoment] [.bool] x = (z4s.S lp).F x := by kernel_rfl
theorem z4s.ok (lp : Nat) : Sound Tryz.prog 41 (z4s.S lp) := sound_of (E := z4s.E lp) (env_ok z0s tabEqs ⟨z1s.ok, z24.ok lp, z4y.ok lp, trivial⟩ trivial) mixed Tryz.func41 (by kernel_rfl) (c := codeOf Tryz.f41) (by kernel_rfl) (by kernel_rfl) z4s.an (fun x r h => ⟨lp, (z4s.eq lp x).trans h⟩)
def z02.la5 : LoopAn := { kn := { tms := [1, 3, 4] }, kx := { tms := [1, 3] }, kr := { tms := [2] } }
def z02.la11 : LoopAn := { kn := { tms := [1, 3, 5] }, kx := { tms := [1, 3] }, kr := { tms := [2] } }
def z02.la19 : LoopAn := { kn := { tms := [1, 7] }, kx := {}, kr := { tms := [2] } }
def z02.E (lp : Nat) : Env := { tab := tab, fns := [(36, z2o.S lp), (37, z1s.S), (38, z6z.S lp), (39, z2f.S lp), (40, z6b.S lp), (41, z4s.S lp)], ann := { own := [], ro := [1] } }
def z02.an : An := { loops := [(5, z02.la5), (11, z02.la11), (19, z02.la19)] }
def z02.s5 (x1_0 : List Commit) (x1_1 : List Ref) (x1_2 : List Client) (x1_3 : List Watch) (x1_4 : List Moment) (x1_5 : Int) (x3 : Int) (x4 : Int) : St := ⟨sk 1 (.v (.one (.rdp [.d (.sl TCommit) x1_0, .d (.sl TRef) x1_1, .d (.sl TClient) x1_2, .d (.sl TWatch) x1_3, .d (.sl TMoment) x1_4, .d (.int .i64) x1_5])) :: (sk 1 (.v (.one (.b (.d (.int .i64) x3))) :: .v (.one (.b (.d (.int .i64) x4))) :: (sk 116 ([]))))), sko 121 ([])⟩
def z02.sx5 (y : (List Commit) × (List Ref) × (List Client) × (List Watch) × (List Moment) × Int × Int) : St := ⟨sk 1 (.v (.one (.rdp [.d (.sl TCommit) y.1, .d (.sl TRef) y.2.1, .d (.sl TClient) y.2.2.1, .d (.sl TWatch) y.2.2.2.1, .d (.sl TMoment) y.2.2.2.2.1, .d (.int .i64) y.2.2.2.2.2.1])) :: (sk 1 (.v (.one (.b (.d (.int .i64) y.2.2.2.2.2.2))) :: (sk 117 ([]))))), sko 121 ([])⟩
def z02.sr5 (z : Bool) : St := ⟨sk 2 (.v (.one (.b (.d .bool z))) :: (sk 118 ([]))), sko 121 ([])⟩
def z02.s11 (x1_0 : List Commit) (x1_1 : List Ref) (x1_2 : List Client) (x1_3 : List Watch) (x1_4 : List Moment) (x1_5 : Int) (x3 : Int) (x5 : Int) : St := ⟨sk 1 (.v (.one (.rdp [.d (.sl TCommit) x1_0, .d (.sl TRef) x1_1, .d (.sl TClient) x1_2, .d (.sl TWatch) x1_3, .d (.sl TMoment) x1_4, .d (.int .i64) x1_5])) :: (sk 1 (.v (.one (.b (.d (.int .i64) x3))) :: (sk 1 (.v (.one (.b (.d (.int .i64) x5))) :: (sk 115 ([]))))))), sko 121 ([])⟩
def z02.sx11 (y : (List Commit) × (List Ref) × (List Client) × (List Watch) × (List Moment) × Int × Int) : St := ⟨sk 1 (.v (.one (.rdp [.d (.sl TCommit) y.1, .d (.sl TRef) y.2.1, .d (.sl TClient) y.2.2.1, .d (.sl TWatch) y.2.2.2.1, .d (.sl TMoment) y.2.2.2.2.1, .d (.int .i64) y.2.2.2.2.2.1])) :: (sk 1 (.v (.one (.b (.d (.int .i64) y.2.2.2.2.2.2))) :: (sk 117 ([]))))), sko 121 ([])⟩
def z02.sr11 (z : Bool) : St := ⟨sk 2 (.v (.one (.b (.d .bool z))) :: (sk 118 ([]))), sko 121 ([])⟩
def z02.s19 (x1_0 : List Commit) (x1_1 : List Ref) (x1_2 : List Client) (x1_3 : List Watch) (x1_4 : List Moment) (x1_5 : Int) (x7 : Int) : St := ⟨sk 1 (.v (.one (.rdp [.d (.sl TCommit) x1_0, .d (.sl TRef) x1_1, .d (.sl TClient) x1_2, .d (.sl TWatch) x1_3, .d (.sl TMoment) x1_4, .d (.int .i64) x1_5])) :: (sk 5 (.v (.one (.b (.d (.int .i64) x7))) :: (sk 113 ([]))))), sko 121 ([])⟩
def z02.sx19 (y : Unit) : St := ⟨sk 121 ([]), sko 121 ([])⟩
def z02.sr19 (z : Bool) : St := ⟨sk 2 (.v (.one (.b (.d .bool z))) :: (sk 118 ([]))), sko 121 ([])⟩
def z02.S (lp : Nat) : Spec := { ats := [.v TWorld], rts := [.bool], F := fun x => z02 lp x.1 }
theorem z02.t_b19 (lp : Nat) {R : Type} (N : St → Option R) (X : Out → St → Option R) (x1_0 : List Commit) (x1_1 : List Ref) (x1_2 : List Client) (x1_3 : List Watch) (x1_4 : List Moment) (x1_5 : Int) (x7 : Int) : codeK (z02.E lp) z02.an lp (loopAt 19 (codeOf Tryz.f13)) (z02.s19 x1_0 x1_1 x1_2 x1_3 x1_4 x1_5 x7) (lpK z02.la19 N X) = z02.b19 lp (fun x1_0 x1_1 x1_2 x1_3 x1_4 x1_5 x7 => N (z02.s19 x1_0 x1_1 x1_2 x1_3 x1_4 x1_5 x7)) (fun y => X (.exit 4) (z02.sx19 y)) (fun z => X .ret (z02.sr19 z)) x1_0 x1_1 x1_2 x1_3 x1_4 x1_5 x7 := by kernel_rfl
theorem z02.n_b19 (lp : Nat) {R S : Type} (N : List Commit → List Ref → List Client → List Watch → List Moment → Int → Int → Option R) (X : Unit → Option R) (Q : Bool → Option R) (x1_0 : List Commit) (x1_1 : List Ref) (x1_2 : List Client) (x1_3 : List Watch) (x1_4 : List Moment) (x1_5 : Int) (x7 : Int) (k : R → Option S) : obind (z02.b19 lp N X Q x1_0 x1_1 x1_2 x1_3 x1_4 x1_5 x7) k = z02.b19 lp (fun x1_0 x1_1 x1_2 x1_3 x1_4 x1_5 x7 => obind (N x1_0 x1_1 x1_2 x1_3 x1_4 x1_5 x7) k) (fun y => obind (X y) k) (fun z => obind (Q z) k) x1_0 x1_1 x1_2 x1_3 x1_4 x1_5 x7 := by
  unfold z02.b19; simp only [obind_none, obind_some, obind_cond, obind_oif, obind_oget, obind_obind]
theorem z02.k19 (lp : Nat) {R : Type} (K : Out → St → Option R) : ∀ (n : Nat) (x1_0 : List Commit) (x1_1 : List Ref) (x1_2 : List Client) (x1_3 : List Watch) (x1_4 : List Moment) (x1_5 : Int) (x7 : Int), loopK z02.la19 (fun σ K => codeK (z02.E lp) z02.an lp (loopAt 19 (codeOf Tryz.f13)) σ K) n (z02.s19 x1_0 x1_1 x1_2 x1_3 x1_4 x1_5 x7) K = obind (z02.l19 lp n x1_0 x1_1 x1_2 x1_3 x1_4 x1_5 x7) (leK 4 z02.sr19 z02.sx19 K) := by
  intro n
  induction n with
  | zero => intros; rfl
  | succ n ih =>
    intro x1_0 x1_1 x1_2 x1_3 x1_4 x1_5 x7
    rw [loopK_succ, z02.t_b19, z02.l19, z02.n_b19]
    simp only [ih, obind_some, leK_ret, leK_brk]
theorem z02.t_b11 (lp : Nat) {R : Type} (N : St → Option R) (X : Out → St → Option R) (x1_0 : List Commit) (x1_1 : List Ref) (x1_2 : List Client) (x1_3 : List Watch) (x1_4 : List Moment) (x1_5 : Int) (x3 : Int) (x5 : Int) : codeK (z02.E lp) z02.an lp (loopAt 11 (codeOf Tryz.f13)) (z02.s11 x1_0 x1_1 x1_2 x1_3 x1_4 x1_5 x3 x5) (lpK z02.la11 N X) = z02.b11 lp (fun x1_0 x1_1 x1_2 x1_3 x1_4 x1_5 x3 x5 => N (z02.s11 x1_0 x1_1 x1_2 x1_3 x1_4 x1_5 x3 x5)) (fun y => X (.exit 2) (z02.sx11 y)) (fun z => X .ret (z02.sr11 z)) x1_0 x1_1 x1_2 x1_3 x1_4 x1_5 x3 x5 := by kernel_rfl
theorem z02.n_b11 (lp : Nat) {R S : Type} (N : List Commit → List Ref → List Client → List Watch → List Moment → Int → Int → Int → Option R) (X : ((List Commit) × (List Ref) × (List Client) × (List Watch) × (List Moment) × Int × Int) → Option R) (Q : Bool → Option R) (x1_0 : List Commit) (x1_1 : List Ref) (x1_2 : List Client) (x1_3 : List Watch) (x1_4 : List Moment) (x1_5 : Int) (x3 : Int) (x5 : Int) (k : R → Option S) : obind (z02.b11 lp N X Q x1_0 x1_1 x1_2 x1_3 x1_4 x1_5 x3 x5) k = z02.b11 lp (fun x1_0 x1_1 x1_2 x1_3 x1_4 x1_5 x3 x5 => obind (N x1_0 x1_1 x1_2 x1_3 x1_4 x1_5 x3 x5) k) (fun y => obind (X y) k) (fun z => obind (Q z) k) x1_0 x1_1 x1_2 x1_3 x1_4 x1_5 x3 x5 := by
  unfold z02.b11; simp only [obind_none, obind_some, obind_cond, obind_oif, obind_oget, obind_obind]
theorem z02.k11 (lp : Nat) {R : Type} (K : Out → St → Option R) : ∀ (n : Nat) (x1_0 : List Commit) (x1_1 : List Ref) (x1_2 : List Client) (x1_3 : List Watch) (x1_4 : List Moment) (x1_5 : Int) (x3 : Int) (x5 : Int), loopK z02.la11 (fun σ K => codeK (z02.E lp) z02.an lp (loopAt 11 (codeOf Tryz.f13)) σ K) n (z02.s11 x1_0 x1_1 x1_2 x1_3 x1_4 x1_5 x3 x5) K = obind (z02.l11 lp n x1_0 x1_1 x1_2 x1_3 x1_4 x1_5 x3 x5) (leK 2 z02.sr11 z02.sx11 K) := by
  intro n
  induction n with
  | zero => intros; rfl
  | succ n ih =>
    intro x1_0 x1_1 x1_2 x1_3 x1_4 x1_5 x3 x5
    rw [loopK_succ, z02.t_b11, z02.l11, z02.n_b11]
    simp only [ih, obind_some, leK_ret, leK_brk]
theorem z02.t_b5 (lp : Nat) {R : Type} (N : St → Option R) (X : Out → St → Option R) (x1_0 : List Commit) (x1_1 : List Ref) (x1_2 : List Client) (x1_3 : List Watch) (x1_4 : List Moment) (x1_5 : Int) (x3 : Int) (x4 : Int) : codeK (z02.E lp) z02.an lp (loopAt 5 (codeOf Tryz.f13)) (z02.s5 x1_0 x1_1 x1_2 x1_3 x1_4 x1_5 x3 x4) (lpK z02.la5 N X) = z02.b5 lp (fun x1_0 x1_1 x1_2 x1_3 x1_4 x1_5 x3 x4 => N (z02.s5 x1_0 x1_1 x1_2 x1_3 x1_4 x1_5 x3 x4)) (fun y => X (.exit 0) (z02.sx5 y)) (fun z => X .ret (z02.sr5 z)) x1_0 x1_1 x1_2 x1_3 x1_4 x1_5 x3 x4 := by kernel_rfl
theorem z02.n_b5 (lp : Nat) {R S : Type} (N : List Commit → List Ref → List Client → List Watch → List Moment → Int → Int → Int → Option R) (X : ((List Commit) × (List Ref) × (List Client) × (List Watch) × (List Moment) × Int × Int) → Option R) (Q : Bool → Option R) (x1_0 : List Commit) (x1_1 : List Ref) (x1_2 : List Client) (x1_3 : List Watch) (x1_4 : List Moment) (x1_5 : Int) (x3 : Int) (x4 : Int) (k : R → Option S) : obind (z02.b5 lp N X Q x1_0 x1_1 x1_2 x1_3 x1_4 x1_5 x3 x4) k = z02.b5 lp (fun x1_0 x1_1 x1_2 x1_3 x1_4 x1_5 x3 x4 => obind (N x1_0 x1_1 x1_2 x1_3 x1_4 x1_5 x3 x4) k) (fun y => obind (X y) k) (fun z => obind (Q z) k) x1_0 x1_1 x1_2 x1_3 x1_4 x1_5 x3 x4 := by
  unfold z02.b5; simp only [obind_none, obind_some, obind_cond, obind_oif, obind_oget, obind_obind]
theorem z02.k5 (lp : Nat) {R : Type} (K : Out → St → Option R) : ∀ (n : Nat) (x1_0 : List Commit) (x1_1 : List Ref) (x1_2 : List Client) (x1_3 : List Watch) (x1_4 : List Moment) (x1_5 : Int) (x3 : Int) (x4 : Int), loopK z02.la5 (fun σ K => codeK (z02.E lp) z02.an lp (loopAt 5 (codeOf Tryz.f13)) σ K) n (z02.s5 x1_0 x1_1 x1_2 x1_3 x1_4 x1_5 x3 x4) K = obind (z02.l5 lp n x1_0 x1_1 x1_2 x1_3 x1_4 x1_5 x3 x4) (leK 0 z02.sr5 z02.sx5 K) := by
  intro n
  induction n with
  | zero => intros; rfl
  | succ n ih =>
    intro x1_0 x1_1 x1_2 x1_3 x1_4 x1_5 x3 x4
    rw [loopK_succ, z02.t_b5, z02.l5, z02.n_b5]
    simp only [ih, obind_some, leK_ret, leK_brk]
theorem z02.t_a19 (lp : Nat) (y : Unit) : kont (R := Bool) (z02.E lp) z02.an lp (finK (z02.E lp) Tryz.f13 [.bool]) (stkAt 19 (codeOf Tryz.f13)) (.exit 4) (z02.sx19 y) = z02.a19 lp y := by kernel_rfl
theorem z02.t_q19 (lp : Nat) (z : Bool) : kont (R := Bool) (z02.E lp) z02.an lp (finK (z02.E lp) Tryz.f13 [.bool]) (stkAt 19 (codeOf Tryz.f13)) .ret (z02.sr19 z) = z02.q19 lp z := by kernel_rfl
theorem z02.t_a11 (lp : Nat) (y : (List Commit) × (List Ref) × (List Client) × (List Watch) × (List Moment) × Int × Int) : kont (R := Bool) (z02.E lp) z02.an lp (finK (z02.E lp) Tryz.f13 [.bool]) (stkAt 11 (codeOf Tryz.f13)) (.exit 2) (z02.sx11 y) = z02.a11 lp (fun x1_0 x1_1 x1_2 x1_3 x1_4 x1_5 x7 => loopK z02.la19 (fun σ K => codeK (z02.E lp) z02.an lp (loopAt 19 (codeOf Tryz.f13)) σ K) lp (z02.s19 x1_0 x1_1 x1_2 x1_3 x1_4 x1_5 x7) (kont (R := Bool) (z02.E lp) z02.an lp (finK (z02.E lp) Tryz.f13 [.bool]) (stkAt 19 (codeOf Tryz.f13)))) y := by kernel_rfl
theorem z02.t_q11 (lp : Nat) (z : Bool) : kont (R := Bool) (z02.E lp) z02.an lp (finK (z02.E lp) Tryz.f13 [.bool]) (stkAt 11 (codeOf Tryz.f13)) .ret (z02.sr11 z) = z02.q11 lp z := by kernel_rfl
theorem z02.t_a5 (lp : Nat) (y : (List Commit) × (List Ref) × (List Client) × (List Watch) × (List Moment) × Int × Int) : kont (R := Bool) (z02.E lp) z02.an lp (finK (z02.E lp) Tryz.f13 [.bool]) (stkAt 5 (codeOf Tryz.f13)) (.exit 0) (z02.sx5 y) = z02.a5 lp (fun x1_0 x1_1 x1_2 x1_3 x1_4 x1_5 x3 x5 => loopK z02.la11 (fun σ K => codeK (z02.E lp) z02.an lp (loopAt 11 (codeOf Tryz.f13)) σ K) lp (z02.s11 x1_0 x1_1 x1_2 x1_3 x1_4 x1_5 x3 x5) (kont (R := Bool) (z02.E lp) z02.an lp (finK (z02.E lp) Tryz.f13 [.bool]) (stkAt 11 (codeOf Tryz.f13)))) y := by kernel_rfl
theorem z02.t_q5 (lp : Nat) (z : Bool) : kont (R := Bool) (z02.E lp) z02.an lp (finK (z02.E lp) Tryz.f13 [.bool]) (stkAt 5 (codeOf Tryz.f13)) .ret (z02.sr5 z) = z02.q5 lp z := by kernel_rfl
theorem z02.t_e (lp : Nat) (x0 : World) : evalF (z02.E lp) z02.an lp Tryz.f13 [.v TWorld] [.bool] (x0, ()) = z02.e lp (fun x1_0 x1_1 x1_2 x1_3 x1_4 x1_5 x3 x4 => loopK z02.la5 (fun σ K => codeK (z02.E lp) z02.an lp (loopAt 5 (codeOf Tryz.f13)) σ K) lp (z02.s5 x1_0 x1_1 x1_2 x1_3 x1_4 x1_5 x3 x4) (kont (R := Bool) (z02.E lp) z02.an lp (finK (z02.E lp) Tryz.f13 [.bool]) (stkAt 5 (codeOf Tryz.f13)))) x0 := by kernel_rfl
theorem z02.eq0 (lp : Nat) (x0 : World) : evalF (z02.E lp) z02.an lp Tryz.f13 [.v TWorld] [.bool] (x0, ()) = z02 lp x0 := by
  rw [z02.t_e]; unfold z02
  simp only [leK_leF _ z02.sr11 z02.sx11, leK_leF _ z02.sr19 z02.sx19, leK_leF _ z02.sr5 z02.sx5, z02.k11, z02.k19, z02.k5, z02.t_a19, z02.t_q19, z02.t_a11, z02.t_q11, z02.t_a5, z02.t_q5]
theorem z02.eq (lp : Nat) (x : ADens [.v TWorld]) : evalF (z02.E lp) z02.an lp Tryz.f13 [.v TWorld] [.bool] x = (z02.S lp).F x := z02.eq0 lp x.1
theorem z02.ok (lp : Nat) : Sound Tryz.prog 13 (z02.S lp) := sound_of (E := z02.E lp) (env_ok z0s tabEqs ⟨z2o.ok lp, z1s.ok, z6z.ok lp, z2f.ok lp, z6b.ok lp, z4s.ok lp, trivial⟩ trivial) mixed Tryz.func13 (by kernel_rfl) (c := codeOf Tryz.f13) (by kernel_rfl) (by kernel_rfl) z02.an (fun x r h => ⟨lp, (z02.eq lp x).trans h⟩)
def z20.la4 : LoopAn := { kn := { tms := [0, 1, 5] }, kx := {}, kr := { tms := [4] } }
def z20.E (lp : Nat) : Env := { tab := tab, fns := [], ann := { own := [], ro := [] } }
def z20.an : An := { loops := [(4, z20.la4)] }
def z20.s4 (x0 : List Int) (x1 : List Int) (x5 : Int) : St := ⟨.v (.one (.b (.d (.sl (.int .i64)) x0))) :: .v (.one (.b (.d (.sl (.int .i64)) x1))) :: (sk 3 (.v (.one (.b (.d (.int .i64) x5))) :: (sk 20 ([])))), sko 26 ([])⟩
def z20.sx4 (y : Unit) : St := ⟨sk 26 ([]), sko 26 ([])⟩
def z20.sr4 (z : Bool) : St := ⟨sk 4 (.v (.one (.b (.d .bool z))) :: (sk 21 ([]))), sko 26 ([])⟩
def z20.S (lp : Nat) : Spec := { ats := [.v (.sl (.int .i64)), .v (.sl (.int .i64))], rts := [.bool], F := fun x => z20 lp x.1 x.2.1 }
theorem z20.t_b4 (lp : Nat) {R : Type} (N : St → Option R) (X : Out → St → Option R) (x0 : List Int) (x1 : List Int) (x5 : Int) : codeK (z20.E lp) z20.an lp (loopAt 4 (codeOf Tryz.f192)) (z20.s4 x0 x1 x5) (lpK z20.la4 N X) = z20.b4 lp (fun x0 x1 x5 => N (z20.s4 x0 x1 x5)) (fun y => X (.exit 0) (z20.sx4 y)) (fun z => X .ret (z20.sr4 z)) x0 x1 x5 := by kernel_rfl
theorem z20.n_b4 (lp : Nat) {R S : Type} (N : List Int → List Int → Int → Option R) (X : Unit → Option R) (Q : Bool → Option R) (x0 : List Int) (x1 : List Int) (x5 : Int) (k : R → Option S) : obind (z20.b4 lp N X Q x0 x1 x5) k = z20.b4 lp (fun x0 x1 x5 => obind (N x0 x1 x5) k) (fun y => obind (X y) k) (fun z => obind (Q z) k) x0 x1 x5 := by
  unfold z20.b4; simp only [obind_none, obind_some, obind_cond, obind_oif, obind_oget, obind_obind]
theorem z20.k4 (lp : Nat) {R : Type} (K : Out → St → Option R) : ∀ (n : Nat) (x0 : List Int) (x1 : List Int) (x5 : Int), loopK z20.la4 (fun σ K => codeK (z20.E lp) z20.an lp (loopAt 4 (codeOf Tryz.f192)) σ K) n (z20.s4 x0 x1 x5) K = obind (z20.l4 lp n x0 x1 x5) (leK 0 z20.sr4 z20.sx4 K) := by
  intro n
  induction n with
  | zero => intros; rfl
  | succ n ih =>
    intro x0 x1 x5
    rw [loopK_succ, z20.t_b4, z20.l4, z20.n_b4]
    simp only [ih, obind_some, leK_ret, leK_brk]
theorem z20.t_a4 (lp : Nat) (y : Unit) : kont (R := Bool) (z20.E lp) z20.an lp (finK (z20.E lp) Tryz.f192 [.bool]) (stkAt 4 (codeOf Tryz.f192)) (.exit 0) (z20.sx4 y) = z20.a4 lp y := by kernel_rfl
theorem z20.t_q4 (lp : Nat) (z : Bool) : kont (R := Bool) (z20.E lp) z20.an lp (finK (z20.E lp) Tryz.f192 [.bool]) (stkAt 4 (codeOf Tryz.f192)) .ret (z20.sr4 z) = z20.q4 lp z := by kernel_rfl
theorem z20.t_e (lp : Nat) (x0 : List Int) (x1 : List Int) : evalF (z20.E lp) z20.an lp Tryz.f192 [.v (.sl (.int .i64)), .v (.sl (.int .i64))] [.bool] (x0, x1, ()) = z20.e lp (fun x0 x1 x5 => loopK z20.la4 (fun σ K => codeK (z20.E lp) z20.an lp (loopAt 4 (codeOf Tryz.f192)) σ K) lp (z20.s4 x0 x1 x5) (kont (R := Bool) (z20.E lp) z20.an lp (finK (z20.E lp) Tryz.f192 [.bool]) (stkAt 4 (codeOf Tryz.f192)))) x0 x1 := by kernel_rfl
theorem z20.eq0 (lp : Nat) (x0 : List Int) (x1 : List Int) : evalF (z20.E lp) z20.an lp Tryz.f192 [.v (.sl (.int .i64)), .v (.sl (.int .i64))] [.bool] (x0, x1, ()) = z20 lp x0 x1 := by
  rw [z20.t_e]; unfold z20
  simp only [leK_leF _ z20.sr4 z20.sx4, z20.k4, z20.t_a4, z20.t_q4]
theorem z20.eq (lp : Nat) (x : ADens [.v (.sl (.int .i64)), .v (.sl (.int .i64))]) : evalF (z20.E lp) z20.an lp Tryz.f192 [.v (.sl (.int .i64)), .v (.sl (.int .i64))] [.bool] x = (z20.S lp).F x := z20.eq0 lp x.1 x.2.1
theorem z20.ok (lp : Nat) : Sound Tryz.prog 192 (z20.S lp) := sound_of (E := z20.E lp) (env_ok z0s tabEqs trivial trivial) mixed Tryz.func192 (by kernel_rfl) (c := codeOf Tryz.f192) (by kernel_rfl) (by kernel_rfl) z20.an (fun x r h => ⟨lp, (z20.eq lp x).trans h⟩)
def z3l.E (lp : Nat) : Env := { tab := tab, fns := [(192, z20.S lp), (92, z17.S lp)], ann := { own := [], ro := [2, 3] } }
def z3l.an : An := { pre := [] }
def z3l.S (lp : Nat) : Spec := { ats := [.v TCommit, .v TCommit], rts := [.bool], F := fun x => z3l lp x.1 x.2.1 }
theorem z3l.eq (lp : Nat) (x : ADens [.v TCommit, .v TCommit]) : evalF (z3l.E lp) z3l.an lp Tryz.f146 [.v TCommit, .v TCommit] [.bool] x = (z3l.S lp).F x := by kernel_rfl
theorem z3l.ok (lp : Nat) : Sound Tryz.prog 146 (z3l.S lp) := sound_of (E := z3l.E lp) (env_ok z0s tabEqs ⟨z20.ok lp, z17.ok lp, trivial⟩ trivial) mixed Tryz.func146 (by kernel_rfl) (c := codeOf Tryz.f146) (by kernel_rfl) (by kernel_rfl) z3l.an (fun x r h => ⟨lp, (z3l.eq lp x).trans h⟩)
def z1z.la4 : LoopAn := { kn := { tms := [0, 1, 5] }, kx := {}, kr := { tms := [4] } }
def z1z.E (lp : Nat) : Env := { tab := tab, fns := [(146, z3l.S lp)], ann := { own := [], ro := [] } }
def z1z.an : An := { loops := [(4, z1z.la4)] }
def z1z.s4 (x0 : List Commit) (x1 : List Commit) (x5 : Int) : St := ⟨.v (.one (.b (.d (.sl TCommit) x0))) :: .v (.one (.b (.d (.sl TCommit) x1))) :: (sk 3 (.v (.one (.b (.d (.int .i64) x5))) :: (sk 21 ([])))), sko 27 ([])⟩
def z1z.sx4 (y : Unit) : St := ⟨sk 27 ([]), sko 27 ([])⟩
def z1z.sr4 (z : Bool) : St := ⟨sk 4 (.v (.one (.b (.d .bool z))) :: (sk 22 ([]))), sko 27 ([])⟩
def z1z.S (lp : Nat) : Spec := { ats := [.v (.sl TCommit), .v (.sl TCommit)], rts := [.bool], F := fun x => z1z lp x.1 x.2.1 }
theorem z1z.t_b4 (lp : Nat) {R : Type} (N : St → Option R) (X : Out → St → Option R) (x0 : List Commit) (x1 : List Commit) (x5 : Int) : codeK (z1z.E lp) z1z.an lp (loopAt 4 (codeOf Tryz.f90)) (z1z.s4 x0 x1 x5) (lpK z1z.la4 N X) = z1z.b4 lp (fun x0 x1 x5 => N (z1z.s4 x0 x1 x5)) (fun y => X (.exit 0) (z1z.sx4 y)) (fun z => X .ret (z1z.sr4 z)) x0 x1 x5 := by kernel_rfl
theorem z1z.n_b4 (lp : Nat) {R S : Type} (N : List Commit → List Commit → Int → Option R) (X : Unit → Option R) (Q : Bool → Option R) (x0 : List Commit) (x1 : List Commit) (x5 : Int) (k : R → Option S) : obind (z1z.b4 lp N X Q x0 x1 x5) k = z1z.b4 lp (fun x0 x1 x5 => obind (N x0 x1 x5) k) (fun y => obind (X y) k) (fun z => obind (Q z) k) x0 x1 x5 := by
  unfold z1z.b4; simp only [obind_none, obind_some, obind_cond, obind_oif, obind_oget, obind_obind]
theorem z1z.k4 (lp : Nat) {R : Type} (K : Out → St → Option R) : ∀ (n : Nat) (x0 : List Commit) (x1 : List Commit) (x5 : Int), loopK z1z.la4 (fun σ K => codeK (z1z.E lp) z1z.an lp (loopAt 4 (codeOf Tryz.f90)) σ K) n (z1z.s4 x0 x1 x5) K = obind (z1z.l4 lp n x0 x1 x5) (leK 0 z1z.sr4 z1z.sx4 K) := by
  intro n
  induction n with
  | zero => intros; rfl
  | succ n ih =>
    intro x0 x1 x5
    rw [loopK_succ, z1z.t_b4, z1z.l4, z1z.n_b4]
    simp only [ih, obind_some, leK_ret, leK_brk]
theorem z1z.t_a4 (lp : Nat) (y : Unit) : kont (R := Bool) (z1z.E lp) z1z.an lp (finK (z1z.E lp) Tryz.f90 [.bool]) (stkAt 4 (codeOf Tryz.f90)) (.exit 0) (z1z.sx4 y) = z1z.a4 lp y := by kernel_rfl
theorem z1z.t_q4 (lp : Nat) (z : Bool) : kont (R := Bool) (z1z.E lp) z1z.an lp (finK (z1z.E lp) Tryz.f90 [.bool]) (stkAt 4 (codeOf Tryz.f90)) .ret (z1z.sr4 z) = z1z.q4 lp z := by kernel_rfl
theorem z1z.t_e (lp : Nat) (x0 : List Commit) (x1 : List Commit) : evalF (z1z.E lp) z1z.an lp Tryz.f90 [.v (.sl TCommit), .v (.sl TCommit)] [.bool] (x0, x1, ()) = z1z.e lp (fun x0 x1 x5 => loopK z1z.la4 (fun σ K => codeK (z1z.E lp) z1z.an lp (loopAt 4 (codeOf Tryz.f90)) σ K) lp (z1z.s4 x0 x1 x5) (kont (R := Bool) (z1z.E lp) z1z.an lp (finK (z1z.E lp) Tryz.f90 [.bool]) (stkAt 4 (codeOf Tryz.f90)))) x0 x1 := by kernel_rfl
theorem z1z.eq0 (lp : Nat) (x0 : List Commit) (x1 : List Commit) : evalF (z1z.E lp) z1z.an lp Tryz.f90 [.v (.sl TCommit), .v (.sl TCommit)] [.bool] (x0, x1, ()) = z1z lp x0 x1 := by
  rw [z1z.t_e]; unfold z1z
  simp only [leK_leF _ z1z.sr4 z1z.sx4, z1z.k4, z1z.t_a4, z1z.t_q4]
theorem z1z.eq (lp : Nat) (x : ADens [.v (.sl TCommit), .v (.sl TCommit)]) : evalF (z1z.E lp) z1z.an lp Tryz.f90 [.v (.sl TCommit), .v (.sl TCommit)] [.bool] x = (z1z.S lp).F x := z1z.eq0 lp x.1 x.2.1
theorem z1z.ok (lp : Nat) : Sound Tryz.prog 90 (z1z.S lp) := sound_of (E := z1z.E lp) (env_ok z0s tabEqs ⟨z3l.ok lp, trivial⟩ trivial) mixed Tryz.func90 (by kernel_rfl) (c := codeOf Tryz.f90) (by kernel_rfl) (by kernel_rfl) z1z.an (fun x r h => ⟨lp, (z1z.eq lp x).trans h⟩)
def z0o.la4 : LoopAn := { kn := { tms := [0, 1, 5] }, kx := {}, kr := { tms := [4] } }
def z0o.E (lp : Nat) : Env := { tab := tab, fns := [], ann := { own := [], ro := [] } }
def z0o.an : An := { loops := [(4, z0o.la4)] }
def z0o.s4 (x0 : List Ref) (x1 : List Ref) (x5 : Int) : St := ⟨.v (.one (.b (.d (.sl TRef) x0))) :: .v (.one (.b (.d (.sl TRef) x1))) :: (sk 3 (.v (.one (.b (.d (.int .i64) x5))) :: (sk 20 ([])))), sko 26 ([])⟩
def z0o.sx4 (y : Unit) : St := ⟨sk 26 ([]), sko 26 ([])⟩
def z0o.sr4 (z : Bool) : St := ⟨sk 4 (.v (.one (.b (.d .bool z))) :: (sk 21 ([]))), sko 26 ([])⟩
def z0o.S (lp : Nat) : Spec := { ats := [.v (.sl TRef), .v (.sl TRef)], rts := [.bool], F := fun x => z0o lp x.1 x.2.1 }
theorem z0o.t_b4 (lp : Nat) {R : Type} (N : St → Option R) (X : Out → St → Option R) (x0 : List Ref) (x1 : List Ref) (x5 : Int) : codeK (z0o.E lp) z0o.an lp (loopAt 4 (codeOf Tryz.f91)) (z0o.s4 x0 x1 x5) (lpK z0o.la4 N X) = z0o.b4 lp (fun x0 x1 x5 => N (z0o.s4 x0 x1 x5)) (fun y => X (.exit 0) (z0o.sx4 y)) (fun z => X .ret (z0o.sr4 z)) x0 x1 x5 := by kernel_rfl
theorem z0o.n_b4 (lp : Nat) {R S : Type} (N : List Ref → List Ref → Int → Option R) (X : Unit → Option R) (Q : Bool → Option R) (x0 : List Ref) (x1 : List Ref) (x5 : Int) (k : R → Option S) : obind (z0o.b4 lp N X Q x0 x1 x5) k = z0o.b4 lp (fun x0 x1 x5 => obind (N x0 x1 x5) k) (fun y => obind (X y) k) (fun z => obind (Q z) k) x0 x1 x5 := by
  unfold z0o.b4; simp only [obind_none, obind_some, obind_cond, obind_oif, obind_oget, obind_obind]
theorem z0o.k4 (lp : Nat) {R : Type} (K : Out → St → Option R) : ∀ (n : Nat) (x0 : List Ref) (x1 : List Ref) (x5 : Int), loopK z0o.la4 (fun σ K => codeK (z0o.E lp) z0o.an lp (loopAt 4 (codeOf Tryz.f91)) σ K) n (z0o.s4 x0 x1 x5) K = obind (z0o.l4 lp n x0 x1 x5) (leK 0 z0o.sr4 z0o.sx4 K) := by
  intro n
  induction n with
  | zero => intros; rfl
  | succ n ih =>
    intro x0 x1 x5
    rw [loopK_succ, z0o.t_b4, z0o.l4, z0o.n_b4]
    simp only [ih, obind_some, leK_ret, leK_brk]
theorem z0o.t_a4 (lp : Nat) (y : Unit) : kont (R := Bool) (z0o.E lp) z0o.an lp (finK (z0o.E lp) Tryz.f91 [.bool]) (stkAt 4 (codeOf Tryz.f91)) (.exit 0) (z0o.sx4 y) = z0o.a4 lp y := by kernel_rfl
theorem z0o.t_q4 (lp : Nat) (z : Bool) : kont (R := Bool) (z0o.E lp) z0o.an lp (finK (z0o.E lp) Tryz.f91 [.bool]) (stkAt 4 (codeOf Tryz.f91)) .ret (z0o.sr4 z) = z0o.q4 lp z := by kernel_rfl
theorem z0o.t_e (lp : Nat) (x0 : List Ref) (x1 : List Ref) : evalF (z0o.E lp) z0o.an lp Tryz.f91 [.v (.sl TRef), .v (.sl TRef)] [.bool] (x0, x1, ()) = z0o.e lp (fun x0 x1 x5 => loopK z0o.la4 (fun σ K => codeK (z0o.E lp) z0o.an lp (loopAt 4 (codeOf Tryz.f91)) σ K) lp (z0o.s4 x0 x1 x5) (kont (R := Bool) (z0o.E lp) z0o.an lp (finK (z0o.E lp) Tryz.f91 [.bool]) (stkAt 4 (codeOf Tryz.f91)))) x0 x1 := by kernel_rfl
theorem z0o.eq0 (lp : Nat) (x0 : List Ref) (x1 : List Ref) : evalF (z0o.E lp) z0o.an lp Tryz.f91 [.v (.sl TRef), .v (.sl TRef)] [.bool] (x0, x1, ()) = z0o lp x0 x1 := by
  rw [z0o.t_e]; unfold z0o
  simp only [leK_leF _ z0o.sr4 z0o.sx4, z0o.k4, z0o.t_a4, z0o.t_q4]
theorem z0o.eq (lp : Nat) (x : ADens [.v (.sl TRef), .v (.sl TRef)]) : evalF (z0o.E lp) z0o.an lp Tryz.f91 [.v (.sl TRef), .v (.sl TRef)] [.bool] x = (z0o.S lp).F x := z0o.eq0 lp x.1 x.2.1
theorem z0o.ok (lp : Nat) : Sound Tryz.prog 91 (z0o.S lp) := sound_of (E := z0o.E lp) (env_ok z0s tabEqs trivial trivial) mixed Tryz.func91 (by kernel_rfl) (c := codeOf Tryz.f91) (by kernel_rfl) (by kernel_rfl) z0o.an (fun x r h => ⟨lp, (z0o.eq lp x).trans h⟩)
def z5z.E (lp : Nat) : Env := { tab := tab, fns := [(90, z1z.S lp), (91, z0o.S lp)], ann := { own := [], ro := [2, 3] } }
def z5z.an : An := { pre := [] }
def z5z.S (lp : Nat) : Spec := { ats := [.v TBase, .v TBase], rts := [.bool], F := fun x => z5z lp x.1 x.2.1 }
theorem z5z.eq (lp : Nat) (x : ADens [.v TBase, .v TBase]) : evalF (z5z.E lp) z5z.an lp Tryz.f42 [.v TBase, .v TBase] [.bool] x = (z5z.S lp).F x := by kernel_rfl
theorem z5z.ok (lp : Nat) : Sound Tryz.prog 42 (z5z.S lp) := sound_of (E := z5z.E lp) (env_ok z0s tabEqs ⟨z1z.ok lp, z0o.ok lp, trivial⟩ trivial) mixed Tryz.func42 (by kernel_rfl) (c := codeOf Tryz.f42) (by kernel_rfl) (by kernel_rfl) z5z.an (fun x r h => ⟨lp, (z5z.eq lp x).trans h⟩)
def z0l.la4 : LoopAn := { kn := { tms := [0, 1, 5] }, kx := {}, kr := { tms := [4] } }
def z0l.E (lp : Nat) : Env := { tab := tab, fns := [], ann := { own := [], ro := [] } }
def z0l.an : An := { loops := [(4, z0l.la4)] }
def z0l.s4 (x0 : List Edit) (x1 : List Edit) (x5 : Int) : St := ⟨.v (.one (.b (.d (.sl TEdit) x0))) :: .v (.one (.b (.d (.sl TEdit) x1))) :: (sk 3 (.v (.one (.b (.d (.int .i64) x5))) :: (sk 20 ([])))), sko 26 ([])⟩
def z0l.sx4 (y : Unit) : St := ⟨sk 26 ([]), sko 26 ([])⟩
def z0l.sr4 (z : Bool) : St := ⟨sk 4 (.v (.one (.b (.d .bool z))) :: (sk 21 ([]))), sko 26 ([])⟩
def z0l.S (lp : Nat) : Spec := { ats := [.v (.sl TEdit), .v (.sl TEdit)], rts := [.bool], F := fun x => z0l lp x.1 x.2.1 }
theorem z0l.t_b4 (lp : Nat) {R : Type} (N : St → Option R) (X : Out → St → Option R) (x0 : List Edit) (x1 : List Edit) (x5 : Int) : codeK (z0l.E lp) z0l.an lp (loopAt 4 (codeOf Tryz.f93)) (z0l.s4 x0 x1 x5) (lpK z0l.la4 N X) = z0l.b4 lp (fun x0 x1 x5 => N (z0l.s4 x0 x1 x5)) (fun y => X (.exit 0) (z0l.sx4 y)) (fun z => X .ret (z0l.sr4 z)) x0 x1 x5 := by kernel_rfl
theorem z0l.n_b4 (lp : Nat) {R S : Type} (N : List Edit → List Edit → Int → Option R) (X : Unit → Option R) (Q : Bool → Option R) (x0 : List Edit) (x1 : List Edit) (x5 : Int) (k : R → Option S) : obind (z0l.b4 lp N X Q x0 x1 x5) k = z0l.b4 lp (fun x0 x1 x5 => obind (N x0 x1 x5) k) (fun y => obind (X y) k) (fun z => obind (Q z) k) x0 x1 x5 := by
  unfold z0l.b4; simp only [obind_none, obind_some, obind_cond, obind_oif, obind_oget, obind_obind]
theorem z0l.k4 (lp : Nat) {R : Type} (K : Out → St → Option R) : ∀ (n : Nat) (x0 : List Edit) (x1 : List Edit) (x5 : Int), loopK z0l.la4 (fun σ K => codeK (z0l.E lp) z0l.an lp (loopAt 4 (codeOf Tryz.f93)) σ K) n (z0l.s4 x0 x1 x5) K = obind (z0l.l4 lp n x0 x1 x5) (leK 0 z0l.sr4 z0l.sx4 K) := by
  intro n
  induction n with
  | zero => intros; rfl
  | succ n ih =>
    intro x0 x1 x5
    rw [loopK_succ, z0l.t_b4, z0l.l4, z0l.n_b4]
    simp only [ih, obind_some, leK_ret, leK_brk]
theorem z0l.t_a4 (lp : Nat) (y : Unit) : kont (R := Bool) (z0l.E lp) z0l.an lp (finK (z0l.E lp) Tryz.f93 [.bool]) (stkAt 4 (codeOf Tryz.f93)) (.exit 0) (z0l.sx4 y) = z0l.a4 lp y := by kernel_rfl
theorem z0l.t_q4 (lp : Nat) (z : Bool) : kont (R := Bool) (z0l.E lp) z0l.an lp (finK (z0l.E lp) Tryz.f93 [.bool]) (stkAt 4 (codeOf Tryz.f93)) .ret (z0l.sr4 z) = z0l.q4 lp z := by kernel_rfl
theorem z0l.t_e (lp : Nat) (x0 : List Edit) (x1 : List Edit) : evalF (z0l.E lp) z0l.an lp Tryz.f93 [.v (.sl TEdit), .v (.sl TEdit)] [.bool] (x0, x1, ()) = z0l.e lp (fun x0 x1 x5 => loopK z0l.la4 (fun σ K => codeK (z0l.E lp) z0l.an lp (loopAt 4 (codeOf Tryz.f93)) σ K) lp (z0l.s4 x0 x1 x5) (kont (R := Bool) (z0l.E lp) z0l.an lp (finK (z0l.E lp) Tryz.f93 [.bool]) (stkAt 4 (codeOf Tryz.f93)))) x0 x1 := by kernel_rfl
theorem z0l.eq0 (lp : Nat) (x0 : List Edit) (x1 : List Edit) : evalF (z0l.E lp) z0l.an lp Tryz.f93 [.v (.sl TEdit), .v (.sl TEdit)] [.bool] (x0, x1, ()) = z0l lp x0 x1 := by
  rw [z0l.t_e]; unfold z0l
  simp only [leK_leF _ z0l.sr4 z0l.sx4, z0l.k4, z0l.t_a4, z0l.t_q4]
theorem z0l.eq (lp : Nat) (x : ADens [.v (.sl TEdit), .v (.sl TEdit)]) : evalF (z0l.E lp) z0l.an lp Tryz.f93 [.v (.sl TEdit), .v (.sl TEdit)] [.bool] x = (z0l.S lp).F x := z0l.eq0 lp x.1 x.2.1
theorem z0l.ok (lp : Nat) : Sound Tryz.prog 93 (z0l.S lp) := sound_of (E := z0l.E lp) (env_ok z0s tabEqs trivial trivial) mixed Tryz.func93 (by kernel_rfl) (c := codeOf Tryz.f93) (by kernel_rfl) (by kernel_rfl) z0l.an (fun x r h => ⟨lp, (z0l.eq lp x).trans h⟩)
def z1y.la4 : LoopAn := { kn := { tms := [2, 3, 5] }, kx := {}, kr := { tms := [4] } }
def z1y.E (lp : Nat) : Env := { tab := tab, fns := [(92, z17.S lp), (93, z0l.S lp)], ann := { own := [], ro := [2, 3] } }
def z1y.an : An := { loops := [(4, z1y.la4)] }
def z1y.s4 (x2_0 : List Wish) (x2_1 : Int) (x2_2 : Int) (x2_3 : Int) (x2_4 : Int) (x2_5 : Int) (x2_6 : Int) (x2_7 : Int) (x2_8 : List Entry) (x3_0 : List Wish) (x3_1 : Int) (x3_2 : Int) (x3_3 : Int) (x3_4 : Int) (x3_5 : Int) (x3_6 : Int) (x3_7 : Int) (x3_8 : List Entry) (x5 : Int) : St := ⟨sk 2 (.v (.one (.rdp [.d (.sl TWish) x2_0, .d (.int .i64) x2_1, .d (.int .i64) x2_2, .d (.int .i64) x2_3, .d (.int .i64) x2_4, .d (.int .i64) x2_5, .d (.int .i64) x2_6, .d (.int .i64) x2_7, .d (.sl TEntry) x2_8])) :: .v (.one (.rdp [.d (.sl TWish) x3_0, .d (.int .i64) x3_1, .d (.int .i64) x3_2, .d (.int .i64) x3_3, .d (.int .i64) x3_4, .d (.int .i64) x3_5, .d (.int .i64) x3_6, .d (.int .i64) x3_7, .d (.sl TEntry) x3_8])) :: (sk 1 (.v (.one (.b (.d (.int .i64) x5))) :: (sk 117 ([]))))), sko 123 ([])⟩
def z1y.sx4 (y : Unit) : St := ⟨sk 123 ([]), sko 123 ([])⟩
def z1y.sr4 (z : Bool) : St := ⟨sk 4 (.v (.one (.b (.d .bool z))) :: (sk 118 ([]))), sko 123 ([])⟩
def z1y.S (lp : Nat) : Spec := { ats := [.v TClient, .v TClient], rts := [.bool], F := fun x => z1y lp x.1 x.2.1 }
theorem z1y.t_b4 (lp : Nat) {R : Type} (N : St → Option R) (X : Out → St → Option R) (x2_0 : List Wish) (x2_1 : Int) (x2_2 : Int) (x2_3 : Int) (x2_4 : Int) (x2_5 : Int) (x2_6 : Int) (x2_7 : Int) (x2_8 : List Entry) (x3_0 : List Wish) (x3_1 : Int) (x3_2 : Int) (x3_3 : Int) (x3_4 : Int) (x3_5 : Int) (x3_6 : Int) (x3_7 : Int) (x3_8 : List Entry) (x5 : Int) : codeK (z1y.E lp) z1y.an lp (loopAt 4 (codeOf Tryz.f43)) (z1y.s4 x2_0 x2_1 x2_2 x2_3 x2_4 x2_5 x2_6 x2_7 x2_8 x3_0 x3_1 x3_2 x3_3 x3_4 x3_5 x3_6 x3_7 x3_8 x5) (lpK z1y.la4 N X) = z1y.b4 lp (fun x2_0 x2_1 x2_2 x2_3 x2_4 x2_5 x2_6 x2_7 x2_8 x3_0 x3_1 x3_2 x3_3 x3_4 x3_5 x3_6 x3_7 x3_8 x5 => N (z1y.s4 x2_0 x2_1 x2_2 x2_3 x2_4 x2_5 x2_6 x2_7 x2_8 x3_0 x3_1 x3_2 x3_3 x3_4 x3_5 x3_6 x3_7 x3_8 x5)) (fun y => X (.exit 0) (z1y.sx4 y)) (fun z => X .ret (z1y.sr4 z)) x2_0 x2_1 x2_2 x2_3 x2_4 x2_5 x2_6 x2_7 x2_8 x3_0 x3_1 x3_2 x3_3 x3_4 x3_5 x3_6 x3_7 x3_8 x5 := by kernel_rfl
theorem z1y.n_b4 (lp : Nat) {R S : Type} (N : List Wish → Int → Int → Int → Int → Int → Int → Int → List Entry → List Wish → Int → Int → Int → Int → Int → Int → Int → List Entry → Int → Option R) (X : Unit → Option R) (Q : Bool → Option R) (x2_0 : List Wish) (x2_1 : Int) (x2_2 : Int) (x2_3 : Int) (x2_4 : Int) (x2_5 : Int) (x2_6 : Int) (x2_7 : Int) (x2_8 : List Entry) (x3_0 : List Wish) (x3_1 : Int) (x3_2 : Int) (x3_3 : Int) (x3_4 : Int) (x3_5 : Int) (x3_6 : Int) (x3_7 : Int) (x3_8 : List Entry) (x5 : Int) (k : R → Option S) : obind (z1y.b4 lp N X Q x2_0 x2_1 x2_2 x2_3 x2_4 x2_5 x2_6 x2_7 x2_8 x3_0 x3_1 x3_2 x3_3 x3_4 x3_5 x3_6 x3_7 x3_8 x5) k = z1y.b4 lp (fun x2_0 x2_1 x2_2 x2_3 x2_4 x2_5 x2_6 x2_7 x2_8 x3_0 x3_1 x3_2 x3_3 x3_4 x3_5 x3_6 x3_7 x3_8 x5 => obind (N x2_0 x2_1 x2_2 x2_3 x2_4 x2_5 x2_6 x2_7 x2_8 x3_0 x3_1 x3_2 x3_3 x3_4 x3_5 x3_6 x3_7 x3_8 x5) k) (fun y => obind (X y) k) (fun z => obind (Q z) k) x2_0 x2_1 x2_2 x2_3 x2_4 x2_5 x2_6 x2_7 x2_8 x3_0 x3_1 x3_2 x3_3 x3_4 x3_5 x3_6 x3_7 x3_8 x5 := by
  unfold z1y.b4; simp only [obind_none, obind_some, obind_cond, obind_oif, obind_oget, obind_obind]
theorem z1y.k4 (lp : Nat) {R : Type} (K : Out → St → Option R) : ∀ (n : Nat) (x2_0 : List Wish) (x2_1 : Int) (x2_2 : Int) (x2_3 : Int) (x2_4 : Int) (x2_5 : Int) (x2_6 : Int) (x2_7 : Int) (x2_8 : List Entry) (x3_0 : List Wish) (x3_1 : Int) (x3_2 : Int) (x3_3 : Int) (x3_4 : Int) (x3_5 : Int) (x3_6 : Int) (x3_7 : Int) (x3_8 : List Entry) (x5 : Int), loopK z1y.la4 (fun σ K => codeK (z1y.E lp) z1y.an lp (loopAt 4 (codeOf Tryz.f43)) σ K) n (z1y.s4 x2_0 x2_1 x2_2 x2_3 x2_4 x2_5 x2_6 x2_7 x2_8 x3_0 x3_1 x3_2 x3_3 x3_4 x3_5 x3_6 x3_7 x3_8 x5) K = obind (z1y.l4 lp n x2_0 x2_1 x2_2 x2_3 x2_4 x2_5 x2_6 x2_7 x2_8 x3_0 x3_1 x3_2 x3_3 x3_4 x3_5 x3_6 x3_7 x3_8 x5) (leK 0 z1y.sr4 z1y.sx4 K) := by
  intro n
  induction n with
  | zero => intros; rfl
  | succ n ih =>
    intro x2_0 x2_1 x2_2 x2_3 x2_4 x2_5 x2_6 x2_7 x2_8 x3_0 x3_1 x3_2 x3_3 x3_4 x3_5 x3_6 x3_7 x3_8 x5
    rw [loopK_succ, z1y.t_b4, z1y.l4, z1y.n_b4]
    simp only [ih, obind_some, leK_ret, leK_brk]
theorem z1y.t_a4 (lp : Nat) (y : Unit) : kont (R := Bool) (z1y.E lp) z1y.an lp (finK (z1y.E lp) Tryz.f43 [.bool]) (stkAt 4 (codeOf Tryz.f43)) (.exit 0) (z1y.sx4 y) = z1y.a4 lp y := by kernel_rfl
theorem z1y.t_q4 (lp : Nat) (z : Bool) : kont (R := Bool) (z1y.E lp) z1y.an lp (finK (z1y.E lp) Tryz.f43 [.bool]) (stkAt 4 (codeOf Tryz.f43)) .ret (z1y.sr4 z) = z1y.q4 lp z := by kernel_rfl
theorem z1y.t_e (lp : Nat) (x0 : Client) (x1 : Client) : evalF (z1y.E lp) z1y.an lp Tryz.f43 [.v TClient, .v TClient] [.bool] (x0, x1, ()) = z1y.e lp (fun x2_0 x2_1 x2_2 x2_3 x2_4 x2_5 x2_6 x2_7 x2_8 x3_0 x3_1 x3_2 x3_3 x3_4 x3_5 x3_6 x3_7 x3_8 x5 => loopK z1y.la4 (fun σ K => codeK (z1y.E lp) z1y.an lp (loopAt 4 (codeOf Tryz.f43)) σ K) lp (z1y.s4 x2_0 x2_1 x2_2 x2_3 x2_4 x2_5 x2_6 x2_7 x2_8 x3_0 x3_1 x3_2 x3_3 x3_4 x3_5 x3_6 x3_7 x3_8 x5) (kont (R := Bool) (z1y.E lp) z1y.an lp (finK (z1y.E lp) Tryz.f43 [.bool]) (stkAt 4 (codeOf Tryz.f43)))) x0 x1 := by kernel_rfl
theorem z1y.eq0 (lp : Nat) (x0 : Client) (x1 : Client) : evalF (z1y.E lp) z1y.an lp Tryz.f43 [.v TClient, .v TClient] [.bool] (x0, x1, ()) = z1y lp x0 x1 := by
  rw [z1y.t_e]; unfold z1y
  simp only [leK_leF _ z1y.sr4 z1y.sx4, z1y.k4, z1y.t_a4, z1y.t_q4]
theorem z1y.eq (lp : Nat) (x : ADens [.v TClient, .v TClient]) : evalF (z1y.E lp) z1y.an lp Tryz.f43 [.v TClient, .v TClient] [.bool] x = (z1y.S lp).F x := z1y.eq0 lp x.1 x.2.1
theorem z1y.ok (lp : Nat) : Sound Tryz.prog 43 (z1y.S lp) := sound_of (E := z1y.E lp) (env_ok z0s tabEqs ⟨z17.ok lp, z0l.ok lp, trivial⟩ trivial) mixed Tryz.func43 (by kernel_rfl) (c := codeOf Tryz.f43) (by kernel_rfl) (by kernel_rfl) z1y.an (fun x r h => ⟨lp, (z1y.eq lp x).trans h⟩)
def z1w.la4 : LoopAn := { kn := { tms := [2, 3, 5] }, kx := {}, kr := { tms := [4] } }
def z1w.E (lp : Nat) : Env := { tab := tab, fns := [], ann := { own := [], ro := [2, 3] } }
def z1w.an : An := { loops := [(4, z1w.la4)] }
def z1w.s4 (x2_0 : ByteArray) (x2_1 : Int) (x2_2 : List Event) (x3_0 : ByteArray) (x3_1 : Int) (x3_2 : List Event) (x5 : Int) : St := ⟨sk 2 (.v (.one (.rdp [.d .str x2_0, .d (.int .i64) x2_1, .d (.sl TEvent) x2_2])) :: .v (.one (.rdp [.d .str x3_0, .d (.int .i64) x3_1, .d (.sl TEvent) x3_2])) :: (sk 1 (.v (.one (.b (.d (.int .i64) x5))) :: (sk 39 ([]))))), sko 45 ([])⟩
def z1w.sx4 (y : Unit) : St := ⟨sk 45 ([]), sko 45 ([])⟩
def z1w.sr4 (z : Bool) : St := ⟨sk 4 (.v (.one (.b (.d .bool z))) :: (sk 40 ([]))), sko 45 ([])⟩
def z1w.S (lp : Nat) : Spec := { ats := [.v TWatch, .v TWatch], rts := [.bool], F := fun x => z1w lp x.1 x.2.1 }
theorem z1w.t_b4 (lp : Nat) {R : Type} (N : St → Option R) (X : Out → St → Option R) (x2_0 : ByteArray) (x2_1 : Int) (x2_2 : List Event) (x3_0 : ByteArray) (x3_1 : Int) (x3_2 : List Event) (x5 : Int) : codeK (z1w.E lp) z1w.an lp (loopAt 4 (codeOf Tryz.f44)) (z1w.s4 x2_0 x2_1 x2_2 x3_0 x3_1 x3_2 x5) (lpK z1w.la4 N X) = z1w.b4 lp (fun x2_0 x2_1 x2_2 x3_0 x3_1 x3_2 x5 => N (z1w.s4 x2_0 x2_1 x2_2 x3_0 x3_1 x3_2 x5)) (fun y => X (.exit 0) (z1w.sx4 y)) (fun z => X .ret (z1w.sr4 z)) x2_0 x2_1 x2_2 x3_0 x3_1 x3_2 x5 := by kernel_rfl
theorem z1w.n_b4 (lp : Nat) {R S : Type} (N : ByteArray → Int → List Event → ByteArray → Int → List Event → Int → Option R) (X : Unit → Option R) (Q : Bool → Option R) (x2_0 : ByteArray) (x2_1 : Int) (x2_2 : List Event) (x3_0 : ByteArray) (x3_1 : Int) (x3_2 : List Event) (x5 : Int) (k : R → Option S) : obind (z1w.b4 lp N X Q x2_0 x2_1 x2_2 x3_0 x3_1 x3_2 x5) k = z1w.b4 lp (fun x2_0 x2_1 x2_2 x3_0 x3_1 x3_2 x5 => obind (N x2_0 x2_1 x2_2 x3_0 x3_1 x3_2 x5) k) (fun y => obind (X y) k) (fun z => obind (Q z) k) x2_0 x2_1 x2_2 x3_0 x3_1 x3_2 x5 := by
  unfold z1w.b4; simp only [obind_none, obind_some, obind_cond, obind_oif, obind_oget, obind_obind]
theorem z1w.k4 (lp : Nat) {R : Type} (K : Out → St → Option R) : ∀ (n : Nat) (x2_0 : ByteArray) (x2_1 : Int) (x2_2 : List Event) (x3_0 : ByteArray) (x3_1 : Int) (x3_2 : List Event) (x5 : Int), loopK z1w.la4 (fun σ K => codeK (z1w.E lp) z1w.an lp (loopAt 4 (codeOf Tryz.f44)) σ K) n (z1w.s4 x2_0 x2_1 x2_2 x3_0 x3_1 x3_2 x5) K = obind (z1w.l4 lp n x2_0 x2_1 x2_2 x3_0 x3_1 x3_2 x5) (leK 0 z1w.sr4 z1w.sx4 K) := by
  intro n
  induction n with
  | zero => intros; rfl
  | succ n ih =>
    intro x2_0 x2_1 x2_2 x3_0 x3_1 x3_2 x5
    rw [loopK_succ, z1w.t_b4, z1w.l4, z1w.n_b4]
    simp only [ih, obind_some, leK_ret, leK_brk]
theorem z1w.t_a4 (lp : Nat) (y : Unit) : kont (R := Bool) (z1w.E lp) z1w.an lp (finK (z1w.E lp) Tryz.f44 [.bool]) (stkAt 4 (codeOf Tryz.f44)) (.exit 0) (z1w.sx4 y) = z1w.a4 lp y := by kernel_rfl
theorem z1w.t_q4 (lp : Nat) (z : Bool) : kont (R := Bool) (z1w.E lp) z1w.an lp (finK (z1w.E lp) Tryz.f44 [.bool]) (stkAt 4 (codeOf Tryz.f44)) .ret (z1w.sr4 z) = z1w.q4 lp z := by kernel_rfl
theorem z1w.t_e (lp : Nat) (x0 : Watch) (x1 : Watch) : evalF (z1w.E lp) z1w.an lp Tryz.f44 [.v TWatch, .v TWatch] [.bool] (x0, x1, ()) = z1w.e lp (fun x2_0 x2_1 x2_2 x3_0 x3_1 x3_2 x5 => loopK z1w.la4 (fun σ K => codeK (z1w.E lp) z1w.an lp (loopAt 4 (codeOf Tryz.f44)) σ K) lp (z1w.s4 x2_0 x2_1 x2_2 x3_0 x3_1 x3_2 x5) (kont (R := Bool) (z1w.E lp) z1w.an lp (finK (z1w.E lp) Tryz.f44 [.bool]) (stkAt 4 (codeOf Tryz.f44)))) x0 x1 := by kernel_rfl
theorem z1w.eq0 (lp : Nat) (x0 : Watch) (x1 : Watch) : evalF (z1w.E lp) z1w.an lp Tryz.f44 [.v TWatch, .v TWatch] [.bool] (x0, x1, ()) = z1w lp x0 x1 := by
  rw [z1w.t_e]; unfold z1w
  simp only [leK_leF _ z1w.sr4 z1w.sx4, z1w.k4, z1w.t_a4, z1w.t_q4]
theorem z1w.eq (lp : Nat) (x : ADens [.v TWatch, .v TWatch]) : evalF (z1w.E lp) z1w.an lp Tryz.f44 [.v TWatch, .v TWatch] [.bool] x = (z1w.S lp).F x := z1w.eq0 lp x.1 x.2.1
theorem z1w.ok (lp : Nat) : Sound Tryz.prog 44 (z1w.S lp) := sound_of (E := z1w.E lp) (env_ok z0s tabEqs trivial trivial) mixed Tryz.func44 (by kernel_rfl) (c := codeOf Tryz.f44) (by kernel_rfl) (by kernel_rfl) z1w.an (fun x r h => ⟨lp, (z1w.eq lp x).trans h⟩)
def z0m.la4 : LoopAn := { kn := { tms := [0, 1, 5] }, kx := {}, kr := { tms := [4] } }
def z0m.E (lp : Nat) : Env := { tab := tab, fns := [], ann := { own := [], ro := [] } }
def z0m.an : An := { loops := [(4, z0m.la4)] }
def z0m.s4 (x0 : List ByteArray) (x1 : List ByteArray) (x5 : Int) : St := ⟨.v (.one (.b (.d (.sl .str) x0))) :: .v (.one (.b (.d (.sl .str) x1))) :: (sk 3 (.v (.one (.b (.d (.int .i64) x5))) :: (sk 20 ([])))), sko 26 ([])⟩
def z0m.sx4 (y : Unit) : St := ⟨sk 26 ([]), sko 26 ([])⟩
def z0m.sr4 (z : Bool) : St := ⟨sk 4 (.v (.one (.b (.d .bool z))) :: (sk 21 ([]))), sko 26 ([])⟩
def z0m.S (lp : Nat) : Spec := { ats := [.v (.sl .str), .v (.sl .str)], rts := [.bool], F := fun x => z0m lp x.1 x.2.1 }
theorem z0m.t_b4 (lp : Nat) {R : Type} (N : St → Option R) (X : Out → St → Option R) (x0 : List ByteArray) (x1 : List ByteArray) (x5 : Int) : codeK (z0m.E lp) z0m.an lp (loopAt 4 (codeOf Tryz.f147)) (z0m.s4 x0 x1 x5) (lpK z0m.la4 N X) = z0m.b4 lp (fun x0 x1 x5 => N (z0m.s4 x0 x1 x5)) (fun y => X (.exit 0) (z0m.sx4 y)) (fun z => X .ret (z0m.sr4 z)) x0 x1 x5 := by kernel_rfl
theorem z0m.n_b4 (lp : Nat) {R S : Type} (N : List ByteArray → List ByteArray → Int → Option R) (X : Unit → Option R) (Q : Bool → Option R) (x0 : List ByteArray) (x1 : List ByteArray) (x5 : Int) (k : R → Option S) : obind (z0m.b4 lp N X Q x0 x1 x5) k = z0m.b4 lp (fun x0 x1 x5 => obind (N x0 x1 x5) k) (fun y => obind (X y) k) (fun z => obind (Q z) k) x0 x1 x5 := by
  unfold z0m.b4; simp only [obind_none, obind_some, obind_cond, obind_oif, obind_oget, obind_obind]
theorem z0m.k4 (lp : Nat) {R : Type} (K : Out → St → Option R) : ∀ (n : Nat) (x0 : List ByteArray) (x1 : List ByteArray) (x5 : Int), loopK z0m.la4 (fun σ K => codeK (z0m.E lp) z0m.an lp (loopAt 4 (codeOf Tryz.f147)) σ K) n (z0m.s4 x0 x1 x5) K = obind (z0m.l4 lp n x0 x1 x5) (leK 0 z0m.sr4 z0m.sx4 K) := by
  intro n
  induction n with
  | zero => intros; rfl
  | succ n ih =>
    intro x0 x1 x5
    rw [loopK_succ, z0m.t_b4, z0m.l4, z0m.n_b4]
    simp only [ih, obind_some, leK_ret, leK_brk]
theorem z0m.t_a4 (lp : Nat) (y : Unit) : kont (R := Bool) (z0m.E lp) z0m.an lp (finK (z0m.E lp) Tryz.f147 [.bool]) (stkAt 4 (codeOf Tryz.f147)) (.exit 0) (z0m.sx4 y) = z0m.a4 lp y := by kernel_rfl
theorem z0m.t_q4 (lp : Nat) (z : Bool) : kont (R := Bool) (z0m.E lp) z0m.an lp (finK (z0m.E lp) Tryz.f147 [.bool]) (stkAt 4 (codeOf Tryz.f147)) .ret (z0m.sr4 z) = z0m.q4 lp z := by kernel_rfl
theorem z0m.t_e (lp : Nat) (x0 : List ByteArray) (x1 : List ByteArray) : evalF (z0m.E lp) z0m.an lp Tryz.f147 [.v (.sl .str), .v (.sl .str)] [.bool] (x0, x1, ()) = z0m.e lp (fun x0 x1 x5 => loopK z0m.la4 (fun σ K => codeK (z0m.E lp) z0m.an lp (loopAt 4 (codeOf Tryz.f147)) σ K) lp (z0m.s4 x0 x1 x5) (kont (R := Bool) (z0m.E lp) z0m.an lp (finK (z0m.E lp) Tryz.f147 [.bool]) (stkAt 4 (codeOf Tryz.f147)))) x0 x1 := by kernel_rfl
theorem z0m.eq0 (lp : Nat) (x0 : List ByteArray) (x1 : List ByteArray) : evalF (z0m.E lp) z0m.an lp Tryz.f147 [.v (.sl .str), .v (.sl .str)] [.bool] (x0, x1, ()) = z0m lp x0 x1 := by
  rw [z0m.t_e]; unfold z0m
  simp only [leK_leF _ z0m.sr4 z0m.sx4, z0m.k4, z0m.t_a4, z0m.t_q4]
theorem z0m.eq (lp : Nat) (x : ADens [.v (.sl .str), .v (.sl .str)]) : evalF (z0m.E lp) z0m.an lp Tryz.f147 [.v (.sl .str), .v (.sl .str)] [.bool] x = (z0m.S lp).F x := z0m.eq0 lp x.1 x.2.1
theorem z0m.ok (lp : Nat) : Sound Tryz.prog 147 (z0m.S lp) := sound_of (E := z0m.E lp) (env_ok z0s tabEqs trivial trivial) mixed Tryz.func147 (by kernel_rfl) (c := codeOf Tryz.f147) (by kernel_rfl) (by kernel_rfl) z0m.an (fun x r h => ⟨lp, (z0m.eq lp x).trans h⟩)
def z4b.E (lp : Nat) : Env := { tab := tab, fns := [(89, z24.S lp), (147, z0m.S lp), (92, z17.S lp)], ann := { own := [], ro := [2, 3] } }
def z4b.an : An := { pre := [] }
def z4b.S (lp : Nat) : Spec := { ats := [.v TResult, .v TResult], rts := [.bool], F := fun x => z4b lp x.1 x.2.1 }
theorem z4b.eq (lp : Nat) (x : ADens [.v TResult, .v TResult]) : evalF (z4b.E lp) z4b.an lp Tryz.f94 [.v TResult, .v TResult] [.bool] x = (z4b.S lp).F x := by kernel_rfl
theorem z4b.ok (lp : Nat) : Sound Tryz.prog 94 (z4b.S lp) := sound_of (E := z4b.E lp) (env_ok z0s tabEqs ⟨z24.ok lp, z0m.ok lp, z17.ok lp, trivial⟩ trivial) mixed Tryz.func94 (by kernel_rfl) (c := codeOf Tryz.f94) (by kernel_rfl) (by kernel_rfl) z4b.an (fun x r h => ⟨lp, (z4b.eq lp x).trans h⟩)
def z3i.E (lp : Nat) : Env := { tab := tab, fns := [(93, z0l.S lp), (94, z4b.S lp)], ann := { own := [], ro := [2, 3] } }
def z3i.an : An := { pre := [] }
def z3i.S (lp : Nat) : Spec := { ats := [.v TMoment, .v TMoment], rts := [.bool], F := fun x => z3i lp x.1 x.2.1 }
theorem z3i.eq (lp : Nat) (x : ADens [.v TMoment, .v TMoment]) : evalF (z3i.E lp) z3i.an lp Tryz.f45 [.v TMoment, .v TMoment] [.bool] x = (z3i.S lp).F x := by kernel_rfl
theorem z3i.ok (lp : Nat) : Sound Tryz.prog 45 (z3i.S lp) := sound_of (E := z3i.E lp) (env_ok z0s tabEqs ⟨z0l.ok lp, z4b.ok lp, trivial⟩ trivial) mixed Tryz.func45 (by kernel_rfl) (c := codeOf Tryz.f45) (by kernel_rfl) (by kernel_rfl) z3i.an (fun x r h => ⟨lp, (z3i.eq lp x).trans h⟩)
def z00.la4 : LoopAn := { kn := { tms := [2, 3, 5] }, kx := { tms := [2, 3] }, kr := { tms := [4] } }
def z00.la9 : LoopAn := { kn := { tms := [2, 3, 6] }, kx := { tms := [2, 3] }, kr := { tms := [4] } }
def z00.la14 : LoopAn := { kn := { tms := [2, 3, 7] }, kx := {}, kr := { tms := [4] } }
def z00.E (lp : Nat) : Env := { tab := tab, fns := [(42, z5z.S lp), (43, z1y.S lp), (44, z1w.S lp), (45, z3i.S lp)], ann := { own := [], ro := [2, 3] } }
def z00.an : An := { loops := [(4, z00.la4), (9, z00.la9), (14, z00.la14)] }
def z00.s4 (x2_0 : List Commit) (x2_1 : List Ref) (x2_2 : List Client) (x2_3 : List Watch) (x2_4 : List Moment) (x2_5 : Int) (x3_0 : List Commit) (x3_1 : List Ref) (x3_2 : List Client) (x3_3 : List Watch) (x3_4 : List Moment) (x3_5 : Int) (x5 : Int) : St := ⟨sk 2 (.v (.one (.rdp [.d (.sl TCommit) x2_0, .d (.sl TRef) x2_1, .d (.sl TClient) x2_2, .d (.sl TWatch) x2_3, .d (.sl TMoment) x2_4, .d (.int .i64) x2_5])) :: .v (.one (.rdp [.d (.sl TCommit) x3_0, .d (.sl TRef) x3_1, .d (.sl TClient) x3_2, .d (.sl TWatch) x3_3, .d (.sl TMoment) x3_4, .d (.int .i64) x3_5])) :: (sk 1 (.v (.one (.b (.d (.int .i64) x5))) :: (sk 99 ([]))))), sko 105 ([])⟩
def z00.sx4 (y : (List Commit) × (List Ref) × (List Client) × (List Watch) × (List Moment) × Int × (List Commit) × (List Ref) × (List Client) × (List Watch) × (List Moment) × Int) : St := ⟨sk 2 (.v (.one (.rdp [.d (.sl TCommit) y.1, .d (.sl TRef) y.2.1, .d (.sl TClient) y.2.2.1, .d (.sl TWatch) y.2.2.2.1, .d (.sl TMoment) y.2.2.2.2.1, .d (.int .i64) y.2.2.2.2.2.1])) :: .v (.one (.rdp [.d (.sl TCommit) y.2.2.2.2.2.2.1, .d (.sl TRef) y.2.2.2.2.2.2.2.1, .d (.sl TClient) y.2.2.2.2.2.2.2.2.1, .d (.sl TWatch) y.2.2.2.2.2.2.2.2.2.1, .d (.sl TMoment) y.2.2.2.2.2.2.2.2.2.2.1, .d (.int .i64) y.2.2.2.2.2.2.2.2.2.2.2])) :: (sk 101 ([]))), sko 105 ([])⟩
def z00.sr4 (z : Bool) : St := ⟨sk 4 (.v (.one (.b (.d .bool z))) :: (sk 100 ([]))), sko 105 ([])⟩
def z00.s9 (x2_0 : List Commit) (x2_1 : List Ref) (x2_2 : List Client) (x2_3 : List Watch) (x2_4 : List Moment) (x2_5 : Int) (x3_0 : List Commit) (x3_1 : List Ref) (x3_2 : List Client) (x3_3 : List Watch) (x3_4 : List Moment) (x3_5 : Int) (x6 : Int) : St := ⟨sk 2 (.v (.one (.rdp [.d (.sl TCommit) x2_0, .d (.sl TRef) x2_1, .d (.sl TClient) x2_2, .d (.sl TWatch) x2_3, .d (.sl TMoment) x2_4, .d (.int .i64) x2_5])) :: .v (.one (.rdp [.d (.sl TCommit) x3_0, .d (.sl TRef) x3_1, .d (.sl TClient) x3_2, .d (.sl TWatch) x3_3, .d (.sl TMoment) x3_4, .d (.int .i64) x3_5])) :: (sk 2 (.v (.one (.b (.d (.int .i64) x6))) :: (sk 98 ([]))))), sko 105 ([])⟩
def z00.sx9 (y : (List Commit) × (List Ref) × (List Client) × (List Watch) × (List Moment) × Int × (List Commit) × (List Ref) × (List Client) × (List Watch) × (List Moment) × Int) : St := ⟨sk 2 (.v (.one (.rdp [.d (.sl TCommit) y.1, .d (.sl TRef) y.2.1, .d (.sl TClient) y.2.2.1, .d (.sl TWatch) y.2.2.2.1, .d (.sl TMoment) y.2.2.2.2.1, .d (.int .i64) y.2.2.2.2.2.1])) :: .v (.one (.rdp [.d (.sl TCommit) y.2.2.2.2.2.2.1, .d (.sl TRef) y.2.2.2.2.2.2.2.1, .d (.sl TClient) y.2.2.2.2.2.2.2.2.1, .d (.sl TWatch) y.2.2.2.2.2.2.2.2.2.1, .d (.sl TMoment) y.2.2.2.2.2.2.2.2.2.2.1, .d (.int .i64) y.2.2.2.2.2.2.2.2.2.2.2])) :: (sk 101 ([]))), sko 105 ([])⟩
def z00.sr9 (z : Bool) : St := ⟨sk 4 (.v (.one (.b (.d .bool z))) :: (sk 100 ([]))), sko 105 ([])⟩
def z00.s14 (x2_0 : List Commit) (x2_1 : List Ref) (x2_2 : List Client) (x2_3 : List Watch) (x2_4 : List Moment) (x2_5 : Int) (x3_0 : List Commit) (x3_1 : List Ref) (x3_2 : List Client) (x3_3 : List Watch) (x3_4 : List Moment) (x3_5 : Int) (x7 : Int) : St := ⟨sk 2 (.v (.one (.rdp [.d (.sl TCommit) x2_0, .d (.sl TRef) x2_1, .d (.sl TClient) x2_2, .d (.sl TWatch) x2_3, .d (.sl TMoment) x2_4, .d (.int .i64) x2_5])) :: .v (.one (.rdp [.d (.sl TCommit) x3_0, .d (.sl TRef) x3_1, .d (.sl TClient) x3_2, .d (.sl TWatch) x3_3, .d (.sl TMoment) x3_4, .d (.int .i64) x3_5])) :: (sk 3 (.v (.one (.b (.d (.int .i64) x7))) :: (sk 97 ([]))))), sko 105 ([])⟩
def z00.sx14 (y : Unit) : St := ⟨sk 105 ([]), sko 105 ([])⟩
def z00.sr14 (z : Bool) : St := ⟨sk 4 (.v (.one (.b (.d .bool z))) :: (sk 100 ([]))), sko 105 ([])⟩
def z00.S (lp : Nat) : Spec := { ats := [.v TWorld, .v TWorld], rts := [.bool], F := fun x => z00 lp x.1 x.2.1 }
theorem z00.t_b14 (lp : Nat) {R : Type} (N : St → Option R) (X : Out → St → Option R) (x2_0 : List Commit) (x2_1 : List Ref) (x2_2 : List Client) (x2_3 : List Watch) (x2_4 : List Moment) (x2_5 : Int) (x3_0 : List Commit) (x3_1 : List Ref) (x3_2 : List Client) (x3_3 : List Watch) (x3_4 : List Moment) (x3_5 : Int) (x7 : Int) : codeK (z00.E lp) z00.an lp (loopAt 14 (codeOf Tryz.f14)) (z00.s14 x2_0 x2_1 x2_2 x2_3 x2_4 x2_5 x3_0 x3_1 x3_2 x3_3 x3_4 x3_5 x7) (lpK z00.la14 N X) = z00.b14 lp (fun x2_0 x2_1 x2_2 x2_3 x2_4 x2_5 x3_0 x3_1 x3_2 x3_3 x3_4 x3_5 x7 => N (z00.s14 x2_0 x2_1 x2_2 x2_3 x2_4 x2_5 x3_0 x3_1 x3_2 x3_3 x3_4 x3_5 x7)) (fun y => X (.exit 4) (z00.sx14 y)) (fun z => X .ret (z00.sr14 z)) x2_0 x2_1 x2_2 x2_3 x2_4 x2_5 x3_0 x3_1 x3_2 x3_3 x3_4 x3_5 x7 := by kernel_rfl
theorem z00.n_b14 (lp : Nat) {R S : Type} (N : List Commit → List Ref → List Client → List Watch → List Moment → Int → List Commit → List Ref → List Client → List Watch → List Moment → Int → Int → Option R) (X : Unit → Option R) (Q : Bool → Option R) (x2_0 : List Commit) (x2_1 : List Ref) (x2_2 : List Client) (x2_3 : List Watch) (x2_4 : List Moment) (x2_5 : Int) (x3_0 : List Commit) (x3_1 : List Ref) (x3_2 : List Client) (x3_3 : List Watch) (x3_4 : List Moment) (x3_5 : Int) (x7 : Int) (k : R → Option S) : obind (z00.b14 lp N X Q x2_0 x2_1 x2_2 x2_3 x2_4 x2_5 x3_0 x3_1 x3_2 x3_3 x3_4 x3_5 x7) k = z00.b14 lp (fun x2_0 x2_1 x2_2 x2_3 x2_4 x2_5 x3_0 x3_1 x3_2 x3_3 x3_4 x3_5 x7 => obind (N x2_0 x2_1 x2_2 x2_3 x2_4 x2_5 x3_0 x3_1 x3_2 x3_3 x3_4 x3_5 x7) k) (fun y => obind (X y) k) (fun z => obind (Q z) k) x2_0 x2_1 x2_2 x2_3 x2_4 x2_5 x3_0 x3_1 x3_2 x3_3 x3_4 x3_5 x7 := by
  unfold z00.b14; simp only [obind_none, obind_some, obind_cond, obind_oif, obind_oget, obind_obind]
theorem z00.k14 (lp : Nat) {R : Type} (K : Out → St → Option R) : ∀ (n : Nat) (x2_0 : List Commit) (x2_1 : List Ref) (x2_2 : List Client) (x2_3 : List Watch) (x2_4 : List Moment) (x2_5 : Int) (x3_0 : List Commit) (x3_1 : List Ref) (x3_2 : List Client) (x3_3 : List Watch) (x3_4 : List Moment) (x3_5 : Int) (x7 : Int), loopK z00.la14 (fun σ K => codeK (z00.E lp) z00.an lp (loopAt 14 (codeOf Tryz.f14)) σ K) n (z00.s14 x2_0 x2_1 x2_2 x2_3 x2_4 x2_5 x3_0 x3_1 x3_2 x3_3 x3_4 x3_5 x7) K = obind (z00.l14 lp n x2_0 x2_1 x2_2 x2_3 x2_4 x2_5 x3_0 x3_1 x3_2 x3_3 x3_4 x3_5 x7) (leK 4 z00.sr14 z00.sx14 K) := by
  intro n
  induction n with
  | zero => intros; rfl
  | succ n ih =>
    intro x2_0 x2_1 x2_2 x2_3 x2_4 x2_5 x3_0 x3_1 x3_2 x3_3 x3_4 x3_5 x7
    rw [loopK_succ, z00.t_b14, z00.l14, z00.n_b14]
    simp only [ih, obind_some, leK_ret, leK_brk]
theorem z00.t_b9 (lp : Nat) {R : Type} (N : St → Option R) (X : Out → St → Option R) (x2_0 : List Commit) (x2_1 : List Ref) (x2_2 : List Client) (x2_3 : List Watch) (x2_4 : List Moment) (x2_5 : Int) (x3_0 : List Commit) (x3_1 : List Ref) (x3_2 : List Client) (x3_3 : List Watch) (x3_4 : List Moment) (x3_5 : Int) (x6 : Int) : codeK (z00.E lp) z00.an lp (loopAt 9 (codeOf Tryz.f14)) (z00.s9 x2_0 x2_1 x2_2 x2_3 x2_4 x2_5 x3_0 x3_1 x3_2 x3_3 x3_4 x3_5 x6) (lpK z00.la9 N X) = z00.b9 lp (fun x2_0 x2_1 x2_2 x2_3 x2_4 x2_5 x3_0 x3_1 x3_2 x3_3 x3_4 x3_5 x6 => N (z00.s9 x2_0 x2_1 x2_2 x2_3 x2_4 x2_5 x3_0 x3_1 x3_2 x3_3 x3_4 x3_5 x6)) (fun y => X (.exit 2) (z00.sx9 y)) (fun z => X .ret (z00.sr9 z)) x2_0 x2_1 x2_2 x2_3 x2_4 x2_5 x3_0 x3_1 x3_2 x3_3 x3_4 x3_5 x6 := by kernel_rfl
theorem z00.n_b9 (lp : Nat) {R S : Type} (N : List Commit → List Ref → List Client → List Watch → List Moment → Int → List Commit → List Ref → List Client → List Watch → List Moment → Int → Int → Option R) (X : ((List Commit) × (List Ref) × (List Client) × (List Watch) × (List Moment) × Int × (List Commit) × (List Ref) × (List Client) × (List Watch) × (List Moment) × Int) → Option R) (Q : Bool → Option R) (x2_0 : List Commit) (x2_1 : List Ref) (x2_2 : List Client) (x2_3 : List Watch) (x2_4 : List Moment) (x2_5 : Int) (x3_0 : List Commit) (x3_1 : List Ref) (x3_2 : List Client) (x3_3 : List Watch) (x3_4 : List Moment) (x3_5 : Int) (x6 : Int) (k : R → Option S) : obind (z00.b9 lp N X Q x2_0 x2_1 x2_2 x2_3 x2_4 x2_5 x3_0 x3_1 x3_2 x3_3 x3_4 x3_5 x6) k = z00.b9 lp (fun x2_0 x2_1 x2_2 x2_3 x2_4 x2_5 x3_0 x3_1 x3_2 x3_3 x3_4 x3_5 x6 => obind (N x2_0 x2_1 x2_2 x2_3 x2_4 x2_5 x3_0 x3_1 x3_2 x3_3 x3_4 x3_5 x6) k) (fun y => obind (X y) k) (fun z => obind (Q z) k) x2_0 x2_1 x2_2 x2_3 x2_4 x2_5 x3_0 x3_1 x3_2 x3_3 x3_4 x3_5 x6 := by
  unfold z00.b9; simp only [obind_none, obind_some, obind_cond, obind_oif, obind_oget, obind_obind]
theorem z00.k9 (lp : Nat) {R : Type} (K : Out → St → Option R) : ∀ (n : Nat) (x2_0 : List Commit) (x2_1 : List Ref) (x2_2 : List Client) (x2_3 : List Watch) (x2_4 : List Moment) (x2_5 : Int) (x3_0 : List Commit) (x3_1 : List Ref) (x3_2 : List Client) (x3_3 : List Watch) (x3_4 : List Moment) (x3_5 : Int) (x6 : Int), loopK z00.la9 (fun σ K => codeK (z00.E lp) z00.an lp (loopAt 9 (codeOf Tryz.f14)) σ K) n (z00.s9 x2_0 x2_1 x2_2 x2_3 x2_4 x2_5 x3_0 x3_1 x3_2 x3_3 x3_4 x3_5 x6) K = obind (z00.l9 lp n x2_0 x2_1 x2_2 x2_3 x2_4 x2_5 x3_0 x3_1 x3_2 x3_3 x3_4 x3_5 x6) (leK 2 z00.sr9 z00.sx9 K) := by
  intro n
  induction n with
  | zero => intros; rfl
  | succ n ih =>
    intro x2_0 x2_1 x2_2 x2_3 x2_4 x2_5 x3_0 x3_1 x3_2 x3_3 x3_4 x3_5 x6
    rw [loopK_succ, z00.t_b9, z00.l9, z00.n_b9]
    simp only [ih, obind_some, leK_ret, leK_brk]
theorem z00.t_b4 (lp : Nat) {R : Type} (N : St → Option R) (X : Out → St → Option R) (x2_0 : List Commit) (x2_1 : List Ref) (x2_2 : List Client) (x2_3 : List Watch) (x2_4 : List Moment) (x2_5 : Int) (x3_0 : List Commit) (x3_1 : List Ref) (x3_2 : List Client) (x3_3 : List Watch) (x3_4 : List Moment) (x3_5 : Int) (x5 : Int) : codeK (z00.E lp) z00.an lp (loopAt 4 (codeOf Tryz.f14)) (z00.s4 x2_0 x2_1 x2_2 x2_3 x2_4 x2_5 x3_0 x3_1 x3_2 x3_3 x3_4 x3_5 x5) (lpK z00.la4 N X) = z00.b4 lp (fun x2_0 x2_1 x2_2 x2_3 x2_4 x2_5 x3_0 x3_1 x3_2 x3_3 x3_4 x3_5 x5 => N (z00.s4 x2_0 x2_1 x2_2 x2_3 x2_4 x2_5 x3_0 x3_1 x3_2 x3_3 x3_4 x3_5 x5)) (fun y => X (.exit 0) (z00.sx4 y)) (fun z => X .ret (z00.sr4 z)) x2_0 x2_1 x2_2 x2_3 x2_4 x2_5 x3_0 x3_1 x3_2 x3_3 x3_4 x3_5 x5 := by kernel_rfl
theorem z00.n_b4 (lp : Nat) {R S : Type} (N : List Commit → List Ref → List Client → List Watch → List Moment → Int → List Commit → List Ref → List Client → List Watch → List Moment → Int → Int → Option R) (X : ((List Commit) × (List Ref) × (List Client) × (List Watch) × (List Moment) × Int × (List Commit) × (List Ref) × (List Client) × (List Watch) × (List Moment) × Int) → Option R) (Q : Bool → Option R) (x2_0 : List Commit) (x2_1 : List Ref) (x2_2 : List Client) (x2_3 : List Watch) (x2_4 : List Moment) (x2_5 : Int) (x3_0 : List Commit) (x3_1 : List Ref) (x3_2 : List Client) (x3_3 : List Watch) (x3_4 : List Moment) (x3_5 : Int) (x5 : Int) (k : R → Option S) : obind (z00.b4 lp N X Q x2_0 x2_1 x2_2 x2_3 x2_4 x2_5 x3_0 x3_1 x3_2 x3_3 x3_4 x3_5 x5) k = z00.b4 lp (fun x2_0 x2_1 x2_2 x2_3 x2_4 x2_5 x3_0 x3_1 x3_2 x3_3 x3_4 x3_5 x5 => obind (N x2_0 x2_1 x2_2 x2_3 x2_4 x2_5 x3_0 x3_1 x3_2 x3_3 x3_4 x3_5 x5) k) (fun y => obind (X y) k) (fun z => obind (Q z) k) x2_0 x2_1 x2_2 x2_3 x2_4 x2_5 x3_0 x3_1 x3_2 x3_3 x3_4 x3_5 x5 := by
  unfold z00.b4; simp only [obind_none, obind_some, obind_cond, obind_oif, obind_oget, obind_obind]
theorem z00.k4 (lp : Nat) {R : Type} (K : Out → St → Option R) : ∀ (n : Nat) (x2_0 : List Commit) (x2_1 : List Ref) (x2_2 : List Client) (x2_3 : List Watch) (x2_4 : List Moment) (x2_5 : Int) (x3_0 : List Commit) (x3_1 : List Ref) (x3_2 : List Client) (x3_3 : List Watch) (x3_4 : List Moment) (x3_5 : Int) (x5 : Int), loopK z00.la4 (fun σ K => codeK (z00.E lp) z00.an lp (loopAt 4 (codeOf Tryz.f14)) σ K) n (z00.s4 x2_0 x2_1 x2_2 x2_3 x2_4 x2_5 x3_0 x3_1 x3_2 x3_3 x3_4 x3_5 x5) K = obind (z00.l4 lp n x2_0 x2_1 x2_2 x2_3 x2_4 x2_5 x3_0 x3_1 x3_2 x3_3 x3_4 x3_5 x5) (leK 0 z00.sr4 z00.sx4 K) := by
  intro n
  induction n with
  | zero => intros; rfl
  | succ n ih =>
    intro x2_0 x2_1 x2_2 x2_3 x2_4 x2_5 x3_0 x3_1 x3_2 x3_3 x3_4 x3_5 x5
    rw [loopK_succ, z00.t_b4, z00.l4, z00.n_b4]
    simp only [ih, obind_some, leK_ret, leK_brk]
theorem z00.t_a14 (lp : Nat) (y : Unit) : kont (R := Bool) (z00.E lp) z00.an lp (finK (z00.E lp) Tryz.f14 [.bool]) (stkAt 14 (codeOf Tryz.f14)) (.exit 4) (z00.sx14 y) = z00.a14 lp y := by kernel_rfl
theorem z00.t_q14 (lp : Nat) (z : Bool) : kont (R := Bool) (z00.E lp) z00.an lp (finK (z00.E lp) Tryz.f14 [.bool]) (stkAt 14 (codeOf Tryz.f14)) .ret (z00.sr14 z) = z00.q14 lp z := by kernel_rfl
theorem z00.t_a9 (lp : Nat) (y : (List Commit) × (List Ref) × (List Client) × (List Watch) × (List Moment) × Int × (List Commit) × (List Ref) × (List Client) × (List Watch) × (List Moment) × Int) : kont (R := Bool) (z00.E lp) z00.an lp (finK (z00.E lp) Tryz.f14 [.bool]) (stkAt 9 (codeOf Tryz.f14)) (.exit 2) (z00.sx9 y) = z00.a9 lp (fun x2_0 x2_1 x2_2 x2_3 x2_4 x2_5 x3_0 x3_1 x3_2 x3_3 x3_4 x3_5 x7 => loopK z00.la14 (fun σ K => codeK (z00.E lp) z00.an lp (loopAt 14 (codeOf Tryz.f14)) σ K) lp (z00.s14 x2_0 x2_1 x2_2 x2_3 x2_4 x2_5 x3_0 x3_1 x3_2 x3_3 x3_4 x3_5 x7) (kont (R := Bool) (z00.E lp) z00.an lp (finK (z00.E lp) Tryz.f14 [.bool]) (stkAt 14 (codeOf Tryz.f14)))) y := by kernel_rfl
theorem z00.t_q9 (lp : Nat) (z : Bool) : kont (R := Bool) (z00.E lp) z00.an lp (finK (z00.E lp) Tryz.f14 [.bool]) (stkAt 9 (codeOf Tryz.f14)) .ret (z00.sr9 z) = z00.q9 lp z := by kernel_rfl
theorem z00.t_a4 (lp : Nat) (y : (List Commit) × (List Ref) × (List Client) × (List Watch) × (List Moment) × Int × (List Commit) × (List Ref) × (List Client) × (List Watch) × (List Moment) × Int) : kont (R := Bool) (z00.E lp) z00.an lp (finK (z00.E lp) Tryz.f14 [.bool]) (stkAt 4 (codeOf Tryz.f14)) (.exit 0) (z00.sx4 y) = z00.a4 lp (fun x2_0 x2_1 x2_2 x2_3 x2_4 x2_5 x3_0 x3_1 x3_2 x3_3 x3_4 x3_5 x6 => loopK z00.la9 (fun σ K => codeK (z00.E lp) z00.an lp (loopAt 9 (codeOf Tryz.f14)) σ K) lp (z00.s9 x2_0 x2_1 x2_2 x2_3 x2_4 x2_5 x3_0 x3_1 x3_2 x3_3 x3_4 x3_5 x6) (kont (R := Bool) (z00.E lp) z00.an lp (finK (z00.E lp) Tryz.f14 [.bool]) (stkAt 9 (codeOf Tryz.f14)))) y := by kernel_rfl
theorem z00.t_q4 (lp : Nat) (z : Bool) : kont (R := Bool) (z00.E lp) z00.an lp (finK (z00.E lp) Tryz.f14 [.bool]) (stkAt 4 (codeOf Tryz.f14)) .ret (z00.sr4 z) = z00.q4 lp z := by kernel_rfl
theorem z00.t_e (lp : Nat) (x0 : World) (x1 : World) : evalF (z00.E lp) z00.an lp Tryz.f14 [.v TWorld, .v TWorld] [.bool] (x0, x1, ()) = z00.e lp (fun x2_0 x2_1 x2_2 x2_3 x2_4 x2_5 x3_0 x3_1 x3_2 x3_3 x3_4 x3_5 x5 => loopK z00.la4 (fun σ K => codeK (z00.E lp) z00.an lp (loopAt 4 (codeOf Tryz.f14)) σ K) lp (z00.s4 x2_0 x2_1 x2_2 x2_3 x2_4 x2_5 x3_0 x3_1 x3_2 x3_3 x3_4 x3_5 x5) (kont (R := Bool) (z00.E lp) z00.an lp (finK (z00.E lp) Tryz.f14 [.bool]) (stkAt 4 (codeOf Tryz.f14)))) x0 x1 := by kernel_rfl
theorem z00.eq0 (lp : Nat) (x0 : World) (x1 : World) : evalF (z00.E lp) z00.an lp Tryz.f14 [.v TWorld, .v TWorld] [.bool] (x0, x1, ()) = z00 lp x0 x1 := by
  rw [z00.t_e]; unfold z00
  simp only [leK_leF _ z00.sr14 z00.sx14, leK_leF _ z00.sr4 z00.sx4, leK_leF _ z00.sr9 z00.sx9, z00.k14, z00.k4, z00.k9, z00.t_a14, z00.t_q14, z00.t_a9, z00.t_q9, z00.t_a4, z00.t_q4]
theorem z00.eq (lp : Nat) (x : ADens [.v TWorld, .v TWorld]) : evalF (z00.E lp) z00.an lp Tryz.f14 [.v TWorld, .v TWorld] [.bool] x = (z00.S lp).F x := z00.eq0 lp x.1 x.2.1
theorem z00.ok (lp : Nat) : Sound Tryz.prog 14 (z00.S lp) := sound_of (E := z00.E lp) (env_ok z0s tabEqs ⟨z5z.ok lp, z1y.ok lp, z1w.ok lp, z3i.ok lp, trivial⟩ trivial) mixed Tryz.func14 (by kernel_rfl) (c := codeOf Tryz.f14) (by kernel_rfl) (by kernel_rfl) z00.an (fun x r h => ⟨lp, (z00.eq lp x).trans h⟩)
def z4p.E (lp : Nat) : Env := { tab := tab, fns := [(13, z02.S lp), (14, z00.S lp)], ann := { own := [], ro := [2, 3] } }
def z4p.an : An := { pre := [] }
def z4p.S (lp : Nat) : Spec := { ats := [.v TWorld, .v TWorld], rts := [.bool], F := fun x => z4p lp x.1 x.2.1 }
theorem z4p.eq (lp : Nat) (x : ADens [.v TWorld, .v TWorld]) : evalF (z4p.E lp) z4p.an lp Tryz.f5 [.v TWorld, .v TWorld] [.bool] x = (z4p.S lp).F x := by kernel_rfl
theorem z4p.ok (lp : Nat) : Sound Tryz.prog 5 (z4p.S lp) := sound_of (E := z4p.E lp) (env_ok z0s tabEqs ⟨z02.ok lp, z00.ok lp, trivial⟩ trivial) mixed Tryz.func5 (by kernel_rfl) (c := codeOf Tryz.f5) (by kernel_rfl) (by kernel_rfl) z4p.an (fun x r h => ⟨lp, (z4p.eq lp x).trans h⟩)
def z5w.E : Env := { tab := tab, fns := [], ann := { own := [], ro := [1] } }
def z5w.an : An := { pre := [] }
def z5w.S : Spec := { ats := [.v TEntry], rts := [TEntry], F := fun x => z5w x.1 }
theorem z5w.eq (lp : Nat) (x : ADens [.v TEntry]) : evalF (z5w.E) z5w.an lp Tryz.f150 [.v TEntry] [TEntry] x = (z5w.S).F x := by kernel_rfl
theorem z5w.ok : Sound Tryz.prog 150 (z5w.S) := sound_of (E := z5w.E) (env_ok z0s tabEqs trivial trivial) mixed Tryz.func150 (by kernel_rfl) (c := codeOf Tryz.f150) (by kernel_rfl) (by kernel_rfl) z5w.an (fun x r h => ⟨0, (z5w.eq 0 x).trans h⟩)
def z1l.la3 : LoopAn := { kn := { tms := [0, 3, 4], obs := [7] }, kx := { tms := [3], obs := [7] }, kr := {} }
def z1l.E (lp : Nat) : Env := { tab := tab, fns := [(150, z5w.S)], ann := { own := [], ro := [] } }
def z1l.an : An := { loops := [(3, z1l.la3)] }
def z1l.s3 (x0 : List Entry) (x4 : Int) (xo7 : List Entry) : St := ⟨.v (.one (.b (.d (.sl TEntry) x0))) :: (sk 2 (.v (.one (.row 7 0)) :: .v (.one (.b (.d (.int .i64) x4))) :: (sk 18 ([])))), sko 7 (some (.row 122 TEntry xo7 0) :: (sko 15 ([])))⟩
def z1l.sx3 (y : (List Entry)) : St := ⟨sk 3 (.v (.one (.row 7 0)) :: (sk 19 ([]))), sko 7 (some (.row 122 TEntry y 0) :: (sko 15 ([])))⟩
def z1l.sr3 (z : Empty) : St := z.elim
def z1l.S (lp : Nat) : Spec := { ats := [.v (.sl TEntry)], rts := [(.sl TEntry)], F := fun x => z1l lp x.1 }
theorem z1l.t_b3 (lp : Nat) {R : Type} (N : St → Option R) (X : Out → St → Option R) (x0 : List Entry) (x4 : Int) (xo7 : List Entry) : codeK (z1l.E lp) z1l.an lp (loopAt 3 (codeOf Tryz.f98)) (z1l.s3 x0 x4 xo7) (lpK z1l.la3 N X) = z1l.b3 lp (fun x0 x4 xo7 => N (z1l.s3 x0 x4 xo7)) (fun y => X (.exit 0) (z1l.sx3 y)) (fun z => X .ret (z1l.sr3 z)) x0 x4 xo7 := by kernel_rfl
theorem z1l.n_b3 (lp : Nat) {R S : Type} (N : List Entry → Int → List Entry → Option R) (X : ((List Entry)) → Option R) (Q : Empty → Option R) (x0 : List Entry) (x4 : Int) (xo7 : List Entry) (k : R → Option S) : obind (z1l.b3 lp N X Q x0 x4 xo7) k = z1l.b3 lp (fun x0 x4 xo7 => obind (N x0 x4 xo7) k) (fun y => obind (X y) k) (fun z => obind (Q z) k) x0 x4 xo7 := by
  unfold z1l.b3; simp only [obind_none, obind_some, obind_cond, obind_oif, obind_oget, obind_obind]
theorem z1l.k3 (lp : Nat) {R : Type} (K : Out → St → Option R) : ∀ (n : Nat) (x0 : List Entry) (x4 : Int) (xo7 : List Entry), loopK z1l.la3 (fun σ K => codeK (z1l.E lp) z1l.an lp (loopAt 3 (codeOf Tryz.f98)) σ K) n (z1l.s3 x0 x4 xo7) K = obind (z1l.l3 lp n x0 x4 xo7) (leK 0 z1l.sr3 z1l.sx3 K) := by
  intro n
  induction n with
  | zero => intros; rfl
  | succ n ih =>
    intro x0 x4 xo7
    rw [loopK_succ, z1l.t_b3, z1l.l3, z1l.n_b3]
    simp only [ih, obind_some, leK_ret, leK_brk]
theorem z1l.t_a3 (lp : Nat) (y : (List Entry)) : kont (R := (List Entry)) (z1l.E lp) z1l.an lp (finK (z1l.E lp) Tryz.f98 [(.sl TEntry)]) (stkAt 3 (codeOf Tryz.f98)) (.exit 0) (z1l.sx3 y) = z1l.a3 lp y := by kernel_rfl
theorem z1l.t_e (lp : Nat) (x0 : List Entry) : evalF (z1l.E lp) z1l.an lp Tryz.f98 [.v (.sl TEntry)] [(.sl TEntry)] (x0, ()) = z1l.e lp (fun x0 x4 xo7 => loopK z1l.la3 (fun σ K => codeK (z1l.E lp) z1l.an lp (loopAt 3 (codeOf Tryz.f98)) σ K) lp (z1l.s3 x0 x4 xo7) (kont (R := (List Entry)) (z1l.E lp) z1l.an lp (finK (z1l.E lp) Tryz.f98 [(.sl TEntry)]) (stkAt 3 (codeOf Tryz.f98)))) x0 := by kernel_rfl
theorem z1l.eq0 (lp : Nat) (x0 : List Entry) : evalF (z1l.E lp) z1l.an lp Tryz.f98 [.v (.sl TEntry)] [(.sl TEntry)] (x0, ()) = z1l lp x0 := by
  rw [z1l.t_e]; unfold z1l
  simp only [leK_ret0 _ z1l.sr3 z1l.sx3, z1l.k3, z1l.t_a3]
theorem z1l.eq (lp : Nat) (x : ADens [.v (.sl TEntry)]) : evalF (z1l.E lp) z1l.an lp Tryz.f98 [.v (.sl TEntry)] [(.sl TEntry)] x = (z1l.S lp).F x := z1l.eq0 lp x.1
theorem z1l.ok (lp : Nat) : Sound Tryz.prog 98 (z1l.S lp) := sound_of (E := z1l.E lp) (env_ok z0s tabEqs ⟨z5w.ok, trivial⟩ trivial) mixed Tryz.func98 (by kernel_rfl) (c := codeOf Tryz.f98) (by kernel_rfl) (by kernel_rfl) z1l.an (fun x r h => ⟨lp, (z1l.eq lp x).trans h⟩)
def z2l.la3 : LoopAn := { kn := { tms := [0, 3, 4], obs := [7] }, kx := { tms := [3], obs := [7] }, kr := {} }
def z2l.E (lp : Nat) : Env := { tab := tab, fns := [], ann := { own := [], ro := [] } }
def z2l.an : An := { loops := [(3, z2l.la3)] }
def z2l.s3 (x0 : List Int) (x4 : Int) (xo7 : List Int) : St := ⟨.v (.one (.b (.d (.sl (.int .i64)) x0))) :: (sk 2 (.v (.one (.row 7 0)) :: .v (.one (.b (.d (.int .i64) x4))) :: (sk 17 ([])))), sko 7 (some (.row 3 (.int .i64) xo7 0) :: (sko 14 ([])))⟩
def z2l.sx3 (y : (List Int)) : St := ⟨sk 3 (.v (.one (.row 7 0)) :: (sk 18 ([]))), sko 7 (some (.row 3 (.int .i64) y 0) :: (sko 14 ([])))⟩
def z2l.sr3 (z : Empty) : St := z.elim
def z2l.S (lp : Nat) : Spec := { ats := [.v (.sl (.int .i64))], rts := [(.sl (.int .i64))], F := fun x => z2l lp x.1 }
theorem z2l.t_b3 (lp : Nat) {R : Type} (N : St → Option R) (X : Out → St → Option R) (x0 : List Int) (x4 : Int) (xo7 : List Int) : codeK (z2l.E lp) z2l.an lp (loopAt 3 (codeOf Tryz.f148)) (z2l.s3 x0 x4 xo7) (lpK z2l.la3 N X) = z2l.b3 lp (fun x0 x4 xo7 => N (z2l.s3 x0 x4 xo7)) (fun y => X (.exit 0) (z2l.sx3 y)) (fun z => X .ret (z2l.sr3 z)) x0 x4 xo7 := by kernel_rfl
theorem z2l.n_b3 (lp : Nat) {R S : Type} (N : List Int → Int → List Int → Option R) (X : ((List Int)) → Option R) (Q : Empty → Option R) (x0 : List Int) (x4 : Int) (xo7 : List Int) (k : R → Option S) : obind (z2l.b3 lp N X Q x0 x4 xo7) k = z2l.b3 lp (fun x0 x4 xo7 => obind (N x0 x4 xo7) k) (fun y => obind (X y) k) (fun z => obind (Q z) k) x0 x4 xo7 := by
  unfold z2l.b3; simp only [obind_none, obind_some, obind_cond, obind_oif, obind_oget, obind_obind]
theorem z2l.k3 (lp : Nat) {R : Type} (K : Out → St → Option R) : ∀ (n : Nat) (x0 : List Int) (x4 : Int) (xo7 : List Int), loopK z2l.la3 (fun σ K => codeK (z2l.E lp) z2l.an lp (loopAt 3 (codeOf Tryz.f148)) σ K) n (z2l.s3 x0 x4 xo7) K = obind (z2l.l3 lp n x0 x4 xo7) (leK 0 z2l.sr3 z2l.sx3 K) := by
  intro n
  induction n with
  | zero => intros; rfl
  | succ n ih =>
    intro x0 x4 xo7
    rw [loopK_succ, z2l.t_b3, z2l.l3, z2l.n_b3]
    simp only [ih, obind_some, leK_ret, leK_brk]
theorem z2l.t_a3 (lp : Nat) (y : (List Int)) : kont (R := (List Int)) (z2l.E lp) z2l.an lp (finK (z2l.E lp) Tryz.f148 [(.sl (.int .i64))]) (stkAt 3 (codeOf Tryz.f148)) (.exit 0) (z2l.sx3 y) = z2l.a3 lp y := by kernel_rfl
theorem z2l.t_e (lp : Nat) (x0 : List Int) : evalF (z2l.E lp) z2l.an lp Tryz.f148 [.v (.sl (.int .i64))] [(.sl (.int .i64))] (x0, ()) = z2l.e lp (fun x0 x4 xo7 => loopK z2l.la3 (fun σ K => codeK (z2l.E lp) z2l.an lp (loopAt 3 (codeOf Tryz.f148)) σ K) lp (z2l.s3 x0 x4 xo7) (kont (R := (List Int)) (z2l.E lp) z2l.an lp (finK (z2l.E lp) Tryz.f148 [(.sl (.int .i64))]) (stkAt 3 (codeOf Tryz.f148)))) x0 := by kernel_rfl
theorem z2l.eq0 (lp : Nat) (x0 : List Int) : evalF (z2l.E lp) z2l.an lp Tryz.f148 [.v (.sl (.int .i64))] [(.sl (.int .i64))] (x0, ()) = z2l lp x0 := by
  rw [z2l.t_e]; unfold z2l
  simp only [leK_ret0 _ z2l.sr3 z2l.sx3, z2l.k3, z2l.t_a3]
theorem z2l.eq (lp : Nat) (x : ADens [.v (.sl (.int .i64))]) : evalF (z2l.E lp) z2l.an lp Tryz.f148 [.v (.sl (.int .i64))] [(.sl (.int .i64))] x = (z2l.S lp).F x := z2l.eq0 lp x.1
theorem z2l.ok (lp : Nat) : Sound Tryz.prog 148 (z2l.S lp) := sound_of (E := z2l.E lp) (env_ok z0s tabEqs trivial trivial) mixed Tryz.func148 (by kernel_rfl) (c := codeOf Tryz.f148) (by kernel_rfl) (by kernel_rfl) z2l.an (fun x r h => ⟨lp, (z2l.eq lp x).trans h⟩)
def z58.E (lp : Nat) : Env := { tab := tab, fns := [(148, z2l.S lp), (98, z1l.S lp)], ann := { own := [], ro := [1] } }
def z58.an : An := { pre := [] }
def z58.S (lp : Nat) : Spec := { ats := [.v TCommit], rts := [TCommit], F := fun x => z58 lp x.1 }
theorem z58.eq (lp : Nat) (x : ADens [.v TCommit]) : evalF (z58.E lp) z58.an lp Tryz.f95 [.v TCommit] [TCommit] x = (z58.S lp).F x := by kernel_rfl
theorem z58.ok (lp : Nat) : Sound Tryz.prog 95 (z58.S lp) := sound_of (E := z58.E lp) (env_ok z0s tabEqs ⟨z2l.ok lp, z1l.ok lp, trivial⟩ trivial) mixed Tryz.func95 (by kernel_rfl) (c := codeOf Tryz.f95) (by kernel_rfl) (by kernel_rfl) z58.an (fun x r h => ⟨lp, (z58.eq lp x).trans h⟩)
def z1h.la3 : LoopAn := { kn := { tms := [0, 3, 4], obs := [7] }, kx := { tms := [3], obs := [7] }, kr := {} }
def z1h.E (lp : Nat) : Env := { tab := tab, fns := [(95, z58.S lp)], ann := { own := [], ro := [] } }
def z1h.an : An := { loops := [(3, z1h.la3)] }
def z1h.s3 (x0 : List Commit) (x4 : Int) (xo7 : List Commit) : St := ⟨.v (.one (.b (.d (.sl TCommit) x0))) :: (sk 2 (.v (.one (.row 7 0)) :: .v (.one (.b (.d (.int .i64) x4))) :: (sk 18 ([])))), sko 7 (some (.row 149 TCommit xo7 0) :: (sko 15 ([])))⟩
def z1h.sx3 (y : (List Commit)) : St := ⟨sk 3 (.v (.one (.row 7 0)) :: (sk 19 ([]))), sko 7 (some (.row 149 TCommit y 0) :: (sko 15 ([])))⟩
def z1h.sr3 (z : Empty) : St := z.elim
def z1h.S (lp : Nat) : Spec := { ats := [.v (.sl TCommit)], rts := [(.sl TCommit)], F := fun x => z1h lp x.1 }
theorem z1h.t_b3 (lp : Nat) {R : Type} (N : St → Option R) (X : Out → St → Option R) (x0 : List Commit) (x4 : Int) (xo7 : List Commit) : codeK (z1h.E lp) z1h.an lp (loopAt 3 (codeOf Tryz.f46)) (z1h.s3 x0 x4 xo7) (lpK z1h.la3 N X) = z1h.b3 lp (fun x0 x4 xo7 => N (z1h.s3 x0 x4 xo7)) (fun y => X (.exit 0) (z1h.sx3 y)) (fun z => X .ret (z1h.sr3 z)) x0 x4 xo7 := by kernel_rfl
theorem z1h.n_b3 (lp : Nat) {R S : Type} (N : List Commit → Int → List Commit → Option R) (X : ((List Commit)) → Option R) (Q : Empty → Option R) (x0 : List Commit) (x4 : Int) (xo7 : List Commit) (k : R → Option S) : obind (z1h.b3 lp N X Q x0 x4 xo7) k = z1h.b3 lp (fun x0 x4 xo7 => obind (N x0 x4 xo7) k) (fun y => obind (X y) k) (fun z => obind (Q z) k) x0 x4 xo7 := by
  unfold z1h.b3; simp only [obind_none, obind_some, obind_cond, obind_oif, obind_oget, obind_obind]
theorem z1h.k3 (lp : Nat) {R : Type} (K : Out → St → Option R) : ∀ (n : Nat) (x0 : List Commit) (x4 : Int) (xo7 : List Commit), loopK z1h.la3 (fun σ K => codeK (z1h.E lp) z1h.an lp (loopAt 3 (codeOf Tryz.f46)) σ K) n (z1h.s3 x0 x4 xo7) K = obind (z1h.l3 lp n x0 x4 xo7) (leK 0 z1h.sr3 z1h.sx3 K) := by
  intro n
  induction n with
  | zero => intros; rfl
  | succ n ih =>
    intro x0 x4 xo7
    rw [loopK_succ, z1h.t_b3, z1h.l3, z1h.n_b3]
    simp only [ih, obind_some, leK_ret, leK_brk]
theorem z1h.t_a3 (lp : Nat) (y : (List Commit)) : kont (R := (List Commit)) (z1h.E lp) z1h.an lp (finK (z1h.E lp) Tryz.f46 [(.sl TCommit)]) (stkAt 3 (codeOf Tryz.f46)) (.exit 0) (z1h.sx3 y) = z1h.a3 lp y := by kernel_rfl
theorem z1h.t_e (lp : Nat) (x0 : List Commit) : evalF (z1h.E lp) z1h.an lp Tryz.f46 [.v (.sl TCommit)] [(.sl TCommit)] (x0, ()) = z1h.e lp (fun x0 x4 xo7 => loopK z1h.la3 (fun σ K => codeK (z1h.E lp) z1h.an lp (loopAt 3 (codeOf Tryz.f46)) σ K) lp (z1h.s3 x0 x4 xo7) (kont (R := (List Commit)) (z1h.E lp) z1h.an lp (finK (z1h.E lp) Tryz.f46 [(.sl TCommit)]) (stkAt 3 (codeOf Tryz.f46)))) x0 := by kernel_rfl
theorem z1h.eq0 (lp : Nat) (x0 : List Commit) : evalF (z1h.E lp) z1h.an lp Tryz.f46 [.v (.sl TCommit)] [(.sl TCommit)] (x0, ()) = z1h lp x0 := by
  rw [z1h.t_e]; unfold z1h
  simp only [leK_ret0 _ z1h.sr3 z1h.sx3, z1h.k3, z1h.t_a3]
theorem z1h.eq (lp : Nat) (x : ADens [.v (.sl TCommit)]) : evalF (z1h.E lp) z1h.an lp Tryz.f46 [.v (.sl TCommit)] [(.sl TCommit)] x = (z1h.S lp).F x := z1h.eq0 lp x.1
theorem z1h.ok (lp : Nat) : Sound Tryz.prog 46 (z1h.S lp) := sound_of (E := z1h.E lp) (env_ok z0s tabEqs ⟨z58.ok lp, trivial⟩ trivial) mixed Tryz.func46 (by kernel_rfl) (c := codeOf Tryz.f46) (by kernel_rfl) (by kernel_rfl) z1h.an (fun x r h => ⟨lp, (z1h.eq lp x).trans h⟩)
def z6w.E : Env := { tab := tab, fns := [], ann := { own := [], ro := [1] } }
def z6w.an : An := { pre := [] }
def z6w.S : Spec := { ats := [.v TRef], rts := [TRef], F := fun x => z6w x.1 }
theorem z6w.eq (lp : Nat) (x : ADens [.v TRef]) : evalF (z6w.E) z6w.an lp Tryz.f96 [.v TRef] [TRef] x = (z6w.S).F x := by kernel_rfl
theorem z6w.ok : Sound Tryz.prog 96 (z6w.S) := sound_of (E := z6w.E) (env_ok z0s tabEqs trivial trivial) mixed Tryz.func96 (by kernel_rfl) (c := codeOf Tryz.f96) (by kernel_rfl) (by kernel_rfl) z6w.an (fun x r h => ⟨0, (z6w.eq 0 x).trans h⟩)
def z2k.la3 : LoopAn := { kn := { tms := [0, 3, 4], obs := [7] }, kx := { tms := [3], obs := [7] }, kr := {} }
def z2k.E (lp : Nat) : Env := { tab := tab, fns := [(96, z6w.S)], ann := { own := [], ro := [] } }
def z2k.an : An := { loops := [(3, z2k.la3)] }
def z2k.s3 (x0 : List Ref) (x4 : Int) (xo7 : List Ref) : St := ⟨.v (.one (.b (.d (.sl TRef) x0))) :: (sk 2 (.v (.one (.row 7 0)) :: .v (.one (.b (.d (.int .i64) x4))) :: (sk 18 ([])))), sko 7 (some (.row 115 TRef xo7 0) :: (sko 15 ([])))⟩
def z2k.sx3 (y : (List Ref)) : St := ⟨sk 3 (.v (.one (.row 7 0)) :: (sk 19 ([]))), sko 7 (some (.row 115 TRef y 0) :: (sko 15 ([])))⟩
def z2k.sr3 (z : Empty) : St := z.elim
def z2k.S (lp : Nat) : Spec := { ats := [.v (.sl TRef)], rts := [(.sl TRef)], F := fun x => z2k lp x.1 }
theorem z2k.t_b3 (lp : Nat) {R : Type} (N : St → Option R) (X : Out → St → Option R) (x0 : List Ref) (x4 : Int) (xo7 : List Ref) : codeK (z2k.E lp) z2k.an lp (loopAt 3 (codeOf Tryz.f47)) (z2k.s3 x0 x4 xo7) (lpK z2k.la3 N X) = z2k.b3 lp (fun x0 x4 xo7 => N (z2k.s3 x0 x4 xo7)) (fun y => X (.exit 0) (z2k.sx3 y)) (fun z => X .ret (z2k.sr3 z)) x0 x4 xo7 := by kernel_rfl
theorem z2k.n_b3 (lp : Nat) {R S : Type} (N : List Ref → Int → List Ref → Option R) (X : ((List Ref)) → Option R) (Q : Empty → Option R) (x0 : List Ref) (x4 : Int) (xo7 : List Ref) (k : R → Option S) : obind (z2k.b3 lp N X Q x0 x4 xo7) k = z2k.b3 lp (fun x0 x4 xo7 => obind (N x0 x4 xo7) k) (fun y => obind (X y) k) (fun z => obind (Q z) k) x0 x4 xo7 := by
  unfold z2k.b3; simp only [obind_none, obind_some, obind_cond, obind_oif, obind_oget, obind_obind]
theorem z2k.k3 (lp : Nat) {R : Type} (K : Out → St → Option R) : ∀ (n : Nat) (x0 : List Ref) (x4 : Int) (xo7 : List Ref), loopK z2k.la3 (fun σ K => codeK (z2k.E lp) z2k.an lp (loopAt 3 (codeOf Tryz.f47)) σ K) n (z2k.s3 x0 x4 xo7) K = obind (z2k.l3 lp n x0 x4 xo7) (leK 0 z2k.sr3 z2k.sx3 K) := by
  intro n
  induction n with
  | zero => intros; rfl
  | succ n ih =>
    intro x0 x4 xo7
    rw [loopK_succ, z2k.t_b3, z2k.l3, z2k.n_b3]
    simp only [ih, obind_some, leK_ret, leK_brk]
theorem z2k.t_a3 (lp : Nat) (y : (List Ref)) : kont (R := (List Ref)) (z2k.E lp) z2k.an lp (finK (z2k.E lp) Tryz.f47 [(.sl TRef)]) (stkAt 3 (codeOf Tryz.f47)) (.exit 0) (z2k.sx3 y) = z2k.a3 lp y := by kernel_rfl
theorem z2k.t_e (lp : Nat) (x0 : List Ref) : evalF (z2k.E lp) z2k.an lp Tryz.f47 [.v (.sl TRef)] [(.sl TRef)] (x0, ()) = z2k.e lp (fun x0 x4 xo7 => loopK z2k.la3 (fun σ K => codeK (z2k.E lp) z2k.an lp (loopAt 3 (codeOf Tryz.f47)) σ K) lp (z2k.s3 x0 x4 xo7) (kont (R := (List Ref)) (z2k.E lp) z2k.an lp (finK (z2k.E lp) Tryz.f47 [(.sl TRef)]) (stkAt 3 (codeOf Tryz.f47)))) x0 := by kernel_rfl
theorem z2k.eq0 (lp : Nat) (x0 : List Ref) : evalF (z2k.E lp) z2k.an lp Tryz.f47 [.v (.sl TRef)] [(.sl TRef)] (x0, ()) = z2k lp x0 := by
  rw [z2k.t_e]; unfold z2k
  simp only [leK_ret0 _ z2k.sr3 z2k.sx3, z2k.k3, z2k.t_a3]
theorem z2k.eq (lp : Nat) (x : ADens [.v (.sl TRef)]) : evalF (z2k.E lp) z2k.an lp Tryz.f47 [.v (.sl TRef)] [(.sl TRef)] x = (z2k.S lp).F x := z2k.eq0 lp x.1
theorem z2k.ok (lp : Nat) : Sound Tryz.prog 47 (z2k.S lp) := sound_of (E := z2k.E lp) (env_ok z0s tabEqs ⟨z6w.ok, trivial⟩ trivial) mixed Tryz.func47 (by kernel_rfl) (c := codeOf Tryz.f47) (by kernel_rfl) (by kernel_rfl) z2k.an (fun x r h => ⟨lp, (z2k.eq lp x).trans h⟩)
def z6o.E (lp : Nat) : Env := { tab := tab, fns := [(46, z1h.S lp), (47, z2k.S lp)], ann := { own := [], ro := [1] } }
def z6o.an : An := { pre := [] }
def z6o.S (lp : Nat) : Spec := { ats := [.v TBase], rts := [TBase], F := fun x => z6o lp x.1 }
theorem z6o.eq (lp : Nat) (x : ADens [.v TBase]) : evalF (z6o.E lp) z6o.an lp Tryz.f15 [.v TBase] [TBase] x = (z6o.S lp).F x := by kernel_rfl
theorem z6o.ok (lp : Nat) : Sound Tryz.prog 15 (z6o.S lp) := sound_of (E := z6o.E lp) (env_ok z0s tabEqs ⟨z1h.ok lp, z2k.ok lp, trivial⟩ trivial) mixed Tryz.func15 (by kernel_rfl) (c := codeOf Tryz.f15) (by kernel_rfl) (by kernel_rfl) z6o.an (fun x r h => ⟨lp, (z6o.eq lp x).trans h⟩)
def z6p.E : Env := { tab := tab, fns := [], ann := { own := [], ro := [1] } }
def z6p.an : An := { pre := [] }
def z6p.S : Spec := { ats := [.v TEdit], rts := [TEdit], F := fun x => z6p x.1 }
theorem z6p.eq (lp : Nat) (x : ADens [.v TEdit]) : evalF (z6p.E) z6p.an lp Tryz.f193 [.v TEdit] [TEdit] x = (z6p.S).F x := by kernel_rfl
theorem z6p.ok : Sound Tryz.prog 193 (z6p.S) := sound_of (E := z6p.E) (env_ok z0s tabEqs trivial trivial) mixed Tryz.func193 (by kernel_rfl) (c := codeOf Tryz.f193) (by kernel_rfl) (by kernel_rfl) z6p.an (fun x r h => ⟨0, (z6p.eq 0 x).trans h⟩)
end Go.Vx

end
