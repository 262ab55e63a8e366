/- Merged out of smaller texts. -/
import Derived.Test.YtajhmldalehbjaaGreatTalPartB
import Derived.WalkKit
import Derived.Test.YtajhmldalehbjaaGreatProg
section
set_option linter.unusedVariables false
set_option linter.unusedSimpArgs false
set_option maxRecDepth 100000
namespace Go.Vx
open Go Go.Proofs Go.Shelf Go.Lib Go.RowKit
def tab : List (Nat × TI) := [
  (1, ⟨none, 1, false, [.undef], 8, .other, false⟩),
  (2, ⟨some (.int .i64), 1, false, [.b (.d (.int .i64) (0:Int))], 8, .int .i64, false⟩),
  (3, ⟨some (.int .i64), 1, false, [.b (.d (.int .i64) (0:Int))], 8, .int .i64, false⟩),
  (4, ⟨some .bool, 1, false, [.b (.d .bool false)], 1, .bool, false⟩),
  (5, ⟨some (.int .u8), 1, false, [.b (.d (.int .u8) (0:Int))], 1, .int .u8, false⟩),
  (6, ⟨some (.int .u8), 1, false, [.b (.d (.int .u8) (0:Int))], 1, .int .u8, false⟩),
  (7, ⟨some TBoundsError, 4, true, [.b (.d (.int .i64) (0:Int)), .b (.d (.int .i64) (0:Int)), .b (.d .bool false), .b (.d (.int .u8) (0:Int))], 24, .struct [(0, 2), (1, 3), (2, 4), (3, 6)], false⟩),
  (8, ⟨some TBoundsError, 4, true, [.b (.d (.int .i64) (0:Int)), .b (.d (.int .i64) (0:Int)), .b (.d .bool false), .b (.d (.int .u8) (0:Int))], 24, .struct [(0, 2), (1, 3), (2, 4), (3, 6)], false⟩),
  (9, ⟨some .str, 1, false, [.b (.d .str (⟨#[]⟩ : ByteArray))], 16, .str, false⟩),
  (10, ⟨some .str, 1, false, [.b (.d .str (⟨#[]⟩ : ByteArray))], 16, .str, false⟩),
  (11, ⟨some .str, 1, false, [.b (.d .str (⟨#[]⟩ : ByteArray))], 16, .str, false⟩),
  (12, ⟨some (.int .u64), 1, false, [.b (.d (.int .u64) (0:Int))], 8, .int .u64, false⟩),
  (13, ⟨some TErrorAddressString, 2, true, [.b (.d .str (⟨#[]⟩ : ByteArray)), .b (.d (.int .u64) (0:Int))], 24, .struct [(0, 9), (1, 12)], false⟩),
  (14, ⟨some TErrorAddressString, 2, true, [.b (.d .str (⟨#[]⟩ : ByteArray)), .b (.d (.int .u64) (0:Int))], 24, .struct [(0, 9), (1, 12)], false⟩),
  (21, ⟨some (.int .i32), 1, false, [.b (.d (.int .i32) (0:Int))], 4, .int .i32, false⟩),
  (22, ⟨some (.sl TCommit), 1, false, [.nil], 24, .slice 141, false⟩),
  (23, ⟨some (.sl TRef), 1, false, [.nil], 24, .slice 144, false⟩),
  (24, ⟨some TBase, 2, true, [.nil, .nil], 48, .struct [(0, 22), (1, 23)], false⟩),
  (25, ⟨some TBase, 2, true, [.nil, .nil], 48, .struct [(0, 22), (1, 23)], false⟩),
  (26, ⟨some (.sl TClient), 1, false, [.nil], 24, .slice 100, false⟩),
  (27, ⟨some (.sl TWatch), 1, false, [.nil], 24, .slice 104, false⟩),
  (28, ⟨some (.sl TMoment), 1, false, [.nil], 24, .slice 112, false⟩),
  (29, ⟨some TWorld, 6, true, [.nil, .nil, .nil, .nil, .nil, .b (.d (.int .i64) (0:Int))], 128, .struct [(0, 25), (2, 26), (3, 27), (4, 28), (5, 3)], false⟩),
  (30, ⟨some TWorld, 6, true, [.nil, .nil, .nil, .nil, .nil, .b (.d (.int .i64) (0:Int))], 128, .struct [(0, 25), (2, 26), (3, 27), (4, 28), (5, 3)], false⟩),
  (31, ⟨none, 1, false, [.undef], 8, .other, false⟩),
  (33, ⟨none, 1, false, [.undef], 8, .other, false⟩),
  (34, ⟨some (.sl TCommit), 1, false, [.nil], 24, .slice 160, false⟩),
  (35, ⟨some (.sl TRef), 1, false, [.nil], 24, .slice 152, false⟩),
  (36, ⟨some TBase, 2, true, [.nil, .nil], 48, .struct [(0, 34), (1, 35)], false⟩),
  (37, ⟨some TBase, 2, true, [.nil, .nil], 48, .struct [(0, 34), (1, 35)], false⟩),
  (38, ⟨some (.sl TClient), 1, false, [.nil], 24, .slice 73, false⟩),
  (39, ⟨some (.sl TWatch), 1, false, [.nil], 24, .slice 117, false⟩),
  (40, ⟨some (.sl TMoment), 1, false, [.nil], 24, .slice 70, false⟩),
  (41, ⟨some TWorld, 6, true, [.nil, .nil, .nil, .nil, .nil, .b (.d (.int .i64) (0:Int))], 128, .struct [(0, 37), (2, 38), (3, 39), (4, 40), (5, 3)], false⟩),
  (42, ⟨some TWorld, 6, true, [.nil, .nil, .nil, .nil, .nil, .b (.d (.int .i64) (0:Int))], 128, .struct [(0, 37), (2, 38), (3, 39), (4, 40), (5, 3)], false⟩),
  (43, ⟨none, 1, false, [.undef], 8, .other, false⟩),
  (44, ⟨none, 1, false, [.undef], 8, .other, false⟩),
  (45, ⟨none, 1, false, [.undef], 8, .other, false⟩),
  (47, ⟨none, 1, false, [.undef], 8, .other, false⟩),
  (48, ⟨none, 1, false, [.undef], 8, .other, false⟩),
  (50, ⟨none, 1, false, [.undef], 8, .other, false⟩),
  (51, ⟨none, 1, false, [.undef], 8, .other, false⟩),
  (52, ⟨some TTally, 6, true, [.b (.d (.int .i64) (0:Int)), .b (.d (.int .i64) (0:Int)), .b (.d (.int .i64) (0:Int)), .b (.d (.int .i64) (0:Int)), .b (.d (.int .i64) (0:Int)), .b (.d (.int .i64) (0:Int))], 48, .struct [(0, 3), (1, 3), (2, 3), (3, 3), (4, 3), (5, 3)], false⟩),
  (53, ⟨some TTally, 6, true, [.b (.d (.int .i64) (0:Int)), .b (.d (.int .i64) (0:Int)), .b (.d (.int .i64) (0:Int)), .b (.d (.int .i64) (0:Int)), .b (.d (.int .i64) (0:Int)), .b (.d (.int .i64) (0:Int))], 48, .struct [(0, 3), (1, 3), (2, 3), (3, 3), (4, 3), (5, 3)], false⟩),
  (55, ⟨none, 1, false, [.undef], 8, .other, false⟩),
  (56, ⟨none, 1, false, [.undef], 8, .other, false⟩),
  (57, ⟨none, 1, false, [.undef], 8, .other, false⟩),
  (58, ⟨none, 1, false, [.undef], 8, .other, false⟩),
  (59, ⟨none, 1, false, [.undef], 8, .other, false⟩),
  (60, ⟨none, 1, false, [.undef], 8, .other, false⟩),
  (61, ⟨none, 1, false, [.undef], 8, .other, false⟩),
  (62, ⟨some (.sl TEdit), 1, false, [.nil], 24, .slice 226, false⟩),
  (63, ⟨some TOp, 5, true, [.b (.d (.int .i64) (0:Int)), .b (.d (.int .i64) (0:Int)), .b (.d .str (⟨#[]⟩ : ByteArray)), .b (.d .str (⟨#[]⟩ : ByteArray)), .nil], 72, .struct [(0, 3), (1, 3), (2, 9), (3, 9), (4, 62)], false⟩),
  (64, ⟨some TOp, 5, true, [.b (.d (.int .i64) (0:Int)), .b (.d (.int .i64) (0:Int)), .b (.d .str (⟨#[]⟩ : ByteArray)), .b (.d .str (⟨#[]⟩ : ByteArray)), .nil], 72, .struct [(0, 3), (1, 3), (2, 9), (3, 9), (4, 62)], false⟩),
  (65, ⟨some (.sl .str), 1, false, [.nil], 24, .slice 9, false⟩),
  (66, ⟨some (.sl TEntry), 1, false, [.nil], 24, .slice 196, false⟩),
  (67, ⟨some TResult, 5, true, [.b (.d (.int .i64) (0:Int)), .b (.d (.int .i64) (0:Int)), .b (.d (.int .i64) (0:Int)), .nil, .nil], 72, .struct [(0, 3), (1, 3), (2, 3), (3, 65), (4, 66)], false⟩),
  (68, ⟨some TResult, 5, true, [.b (.d (.int .i64) (0:Int)), .b (.d (.int .i64) (0:Int)), .b (.d (.int .i64) (0:Int)), .nil, .nil], 72, .struct [(0, 3), (1, 3), (2, 3), (3, 65), (4, 66)], false⟩),
  (69, ⟨some TMoment, 13, true, [.b (.d (.int .i64) (0:Int)), .b (.d (.int .i64) (0:Int)), .b (.d (.int .i64) (0:Int)), .b (.d (.int .i64) (0:Int)), .b (.d (.int .i64) (0:Int)), .b (.d .str (⟨#[]⟩ : ByteArray)), .b (.d .str (⟨#[]⟩ : ByteArray)), .nil, .b (.d (.int .i64) (0:Int)), .b (.d (.int .i64) (0:Int)), .b (.d (.int .i64) (0:Int)), .nil, .nil], 168, .struct [(0, 3), (1, 3), (2, 3), (3, 64), (8, 68)], false⟩),
  (70, ⟨some TMoment, 13, true, [.b (.d (.int .i64) (0:Int)), .b (.d (.int .i64) (0:Int)), .b (.d (.int .i64) (0:Int)), .b (.d (.int .i64) (0:Int)), .b (.d (.int .i64) (0:Int)), .b (.d .str (⟨#[]⟩ : ByteArray)), .b (.d .str (⟨#[]⟩ : ByteArray)), .nil, .b (.d (.int .i64) (0:Int)), .b (.d (.int .i64) (0:Int)), .b (.d (.int .i64) (0:Int)), .nil, .nil], 168, .struct [(0, 3), (1, 3), (2, 3), (3, 64), (8, 68)], false⟩),
  (71, ⟨some (.sl TWish), 1, false, [.nil], 24, .slice 89, false⟩),
  (72, ⟨some TClient, 9, true, [.nil, .b (.d (.int .i64) (0:Int)), .b (.d (.int .i64) (0:Int)), .b (.d (.int .i64) (0:Int)), .b (.d (.int .i64) (0:Int)), .b (.d (.int .i64) (0:Int)), .b (.d (.int .i64) (0:Int)), .b (.d (.int .i64) (0:Int)), .nil], 104, .struct [(0, 71), (1, 3), (2, 3), (3, 3), (4, 3), (5, 3), (6, 3), (7, 3), (8, 66)], false⟩),
  (73, ⟨some TClient, 9, true, [.nil, .b (.d (.int .i64) (0:Int)), .b (.d (.int .i64) (0:Int)), .b (.d (.int .i64) (0:Int)), .b (.d (.int .i64) (0:Int)), .b (.d (.int .i64) (0:Int)), .b (.d (.int .i64) (0:Int)), .b (.d (.int .i64) (0:Int)), .nil], 104, .struct [(0, 71), (1, 3), (2, 3), (3, 3), (4, 3), (5, 3), (6, 3), (7, 3), (8, 66)], false⟩),
  (74, ⟨none, 1, false, [.undef], 8, .other, false⟩),
  (75, ⟨none, 1, false, [.undef], 8, .other, false⟩),
  (76, ⟨none, 1, false, [.undef], 8, .other, false⟩),
  (77, ⟨none, 1, false, [.undef], 8, .other, false⟩),
  (78, ⟨some (.sl (.int .i64)), 1, false, [.nil], 24, .slice 3, false⟩),
  (79, ⟨none, 1, false, [.undef], 8, .other, false⟩),
  (80, ⟨none, 1, false, [.undef], 8, .other, false⟩),
  (81, ⟨none, 1, false, [.undef], 8, .other, false⟩),
  (82, ⟨none, 1, false, [.undef], 8, .other, false⟩),
  (83, ⟨none, 1, false, [.undef], 8, .other, false⟩),
  (84, ⟨none, 1, false, [.undef], 8, .other, false⟩),
  (85, ⟨none, 1, false, [.undef], 8, .other, false⟩),
  (86, ⟨none, 1, false, [.undef], 8, .other, false⟩),
  (87, ⟨none, 1, false, [.undef], 8, .other, false⟩),
  (88, ⟨some TWish, 5, true, [.b (.d (.int .i64) (0:Int)), .b (.d .str (⟨#[]⟩ : ByteArray)), .b (.d .str (⟨#[]⟩ : ByteArray)), .b (.d .str (⟨#[]⟩ : ByteArray)), .nil], 80, .struct [(0, 3), (1, 9), (2, 9), (3, 9), (4, 62)], false⟩),
  (89, ⟨some TWish, 5, true, [.b (.d (.int .i64) (0:Int)), .b (.d .str (⟨#[]⟩ : ByteArray)), .b (.d .str (⟨#[]⟩ : ByteArray)), .b (.d .str (⟨#[]⟩ : ByteArray)), .nil], 80, .struct [(0, 3), (1, 9), (2, 9), (3, 9), (4, 62)], false⟩),
  (90, ⟨none, 1, false, [.undef], 8, .other, false⟩),
  (91, ⟨none, 1, false, [.undef], 8, .other, false⟩),
  (92, ⟨none, 1, false, [.undef], 8, .other, false⟩),
  (93, ⟨none, 1, false, [.undef], 8, .other, false⟩),
  (94, ⟨none, 1, false, [.undef], 8, .other, false⟩),
  (95, ⟨none, 1, false, [.undef], 8, .other, false⟩),
  (96, ⟨none, 1, false, [.undef], 8, .other, false⟩),
  (97, ⟨some (.sl TWish), 1, false, [.nil], 24, .slice 185, false⟩),
  (98, ⟨some (.sl TEntry), 1, false, [.nil], 24, .slice 188, false⟩),
  (99, ⟨some TClient, 9, true, [.nil, .b (.d (.int .i64) (0:Int)), .b (.d (.int .i64) (0:Int)), .b (.d (.int .i64) (0:Int)), .b (.d (.int .i64) (0:Int)), .b (.d (.int .i64) (0:Int)), .b (.d (.int .i64) (0:Int)), .b (.d (.int .i64) (0:Int)), .nil], 104, .struct [(0, 97), (1, 3), (2, 3), (3, 3), (4, 3), (5, 3), (6, 3), (7, 3), (8, 98)], false⟩),
  (100, ⟨some TClient, 9, true, [.nil, .b (.d (.int .i64) (0:Int)), .b (.d (.int .i64) (0:Int)), .b (.d (.int .i64) (0:Int)), .b (.d (.int .i64) (0:Int)), .b (.d (.int .i64) (0:Int)), .b (.d (.int .i64) (0:Int)), .b (.d (.int .i64) (0:Int)), .nil], 104, .struct [(0, 97), (1, 3), (2, 3), (3, 3), (4, 3), (5, 3), (6, 3), (7, 3), (8, 98)], false⟩),
  (101, ⟨none, 1, false, [.undef], 8, .other, false⟩),
  (102, ⟨some (.sl TEvent), 1, false, [.nil], 24, .slice 201, false⟩),
  (103, ⟨some TWatch, 3, true, [.b (.d .str (⟨#[]⟩ : ByteArray)), .b (.d (.int .i64) (0:Int)), .nil], 48, .struct [(0, 9), (1, 3), (2, 102)], false⟩),
  (104, ⟨some TWatch, 3, true, [.b (.d .str (⟨#[]⟩ : ByteArray)), .b (.d (.int .i64) (0:Int)), .nil], 48, .struct [(0, 9), (1, 3), (2, 102)], false⟩),
  (105, ⟨none, 1, false, [.undef], 8, .other, false⟩),
  (106, ⟨some (.sl TEdit), 1, false, [.nil], 24, .slice 222, false⟩),
  (107, ⟨some TOp, 5, true, [.b (.d (.int .i64) (0:Int)), .b (.d (.int .i64) (0:Int)), .b (.d .str (⟨#[]⟩ : ByteArray)), .b (.d .str (⟨#[]⟩ : ByteArray)), .nil], 72, .struct [(0, 3), (1, 3), (2, 9), (3, 9), (4, 106)], false⟩),
  (108, ⟨some TOp, 5, true, [.b (.d (.int .i64) (0:Int)), .b (.d (.int .i64) (0:Int)), .b (.d .str (⟨#[]⟩ : ByteArray)), .b (.d .str (⟨#[]⟩ : ByteArray)), .nil], 72, .struct [(0, 3), (1, 3), (2, 9), (3, 9), (4, 106)], false⟩),
  (109, ⟨some TResult, 5, true, [.b (.d (.int .i64) (0:Int)), .b (.d (.int .i64) (0:Int)), .b (.d (.int .i64) (0:Int)), .nil, .nil], 72, .struct [(0, 3), (1, 3), (2, 3), (3, 65), (4, 98)], false⟩),
  (110, ⟨some TResult, 5, true, [.b (.d (.int .i64) (0:Int)), .b (.d (.int .i64) (0:Int)), .b (.d (.int .i64) (0:Int)), .nil, .nil], 72, .struct [(0, 3), (1, 3), (2, 3), (3, 65), (4, 98)], false⟩),
  (111, ⟨some TMoment, 13, true, [.b (.d (.int .i64) (0:Int)), .b (.d (.int .i64) (0:Int)), .b (.d (.int .i64) (0:Int)), .b (.d (.int .i64) (0:Int)), .b (.d (.int .i64) (0:Int)), .b (.d .str (⟨#[]⟩ : ByteArray)), .b (.d .str (⟨#[]⟩ : ByteArray)), .nil, .b (.d (.int .i64) (0:Int)), .b (.d (.int .i64) (0:Int)), .b (.d (.int .i64) (0:Int)), .nil, .nil], 168, .struct [(0, 3), (1, 3), (2, 3), (3, 108), (8, 110)], false⟩),
  (112, ⟨some TMoment, 13, true, [.b (.d (.int .i64) (0:Int)), .b (.d (.int .i64) (0:Int)), .b (.d (.int .i64) (0:Int)), .b (.d (.int .i64) (0:Int)), .b (.d (.int .i64) (0:Int)), .b (.d .str (⟨#[]⟩ : ByteArray)), .b (.d .str (⟨#[]⟩ : ByteArray)), .nil, .b (.d (.int .i64) (0:Int)), .b (.d (.int .i64) (0:Int)), .b (.d (.int .i64) (0:Int)), .nil, .nil], 168, .struct [(0, 3), (1, 3), (2, 3), (3, 108), (8, 110)], false⟩),
  (113, ⟨none, 1, false, [.undef], 8, .other, false⟩),
  (114, ⟨none, 1, false, [.undef], 8, .other, false⟩),
  (115, ⟨some (.sl TEvent), 1, false, [.nil], 24, .slice 156, false⟩),
  (116, ⟨some TWatch, 3, true, [.b (.d .str (⟨#[]⟩ : ByteArray)), .b (.d (.int .i64) (0:Int)), .nil], 48, .struct [(0, 9), (1, 3), (2, 115)], false⟩),
  (117, ⟨some TWatch, 3, true, [.b (.d .str (⟨#[]⟩ : ByteArray)), .b (.d (.int .i64) (0:Int)), .nil], 48, .struct [(0, 9), (1, 3), (2, 115)], false⟩),
  (118, ⟨none, 1, false, [.undef], 8, .other, false⟩),
  (119, ⟨none, 1, false, [.undef], 8, .other, false⟩),
  (120, ⟨none, 1, false, [.undef], 8, .other, false⟩),
  (121, ⟨none, 1, false, [.undef], 8, .other, false⟩),
  (122, ⟨none, 1, false, [.undef], 8, .other, false⟩),
  (123, ⟨none, 1, false, [.undef], 8, .other, false⟩),
  (124, ⟨none, 1, false, [.undef], 8, .other, false⟩),
  (125, ⟨none, 1, false, [.undef], 8, .other, false⟩),
  (126, ⟨none, 1, false, [.undef], 8, .other, false⟩),
  (127, ⟨none, 1, false, [.undef], 8, .other, false⟩),
  (128, ⟨none, 1, false, [.undef], 8, .other, false⟩),
  (129, ⟨none, 1, false, [.undef], 8, .other, false⟩),
  (130, ⟨none, 1, false, [.undef], 8, .other, false⟩),
  (131, ⟨none, 1, false, [.undef], 8, .other, false⟩),
  (132, ⟨none, 1, false, [.undef], 8, .other, false⟩),
  (133, ⟨none, 1, false, [.undef], 8, .other, false⟩),
  (134, ⟨none, 1, false, [.undef], 8, .other, false⟩),
  (135, ⟨none, 1, false, [.undef], 8, .other, false⟩),
  (136, ⟨none, 1, false, [.undef], 8, .other, false⟩),
  (137, ⟨none, 1, false, [.undef], 8, .other, false⟩),
  (138, ⟨none, 1, false, [.undef], 8, .other, false⟩),
  (139, ⟨none, 1, false, [.undef], 8, .other, false⟩),
  (140, ⟨some TCommit, 2, true, [.nil, .nil], 48, .struct [(0, 78), (1, 98)], false⟩),
  (141, ⟨some TCommit, 2, true, [.nil, .nil], 48, .struct [(0, 78), (1, 98)], false⟩),
  (142, ⟨none, 1, false, [.undef], 8, .other, false⟩),
  (143, ⟨some TRef, 4, true, [.b (.d .str (⟨#[]⟩ : ByteArray)), .b (.d (.int .i64) (0:Int)), .b (.d (.int .i64) (0:Int)), .b (.d .bool false)], 40, .struct [(0, 9), (1, 3), (2, 3), (3, 4)], false⟩),
  (144, ⟨some TRef, 4, true, [.b (.d .str (⟨#[]⟩ : ByteArray)), .b (.d (.int .i64) (0:Int)), .b (.d (.int .i64) (0:Int)), .b (.d .bool false)], 40, .struct [(0, 9), (1, 3), (2, 3), (3, 4)], false⟩),
  (145, ⟨none, 1, false, [.undef], 8, .other, false⟩),
  (146, ⟨none, 1, false, [.undef], 8, .other, false⟩),
  (147, ⟨none, 1, false, [.undef], 8, .other, false⟩),
  (148, ⟨none, 1, false, [.undef], 8, .other, false⟩),
  (149, ⟨none, 1, false, [.undef], 8, .other, false⟩),
  (150, ⟨none, 1, false, [.undef], 8, .other, false⟩),
  (151, ⟨none, 1, false, [.undef], 8, .other, false⟩),
  (152, ⟨some TRef, 4, true, [.b (.d .str (⟨#[]⟩ : ByteArray)), .b (.d (.int .i64) (0:Int)), .b (.d (.int .i64) (0:Int)), .b (.d .bool false)], 40, .struct [(0, 9), (1, 3), (2, 3), (3, 4)], false⟩),
  (153, ⟨none, 1, false, [.undef], 8, .other, false⟩),
  (154, ⟨none, 1, false, [.undef], 8, .other, false⟩),
  (155, ⟨some TEvent, 3, true, [.b (.d (.int .i64) (0:Int)), .b (.d (.int .i64) (0:Int)), .b (.d .bool false)], 24, .struct [(0, 3), (1, 3), (2, 4)], false⟩),
  (156, ⟨some TEvent, 3, true, [.b (.d (.int .i64) (0:Int)), .b (.d (.int .i64) (0:Int)), .b (.d .bool false)], 24, .struct [(0, 3), (1, 3), (2, 4)], false⟩),
  (157, ⟨none, 1, false, [.undef], 8, .other, false⟩),
  (158, ⟨none, 1, false, [.undef], 8, .other, false⟩),
  (159, ⟨some TCommit, 2, true, [.nil, .nil], 48, .struct [(0, 78), (1, 66)], false⟩),
  (160, ⟨some TCommit, 2, true, [.nil, .nil], 48, .struct [(0, 78), (1, 66)], false⟩),
  (161, ⟨none, 1, false, [.undef], 8, .other, false⟩),
  (162, ⟨none, 1, false, [.undef], 8, .other, false⟩),
  (163, ⟨none, 1, false, [.undef], 8, .other, false⟩),
  (164, ⟨none, 1, false, [.undef], 8, .other, false⟩),
  (165, ⟨none, 1, false, [.undef], 8, .other, false⟩),
  (166, ⟨none, 1, false, [.undef], 8, .other, false⟩),
  (167, ⟨none, 1, false, [.undef], 8, .other, false⟩),
  (168, ⟨none, 1, false, [.undef], 8, .other, false⟩),
  (169, ⟨none, 1, false, [.undef], 8, .other, false⟩),
  (170, ⟨none, 1, false, [.undef], 8, .other, false⟩),
  (171, ⟨none, 1, false, [.undef], 8, .other, false⟩),
  (172, ⟨none, 1, false, [.undef], 8, .other, false⟩),
  (173, ⟨none, 1, false, [.undef], 8, .other, false⟩),
  (174, ⟨none, 1, false, [.undef], 8, .other, false⟩),
  (175, ⟨none, 1, false, [.undef], 8, .other, false⟩),
  (176, ⟨none, 1, false, [.undef], 8, .other, false⟩),
  (177, ⟨none, 1, false, [.undef], 8, .other, false⟩),
  (178, ⟨none, 1, false, [.undef], 8, .other, false⟩),
  (179, ⟨none, 1, false, [.undef], 8, .other, false⟩),
  (180, ⟨none, 1, false, [.undef], 8, .other, false⟩),
  (181, ⟨none, 1, false, [.undef], 8, .other, false⟩),
  (182, ⟨none, 1, false, [.undef], 8, .other, false⟩),
  (183, ⟨none, 1, false, [.undef], 8, .other, false⟩),
  (184, ⟨some TWish, 5, true, [.b (.d (.int .i64) (0:Int)), .b (.d .str (⟨#[]⟩ : ByteArray)), .b (.d .str (⟨#[]⟩ : ByteArray)), .b (.d .str (⟨#[]⟩ : ByteArray)), .nil], 80, .struct [(0, 3), (1, 9), (2, 9), (3, 9), (4, 106)], false⟩),
  (185, ⟨some TWish, 5, true, [.b (.d (.int .i64) (0:Int)), .b (.d .str (⟨#[]⟩ : ByteArray)), .b (.d .str (⟨#[]⟩ : ByteArray)), .b (.d .str (⟨#[]⟩ : ByteArray)), .nil], 80, .struct [(0, 3), (1, 9), (2, 9), (3, 9), (4, 106)], false⟩),
  (186, ⟨none, 1, false, [.undef], 8, .other, false⟩),
  (187, ⟨some TEntry, 2, true, [.b (.d .str (⟨#[]⟩ : ByteArray)), .b (.d (.int .i64) (0:Int))], 24, .struct [(0, 9), (1, 3)], false⟩),
  (188, ⟨some TEntry, 2, true, [.b (.d .str (⟨#[]⟩ : ByteArray)), .b (.d (.int .i64) (0:Int))], 24, .struct [(0, 9), (1, 3)], false⟩),
  (189, ⟨none, 1, false, [.undef], 8, .other, false⟩),
  (190, ⟨none, 1, false, [.undef], 8, .other, false⟩),
  (191, ⟨none, 1, false, [.undef], 8, .other, false⟩),
  (193, ⟨none, 1, false, [.undef], 8, .other, false⟩),
  (194, ⟨none, 1, false, [.undef], 8, .other, false⟩),
  (195, ⟨none, 1, false, [.undef], 8, .other, false⟩),
  (196, ⟨some TEntry, 2, true, [.b (.d .str (⟨#[]⟩ : ByteArray)), .b (.d (.int .i64) (0:Int))], 24, .struct [(0, 9), (1, 3)], true⟩),
  (197, ⟨none, 1, false, [.undef], 8, .other, false⟩),
  (198, ⟨none, 1, false, [.undef], 8, .other, false⟩),
  (199, ⟨none, 1, false, [.undef], 8, .other, false⟩),
  (200, ⟨none, 1, false, [.undef], 8, .other, false⟩),
  (201, ⟨some TEvent, 3, true, [.b (.d (.int .i64) (0:Int)), .b (.d (.int .i64) (0:Int)), .b (.d .bool false)], 24, .struct [(0, 3), (1, 3), (2, 4)], false⟩),
  (202, ⟨none, 1, false, [.undef], 8, .other, false⟩),
  (203, ⟨none, 1, false, [.undef], 8, .other, false⟩),
  (204, ⟨none, 1, false, [.undef], 8, .other, false⟩),
  (205, ⟨some TPlan, 5, true, [.b (.d .bool false), .nil, .nil, .nil, .b (.d (.int .i64) (0:Int))], 88, .struct [(0, 4), (1, 66), (2, 78), (3, 65), (4, 3)], false⟩),
  (206, ⟨some TPlan, 5, true, [.b (.d .bool false), .nil, .nil, .nil, .b (.d (.int .i64) (0:Int))], 88, .struct [(0, 4), (1, 66), (2, 78), (3, 65), (4, 3)], false⟩),
  (207, ⟨none, 1, false, [.undef], 8, .other, false⟩),
  (208, ⟨none, 1, false, [.undef], 8, .other, false⟩),
  (209, ⟨none, 1, false, [.undef], 8, .other, false⟩),
  (210, ⟨none, 1, false, [.undef], 8, .other, false⟩),
  (211, ⟨none, 1, false, [.undef], 8, .other, false⟩),
  (212, ⟨some (.sl (.int .u8)), 1, false, [.nil], 24, .slice 5, false⟩),
  (213, ⟨none, 1, false, [.undef], 8, .other, false⟩),
  (214, ⟨none, 1, false, [.undef], 8, .other, false⟩),
  (215, ⟨none, 1, false, [.undef], 8, .other, false⟩),
  (216, ⟨none, 1, false, [.undef], 8, .other, false⟩),
  (217, ⟨none, 1, false, [.undef], 8, .other, false⟩),
  (218, ⟨none, 1, false, [.undef], 8, .other, false⟩),
  (219, ⟨none, 1, false, [.undef], 8, .other, false⟩),
  (220, ⟨none, 1, false, [.undef], 8, .other, false⟩),
  (221, ⟨some TEdit, 3, true, [.b (.d .str (⟨#[]⟩ : ByteArray)), .b (.d (.int .i64) (0:Int)), .b (.d .bool false)], 32, .struct [(0, 9), (1, 3), (2, 4)], false⟩),
  (222, ⟨some TEdit, 3, true, [.b (.d .str (⟨#[]⟩ : ByteArray)), .b (.d (.int .i64) (0:Int)), .b (.d .bool false)], 32, .struct [(0, 9), (1, 3), (2, 4)], false⟩),
  (223, ⟨none, 1, false, [.undef], 8, .other, false⟩),
  (225, ⟨none, 1, false, [.undef], 8, .other, false⟩),
  (226, ⟨some TEdit, 3, true, [.b (.d .str (⟨#[]⟩ : ByteArray)), .b (.d (.int .i64) (0:Int)), .b (.d .bool false)], 32, .struct [(0, 9), (1, 3), (2, 4)], true⟩),
  (227, ⟨none, 1, false, [.undef], 8, .other, false⟩),
  (228, ⟨none, 1, false, [.undef], 8, .other, false⟩),
  (229, ⟨none, 1, false, [.undef], 8, .other, false⟩),
  (230, ⟨none, 1, false, [.undef], 8, .other, false⟩),
  (232, ⟨none, 1, false, [.undef], 8, .other, false⟩),
  (233, ⟨none, 1, false, [.undef], 8, .other, false⟩),
  (234, ⟨none, 1, false, [.undef], 8, .other, false⟩),
  (235, ⟨none, 1, false, [.undef], 8, .other, false⟩),
  (236, ⟨none, 1, false, [.undef], 8, .other, false⟩),
  (237, ⟨none, 1, false, [.undef], 8, .other, false⟩),
  (239, ⟨none, 1, false, [.undef], 8, .other, false⟩),
  (240, ⟨none, 1, false, [.undef], 8, .other, false⟩),
  (241, ⟨none, 1, false, [.undef], 8, .other, false⟩),
  (243, ⟨none, 1, false, [.undef], 8, .other, false⟩),
  (244, ⟨none, 1, false, [.undef], 8, .other, false⟩),
  (245, ⟨some (.sl .bool), 1, false, [.nil], 24, .slice 4, false⟩),
  (246, ⟨none, 1, false, [.undef], 8, .other, false⟩),
  (247, ⟨none, 1, false, [.undef], 8, .other, false⟩),
  (248, ⟨none, 1, false, [.undef], 8, .other, false⟩),
  (250, ⟨none, 1, false, [.undef], 8, .other, false⟩),
  (251, ⟨none, 1, false, [.undef], 8, .other, false⟩),
  (252, ⟨none, 1, false, [.undef], 8, .other, false⟩),
  (253, ⟨none, 1, false, [.undef], 8, .other, false⟩),
  (255, ⟨none, 1, false, [.undef], 8, .other, false⟩),
  (256, ⟨none, 1, false, [.undef], 8, .other, false⟩),
  (257, ⟨none, 1, false, [.undef], 8, .other, false⟩),
  (258, ⟨none, 1, false, [.undef], 8, .map 9 226, false⟩),
  (259, ⟨none, 1, false, [.undef], 8, .other, false⟩),
  (260, ⟨none, 1, false, [.undef], 8, .other, false⟩),
  (261, ⟨none, 1, false, [.undef], 8, .other, false⟩),
  (262, ⟨none, 1, false, [.undef], 8, .other, false⟩),
  (263, ⟨none, 1, false, [.undef], 8, .other, false⟩),
  (264, ⟨none, 1, false, [.undef], 8, .other, false⟩),
  (265, ⟨none, 1, false, [.undef], 8, .other, false⟩),
  (266, ⟨some (.int .u64), 1, false, [.b (.d (.int .u64) (0:Int))], 8, .int .u64, false⟩),
  (267, ⟨none, 1, false, [.undef], 8, .other, false⟩),
  (268, ⟨none, 1, false, [.undef], 8, .other, false⟩),
  (269, ⟨none, 1, false, [.undef], 8, .other, false⟩),
  (270, ⟨none, 1, false, [.undef], 8, .other, false⟩),
  (271, ⟨some (.int .i64), 1, false, [.b (.d (.int .i64) (0:Int))], 8, .int .i64, false⟩),
  (273, ⟨none, 1, false, [.undef], 8, .other, false⟩),
  (274, ⟨none, 1, false, [.undef], 8, .other, false⟩),
  (275, ⟨none, 1, false, [.undef], 8, .other, false⟩),
  (276, ⟨none, 1, false, [.undef], 8, .other, false⟩),
  (277, ⟨none, 1, false, [.undef], 8, .other, false⟩),
  (278, ⟨some (.int .u32), 1, false, [.b (.d (.int .u32) (0:Int))], 4, .int .u32, false⟩),
  (279, ⟨none, 1, false, [.undef], 8, .other, false⟩),
  (280, ⟨some (.int .u64), 1, false, [.b (.d (.int .u64) (0:Int))], 8, .int .u64, false⟩),
  (281, ⟨some (.int .u64), 1, false, [.b (.d (.int .u64) (0:Int))], 8, .int .u64, false⟩),
  (282, ⟨none, 1, false, [.undef], 8, .other, false⟩),
  (283, ⟨none, 1, false, [.undef], 8, .other, false⟩),
  (284, ⟨none, 1, false, [.undef], 8, .other, false⟩),
  (286, ⟨none, 1, false, [.undef], 8, .other, false⟩),
  (288, ⟨none, 1, false, [.undef], 8, .other, false⟩),
  (294, ⟨none, 1, false, [.undef], 8, .other, false⟩),
  (295, ⟨some (.int .u8), 1, false, [.b (.d (.int .u8) (0:Int))], 1, .int .u8, false⟩),
  (296, ⟨some (.int .u8), 1, false, [.b (.d (.int .u8) (0:Int))], 1, .int .u8, false⟩),
  (297, ⟨none, 1, false, [.undef], 8, .other, false⟩),
  (299, ⟨some (.int .i32), 1, false, [.b (.d (.int .i32) (0:Int))], 4, .int .i32, false⟩),
  (300, ⟨some (.int .i32), 1, false, [.b (.d (.int .i32) (0:Int))], 4, .int .i32, false⟩),
  (303, ⟨none, 1, false, [.undef], 8, .other, false⟩),
  (304, ⟨none, 1, false, [.undef], 8, .other, false⟩)]
theorem tabFits : TabFits Tryz.prog tab = true := by kernel_rfl
theorem tabEqs : eqsOK Tryz.prog tab = true := by kernel_rfl
theorem mixed : Tryz.prog.follows .mixedOrders = true := by kernel_rfl
def laws_szEntry.E : Env := { tab := tab, fns := [], ann := { own := [], ro := [2] } }
def laws_szEntry.an : An := { pre := [] }
def laws_szEntry.S : Spec := { ats := [.v TEntry, .v (.int .i64)], rts := [(.int .i64)], F := fun x => laws_szEntry x.1 x.2.1 }
theorem laws_szEntry.eq (lp : Nat) (x : ADens [.v TEntry, .v (.int .i64)]) : evalF (laws_szEntry.E) laws_szEntry.an lp Tryz.f129 [.v TEntry, .v (.int .i64)] [(.int .i64)] x = (laws_szEntry.S).F x := by kernel_rfl
theorem laws_szEntry.ok : Sound Tryz.prog 129 (laws_szEntry.S) := sound_of (E := laws_szEntry.E) (env_ok tabFits tabEqs trivial trivial) mixed Tryz.func129 (by kernel_rfl) (c := codeOf Tryz.f129) (by kernel_rfl) (by kernel_rfl) laws_szEntry.an (fun x r h => ⟨0, (laws_szEntry.eq 0 x).trans h⟩)
def laws_szEntryS.E (lp : Nat) : Env := { tab := tab, fns := [(129, laws_szEntry.S)], ann := { own := [], ro := [] } }
def laws_szEntryS.la5 : LoopAn := { kn := { tms := [0, 1, 5] }, kx := { tms := [1] }, kr := { tms := [4] } }
def laws_szEntryS.an : An := { loops := [(5, laws_szEntryS.la5)] }
def laws_szEntryS.s5 (x0 : List Entry) (x1 : Int) (x5 : Int) : St := ⟨.v (.one (.b (.d (.sl TEntry) x0))) :: .v (.one (.b (.d (.int .i64) x1))) :: (sk 3 (.v (.one (.b (.d (.int .i64) x5))) :: (sk 21 ([])))), sko 27 ([])⟩
def laws_szEntryS.sx5 (y : Int) : St := ⟨sk 1 (.v (.one (.b (.d (.int .i64) y))) :: (sk 25 ([]))), sko 27 ([])⟩
def laws_szEntryS.sr5 (z : Int) : St := ⟨sk 4 (.v (.one (.b (.d (.int .i64) z))) :: (sk 22 ([]))), sko 27 ([])⟩
def laws_szEntryS.S (lp : Nat) : Spec := { ats := [.v (.sl TEntry), .v (.int .i64)], rts := [(.int .i64)], F := fun x => laws_szEntryS lp x.1 x.2.1 }
theorem laws_szEntryS.t_b5 (lp : Nat) {R : Type} (N : St → Option R) (X : Out → St → Option R) (x0 : List Entry) (x1 : Int) (x5 : Int) : codeK (laws_szEntryS.E lp) laws_szEntryS.an lp (loopAt 5 (codeOf Tryz.f81)) (laws_szEntryS.s5 x0 x1 x5) (lpK laws_szEntryS.la5 N X) = laws_szEntryS.b5 lp (fun x0 x1 x5 => N (laws_szEntryS.s5 x0 x1 x5)) (fun y => X (.exit 0) (laws_szEntryS.sx5 y)) (fun z => X .ret (laws_szEntryS.sr5 z)) x0 x1 x5 := by kernel_rfl
theorem laws_szEntryS.n_b5 (lp : Nat) {R S : Type} (N : List Entry → Int → Int → Option R) (X : Int → Option R) (Q : Int → Option R) (x0 : List Entry) (x1 : Int) (x5 : Int) (k : R → Option S) : obind (laws_szEntryS.b5 lp N X Q x0 x1 x5) k = laws_szEntryS.b5 lp (fun x0 x1 x5 => obind (N x0 x1 x5) k) (fun y => obind (X y) k) (fun z => obind (Q z) k) x0 x1 x5 := by
  unfold laws_szEntryS.b5; simp only [obind_none, obind_some, obind_cond, obind_oif, obind_oget, obind_obind]
theorem laws_szEntryS.k5 (lp : Nat) {R : Type} (K : Out → St → Option R) : ∀ (n : Nat) (x0 : List Entry) (x1 : Int) (x5 : Int), loopK laws_szEntryS.la5 (fun σ K => codeK (laws_szEntryS.E lp) laws_szEntryS.an lp (loopAt 5 (codeOf Tryz.f81)) σ K) n (laws_szEntryS.s5 x0 x1 x5) K = obind (laws_szEntryS.l5 lp n x0 x1 x5) (leK 0 laws_szEntryS.sr5 laws_szEntryS.sx5 K) := by
  intro n
  induction n with
  | zero => intros; rfl
  | succ n ih =>
    intro x0 x1 x5
    rw [loopK_succ, laws_szEntryS.t_b5, laws_szEntryS.l5, laws_szEntryS.n_b5]
    simp only [ih, obind_some, leK_ret, leK_brk]
theorem laws_szEntryS.t_a5 (lp : Nat) (y : Int) : kont (R := Int) (laws_szEntryS.E lp) laws_szEntryS.an lp (finK (laws_szEntryS.E lp) Tryz.f81 [(.int .i64)]) (stkAt 5 (codeOf Tryz.f81)) (.exit 0) (laws_szEntryS.sx5 y) = laws_szEntryS.a5 lp y := by kernel_rfl
theorem laws_szEntryS.t_q5 (lp : Nat) (z : Int) : kont (R := Int) (laws_szEntryS.E lp) laws_szEntryS.an lp (finK (laws_szEntryS.E lp) Tryz.f81 [(.int .i64)]) (stkAt 5 (codeOf Tryz.f81)) .ret (laws_szEntryS.sr5 z) = laws_szEntryS.q5 lp z := by kernel_rfl
theorem laws_szEntryS.t_e (lp : Nat) (x0 : List Entry) (x1 : Int) : evalF (laws_szEntryS.E lp) laws_szEntryS.an lp Tryz.f81 [.v (.sl TEntry), .v (.int .i64)] [(.int .i64)] (x0, x1, ()) = laws_szEntryS.e lp (fun x0 x1 x5 => loopK laws_szEntryS.la5 (fun σ K => codeK (laws_szEntryS.E lp) laws_szEntryS.an lp (loopAt 5 (codeOf Tryz.f81)) σ K) lp (laws_szEntryS.s5 x0 x1 x5) (kont (laws_szEntryS.E lp) laws_szEntryS.an lp (finK (laws_szEntryS.E lp) Tryz.f81 [(.int .i64)]) (stkAt 5 (codeOf Tryz.f81)))) x0 x1 := by kernel_rfl
theorem laws_szEntryS.eq0 (lp : Nat) (x0 : List Entry) (x1 : Int) : evalF (laws_szEntryS.E lp) laws_szEntryS.an lp Tryz.f81 [.v (.sl TEntry), .v (.int .i64)] [(.int .i64)] (x0, x1, ()) = laws_szEntryS lp x0 x1 := by
  rw [laws_szEntryS.t_e]; unfold laws_szEntryS
  simp only [leK_leF _ laws_szEntryS.sr5 laws_szEntryS.sx5, laws_szEntryS.k5, laws_szEntryS.t_a5, laws_szEntryS.t_q5]
theorem laws_szEntryS.eq (lp : Nat) (x : ADens [.v (.sl TEntry), .v (.int .i64)]) : evalF (laws_szEntryS.E lp) laws_szEntryS.an lp Tryz.f81 [.v (.sl TEntry), .v (.int .i64)] [(.int .i64)] x = (laws_szEntryS.S lp).F x := laws_szEntryS.eq0 lp x.1 x.2.1
theorem laws_szEntryS.ok (lp : Nat) : Sound Tryz.prog 81 (laws_szEntryS.S lp) := sound_of (E := laws_szEntryS.E lp) (env_ok tabFits tabEqs ⟨laws_szEntry.ok, trivial⟩ trivial) mixed Tryz.func81 (by kernel_rfl) (c := codeOf Tryz.f81) (by kernel_rfl) (by kernel_rfl) laws_szEntryS.an (fun x r h => ⟨lp, (laws_szEntryS.eq lp x).trans h⟩)
def laws_szIntS.E : Env := { tab := tab, fns := [], ann := { own := [], ro := [] } }
def laws_szIntS.an : An := { pre := [] }
def laws_szIntS.S : Spec := { ats := [.v (.sl (.int .i64)), .v (.int .i64)], rts := [(.int .i64)], F := fun x => laws_szIntS x.1 x.2.1 }
theorem laws_szIntS.eq (lp : Nat) (x : ADens [.v (.sl (.int .i64)), .v (.int .i64)]) : evalF (laws_szIntS.E) laws_szIntS.an lp Tryz.f127 [.v (.sl (.int .i64)), .v (.int .i64)] [(.int .i64)] x = (laws_szIntS.S).F x := by kernel_rfl
theorem laws_szIntS.ok : Sound Tryz.prog 127 (laws_szIntS.S) := sound_of (E := laws_szIntS.E) (env_ok tabFits tabEqs trivial trivial) mixed Tryz.func127 (by kernel_rfl) (c := codeOf Tryz.f127) (by kernel_rfl) (by kernel_rfl) laws_szIntS.an (fun x r h => ⟨0, (laws_szIntS.eq 0 x).trans h⟩)
def laws_szCommit.E (lp : Nat) : Env := { tab := tab, fns := [(127, laws_szIntS.S), (81, laws_szEntryS.S lp)], ann := { own := [], ro := [2] } }
def laws_szCommit.an : An := { pre := [] }
def laws_szCommit.S (lp : Nat) : Spec := { ats := [.v TCommit, .v (.int .i64)], rts := [(.int .i64)], F := fun x => laws_szCommit lp x.1 x.2.1 }
theorem laws_szCommit.eq (lp : Nat) (x : ADens [.v TCommit, .v (.int .i64)]) : evalF (laws_szCommit.E lp) laws_szCommit.an lp Tryz.f78 [.v TCommit, .v (.int .i64)] [(.int .i64)] x = (laws_szCommit.S lp).F x := by kernel_rfl
theorem laws_szCommit.ok (lp : Nat) : Sound Tryz.prog 78 (laws_szCommit.S lp) := sound_of (E := laws_szCommit.E lp) (env_ok tabFits tabEqs ⟨laws_szIntS.ok, laws_szEntryS.ok lp, trivial⟩ trivial) mixed Tryz.func78 (by kernel_rfl) (c := codeOf Tryz.f78) (by kernel_rfl) (by kernel_rfl) laws_szCommit.an (fun x r h => ⟨lp, (laws_szCommit.eq lp x).trans h⟩)
def laws_szCommitS.E (lp : Nat) : Env := { tab := tab, fns := [(78, laws_szCommit.S lp)], ann := { own := [], ro := [] } }
def laws_szCommitS.la5 : LoopAn := { kn := { tms := [0, 1, 5] }, kx := { tms := [1] }, kr := { tms := [4] } }
def laws_szCommitS.an : An := { loops := [(5, laws_szCommitS.la5)] }
def laws_szCommitS.s5 (x0 : List Commit) (x1 : Int) (x5 : Int) : St := ⟨.v (.one (.b (.d (.sl TCommit) x0))) :: .v (.one (.b (.d (.int .i64) x1))) :: (sk 3 (.v (.one (.b (.d (.int .i64) x5))) :: (sk 21 ([])))), sko 27 ([])⟩
def laws_szCommitS.sx5 (y : Int) : St := ⟨sk 1 (.v (.one (.b (.d (.int .i64) y))) :: (sk 25 ([]))), sko 27 ([])⟩
def laws_szCommitS.sr5 (z : Int) : St := ⟨sk 4 (.v (.one (.b (.d (.int .i64) z))) :: (sk 22 ([]))), sko 27 ([])⟩
def laws_szCommitS.S (lp : Nat) : Spec := { ats := [.v (.sl TCommit), .v (.int .i64)], rts := [(.int .i64)], F := fun x => laws_szCommitS lp x.1 x.2.1 }
theorem laws_szCommitS.t_b5 (lp : Nat) {R : Type} (N : St → Option R) (X : Out → St → Option R) (x0 : List Commit) (x1 : Int) (x5 : Int) : codeK (laws_szCommitS.E lp) laws_szCommitS.an lp (loopAt 5 (codeOf Tryz.f45)) (laws_szCommitS.s5 x0 x1 x5) (lpK laws_szCommitS.la5 N X) = laws_szCommitS.b5 lp (fun x0 x1 x5 => N (laws_szCommitS.s5 x0 x1 x5)) (fun y => X (.exit 0) (laws_szCommitS.sx5 y)) (fun z => X .ret (laws_szCommitS.sr5 z)) x0 x1 x5 := by kernel_rfl
theorem laws_szCommitS.n_b5 (lp : Nat) {R S : Type} (N : List Commit → Int → Int → Option R) (X : Int → Option R) (Q : Int → Option R) (x0 : List Commit) (x1 : Int) (x5 : Int) (k : R → Option S) : obind (laws_szCommitS.b5 lp N X Q x0 x1 x5) k = laws_szCommitS.b5 lp (fun x0 x1 x5 => obind (N x0 x1 x5) k) (fun y => obind (X y) k) (fun z => obind (Q z) k) x0 x1 x5 := by
  unfold laws_szCommitS.b5; simp only [obind_none, obind_some, obind_cond, obind_oif, obind_oget, obind_obind]
theorem laws_szCommitS.k5 (lp : Nat) {R : Type} (K : Out → St → Option R) : ∀ (n : Nat) (x0 : List Commit) (x1 : Int) (x5 : Int), loopK laws_szCommitS.la5 (fun σ K => codeK (laws_szCommitS.E lp) laws_szCommitS.an lp (loopAt 5 (codeOf Tryz.f45)) σ K) n (laws_szCommitS.s5 x0 x1 x5) K = obind (laws_szCommitS.l5 lp n x0 x1 x5) (leK 0 laws_szCommitS.sr5 laws_szCommitS.sx5 K) := by
  intro n
  induction n with
  | zero => intros; rfl
  | succ n ih =>
    intro x0 x1 x5
    rw [loopK_succ, laws_szCommitS.t_b5, laws_szCommitS.l5, laws_szCommitS.n_b5]
    simp only [ih, obind_some, leK_ret, leK_brk]
theorem laws_szCommitS.t_a5 (lp : Nat) (y : Int) : kont (R := Int) (laws_szCommitS.E lp) laws_szCommitS.an lp (finK (laws_szCommitS.E lp) Tryz.f45 [(.int .i64)]) (stkAt 5 (codeOf Tryz.f45)) (.exit 0) (laws_szCommitS.sx5 y) = laws_szCommitS.a5 lp y := by kernel_rfl
theorem laws_szCommitS.t_q5 (lp : Nat) (z : Int) : kont (R := Int) (laws_szCommitS.E lp) laws_szCommitS.an lp (finK (laws_szCommitS.E lp) Tryz.f45 [(.int .i64)]) (stkAt 5 (codeOf Tryz.f45)) .ret (laws_szCommitS.sr5 z) = laws_szCommitS.q5 lp z := by kernel_rfl
theorem laws_szCommitS.t_e (lp : Nat) (x0 : List Commit) (x1 : Int) : evalF (laws_szCommitS.E lp) laws_szCommitS.an lp Tryz.f45 [.v (.sl TCommit), .v (.int .i64)] [(.int .i64)] (x0, x1, ()) = laws_szCommitS.e lp (fun x0 x1 x5 => loopK laws_szCommitS.la5 (fun σ K => codeK (laws_szCommitS.E lp) laws_szCommitS.an lp (loopAt 5 (codeOf Tryz.f45)) σ K) lp (laws_szCommitS.s5 x0 x1 x5) (kont (laws_szCommitS.E lp) laws_szCommitS.an lp (finK (laws_szCommitS.E lp) Tryz.f45 [(.int .i64)]) (stkAt 5 (codeOf Tryz.f45)))) x0 x1 := by kernel_rfl
theorem laws_szCommitS.eq0 (lp : Nat) (x0 : List Commit) (x1 : Int) : evalF (laws_szCommitS.E lp) laws_szCommitS.an lp Tryz.f45 [.v (.sl TCommit), .v (.int .i64)] [(.int .i64)] (x0, x1, ()) = laws_szCommitS lp x0 x1 := by
  rw [laws_szCommitS.t_e]; unfold laws_szCommitS
  simp only [leK_leF _ laws_szCommitS.sr5 laws_szCommitS.sx5, laws_szCommitS.k5, laws_szCommitS.t_a5, laws_szCommitS.t_q5]
theorem laws_szCommitS.eq (lp : Nat) (x : ADens [.v (.sl TCommit), .v (.int .i64)]) : evalF (laws_szCommitS.E lp) laws_szCommitS.an lp Tryz.f45 [.v (.sl TCommit), .v (.int .i64)] [(.int .i64)] x = (laws_szCommitS.S lp).F x := laws_szCommitS.eq0 lp x.1 x.2.1
theorem laws_szCommitS.ok (lp : Nat) : Sound Tryz.prog 45 (laws_szCommitS.S lp) := sound_of (E := laws_szCommitS.E lp) (env_ok tabFits tabEqs ⟨laws_szCommit.ok lp, trivial⟩ trivial) mixed Tryz.func45 (by kernel_rfl) (c := codeOf Tryz.f45) (by kernel_rfl) (by kernel_rfl) laws_szCommitS.an (fun x r h => ⟨lp, (laws_szCommitS.eq lp x).trans h⟩)
def laws_szRef.E : Env := { tab := tab, fns := [], ann := { own := [], ro := [2] } }
def laws_szRef.an : An := { pre := [] }
def laws_szRef.S : Spec := { ats := [.v TRef, .v (.int .i64)], rts := [(.int .i64)], F := fun x => laws_szRef x.1 x.2.1 }
theorem laws_szRef.eq (lp : Nat) (x : ADens [.v TRef, .v (.int .i64)]) : evalF (laws_szRef.E) laws_szRef.an lp Tryz.f79 [.v TRef, .v (.int .i64)] [(.int .i64)] x = (laws_szRef.S).F x := by kernel_rfl
theorem laws_szRef.ok : Sound Tryz.prog 79 (laws_szRef.S) := sound_of (E := laws_szRef.E) (env_ok tabFits tabEqs trivial trivial) mixed Tryz.func79 (by kernel_rfl) (c := codeOf Tryz.f79) (by kernel_rfl) (by kernel_rfl) laws_szRef.an (fun x r h => ⟨0, (laws_szRef.eq 0 x).trans h⟩)
def laws_szRefS.E (lp : Nat) : Env := { tab := tab, fns := [(79, laws_szRef.S)], ann := { own := [], ro := [] } }
def laws_szRefS.la5 : LoopAn := { kn := { tms := [0, 1, 5] }, kx := { tms := [1] }, kr := { tms := [4] } }
def laws_szRefS.an : An := { loops := [(5, laws_szRefS.la5)] }
def laws_szRefS.s5 (x0 : List Ref) (x1 : Int) (x5 : Int) : St := ⟨.v (.one (.b (.d (.sl TRef) x0))) :: .v (.one (.b (.d (.int .i64) x1))) :: (sk 3 (.v (.one (.b (.d (.int .i64) x5))) :: (sk 21 ([])))), sko 27 ([])⟩
def laws_szRefS.sx5 (y : Int) : St := ⟨sk 1 (.v (.one (.b (.d (.int .i64) y))) :: (sk 25 ([]))), sko 27 ([])⟩
def laws_szRefS.sr5 (z : Int) : St := ⟨sk 4 (.v (.one (.b (.d (.int .i64) z))) :: (sk 22 ([]))), sko 27 ([])⟩
def laws_szRefS.S (lp : Nat) : Spec := { ats := [.v (.sl TRef), .v (.int .i64)], rts := [(.int .i64)], F := fun x => laws_szRefS lp x.1 x.2.1 }
theorem laws_szRefS.t_b5 (lp : Nat) {R : Type} (N : St → Option R) (X : Out → St → Option R) (x0 : List Ref) (x1 : Int) (x5 : Int) : codeK (laws_szRefS.E lp) laws_szRefS.an lp (loopAt 5 (codeOf Tryz.f46)) (laws_szRefS.s5 x0 x1 x5) (lpK laws_szRefS.la5 N X) = laws_szRefS.b5 lp (fun x0 x1 x5 => N (laws_szRefS.s5 x0 x1 x5)) (fun y => X (.exit 0) (laws_szRefS.sx5 y)) (fun z => X .ret (laws_szRefS.sr5 z)) x0 x1 x5 := by kernel_rfl
theorem laws_szRefS.n_b5 (lp : Nat) {R S : Type} (N : List Ref → Int → Int → Option R) (X : Int → Option R) (Q : Int → Option R) (x0 : List Ref) (x1 : Int) (x5 : Int) (k : R → Option S) : obind (laws_szRefS.b5 lp N X Q x0 x1 x5) k = laws_szRefS.b5 lp (fun x0 x1 x5 => obind (N x0 x1 x5) k) (fun y => obind (X y) k) (fun z => obind (Q z) k) x0 x1 x5 := by
  unfold laws_szRefS.b5; simp only [obind_none, obind_some, obind_cond, obind_oif, obind_oget, obind_obind]
theorem laws_szRefS.k5 (lp : Nat) {R : Type} (K : Out → St → Option R) : ∀ (n : Nat) (x0 : List Ref) (x1 : Int) (x5 : Int), loopK laws_szRefS.la5 (fun σ K => codeK (laws_szRefS.E lp) laws_szRefS.an lp (loopAt 5 (codeOf Tryz.f46)) σ K) n (laws_szRefS.s5 x0 x1 x5) K = obind (laws_szRefS.l5 lp n x0 x1 x5) (leK 0 laws_szRefS.sr5 laws_szRefS.sx5 K) := by
  intro n
  induction n with
  | zero => intros; rfl
  | succ n ih =>
    intro x0 x1 x5
    rw [loopK_succ, laws_szRefS.t_b5, laws_szRefS.l5, laws_szRefS.n_b5]
    simp only [ih, obind_some, leK_ret, leK_brk]
theorem laws_szRefS.t_a5 (lp : Nat) (y : Int) : kont (R := Int) (laws_szRefS.E lp) laws_szRefS.an lp (finK (laws_szRefS.E lp) Tryz.f46 [(.int .i64)]) (stkAt 5 (codeOf Tryz.f46)) (.exit 0) (laws_szRefS.sx5 y) = laws_szRefS.a5 lp y := by kernel_rfl
theorem laws_szRefS.t_q5 (lp : Nat) (z : Int) : kont (R := Int) (laws_szRefS.E lp) laws_szRefS.an lp (finK (laws_szRefS.E lp) Tryz.f46 [(.int .i64)]) (stkAt 5 (codeOf Tryz.f46)) .ret (laws_szRefS.sr5 z) = laws_szRefS.q5 lp z := by kernel_rfl
theorem laws_szRefS.t_e (lp : Nat) (x0 : List Ref) (x1 : Int) : evalF (laws_szRefS.E lp) laws_szRefS.an lp Tryz.f46 [.v (.sl TRef), .v (.int .i64)] [(.int .i64)] (x0, x1, ()) = laws_szRefS.e lp (fun x0 x1 x5 => loopK laws_szRefS.la5 (fun σ K => codeK (laws_szRefS.E lp) laws_szRefS.an lp (loopAt 5 (codeOf Tryz.f46)) σ K) lp (laws_szRefS.s5 x0 x1 x5) (kont (laws_szRefS.E lp) laws_szRefS.an lp (finK (laws_szRefS.E lp) Tryz.f46 [(.int .i64)]) (stkAt 5 (codeOf Tryz.f46)))) x0 x1 := by kernel_rfl
theorem laws_szRefS.eq0 (lp : Nat) (x0 : List Ref) (x1 : Int) : evalF (laws_szRefS.E lp) laws_szRefS.an lp Tryz.f46 [.v (.sl TRef), .v (.int .i64)] [(.int .i64)] (x0, x1, ()) = laws_szRefS lp x0 x1 := by
  rw [laws_szRefS.t_e]; unfold laws_szRefS
  simp only [leK_leF _ laws_szRefS.sr5 laws_szRefS.sx5, laws_szRefS.k5, laws_szRefS.t_a5, laws_szRefS.t_q5]
theorem laws_szRefS.eq (lp : Nat) (x : ADens [.v (.sl TRef), .v (.int .i64)]) : evalF (laws_szRefS.E lp) laws_szRefS.an lp Tryz.f46 [.v (.sl TRef), .v (.int .i64)] [(.int .i64)] x = (laws_szRefS.S lp).F x := laws_szRefS.eq0 lp x.1 x.2.1
theorem laws_szRefS.ok (lp : Nat) : Sound Tryz.prog 46 (laws_szRefS.S lp) := sound_of (E := laws_szRefS.E lp) (env_ok tabFits tabEqs ⟨laws_szRef.ok, trivial⟩ trivial) mixed Tryz.func46 (by kernel_rfl) (c := codeOf Tryz.f46) (by kernel_rfl) (by kernel_rfl) laws_szRefS.an (fun x r h => ⟨lp, (laws_szRefS.eq lp x).trans h⟩)
def laws_szBase.E (lp : Nat) : Env := { tab := tab, fns := [(45, laws_szCommitS.S lp), (46, laws_szRefS.S lp)], ann := { own := [], ro := [2] } }
def laws_szBase.an : An := { pre := [] }
def laws_szBase.S (lp : Nat) : Spec := { ats := [.v TBase, .v (.int .i64)], rts := [(.int .i64)], F := fun x => laws_szBase lp x.1 x.2.1 }
theorem laws_szBase.eq (lp : Nat) (x : ADens [.v TBase, .v (.int .i64)]) : evalF (laws_szBase.E lp) laws_szBase.an lp Tryz.f22 [.v TBase, .v (.int .i64)] [(.int .i64)] x = (laws_szBase.S lp).F x := by kernel_rfl
theorem laws_szBase.ok (lp : Nat) : Sound Tryz.prog 22 (laws_szBase.S lp) := sound_of (E := laws_szBase.E lp) (env_ok tabFits tabEqs ⟨laws_szCommitS.ok lp, laws_szRefS.ok lp, trivial⟩ trivial) mixed Tryz.func22 (by kernel_rfl) (c := codeOf Tryz.f22) (by kernel_rfl) (by kernel_rfl) laws_szBase.an (fun x r h => ⟨lp, (laws_szBase.eq lp x).trans h⟩)
def laws_szEdit.E : Env := { tab := tab, fns := [], ann := { own := [], ro := [2] } }
def laws_szEdit.an : An := { pre := [] }
def laws_szEdit.S : Spec := { ats := [.v TEdit, .v (.int .i64)], rts := [(.int .i64)], F := fun x => laws_szEdit x.1 x.2.1 }
theorem laws_szEdit.eq (lp : Nat) (x : ADens [.v TEdit, .v (.int .i64)]) : evalF (laws_szEdit.E) laws_szEdit.an lp Tryz.f180 [.v TEdit, .v (.int .i64)] [(.int .i64)] x = (laws_szEdit.S).F x := by kernel_rfl
theorem laws_szEdit.ok : Sound Tryz.prog 180 (laws_szEdit.S) := sound_of (E := laws_szEdit.E) (env_ok tabFits tabEqs trivial trivial) mixed Tryz.func180 (by kernel_rfl) (c := codeOf Tryz.f180) (by kernel_rfl) (by kernel_rfl) laws_szEdit.an (fun x r h => ⟨0, (laws_szEdit.eq 0 x).trans h⟩)
def laws_szEditS.E (lp : Nat) : Env := { tab := tab, fns := [(180, laws_szEdit.S)], ann := { own := [], ro := [] } }
def laws_szEditS.la5 : LoopAn := { kn := { tms := [0, 1, 5] }, kx := { tms := [1] }, kr := { tms := [4] } }
def laws_szEditS.an : An := { loops := [(5, laws_szEditS.la5)] }
def laws_szEditS.s5 (x0 : List Edit) (x1 : Int) (x5 : Int) : St := ⟨.v (.one (.b (.d (.sl TEdit) x0))) :: .v (.one (.b (.d (.int .i64) x1))) :: (sk 3 (.v (.one (.b (.d (.int .i64) x5))) :: (sk 21 ([])))), sko 27 ([])⟩
def laws_szEditS.sx5 (y : Int) : St := ⟨sk 1 (.v (.one (.b (.d (.int .i64) y))) :: (sk 25 ([]))), sko 27 ([])⟩
def laws_szEditS.sr5 (z : Int) : St := ⟨sk 4 (.v (.one (.b (.d (.int .i64) z))) :: (sk 22 ([]))), sko 27 ([])⟩
def laws_szEditS.S (lp : Nat) : Spec := { ats := [.v (.sl TEdit), .v (.int .i64)], rts := [(.int .i64)], F := fun x => laws_szEditS lp x.1 x.2.1 }
theorem laws_szEditS.t_b5 (lp : Nat) {R : Type} (N : St → Option R) (X : Out → St → Option R) (x0 : List Edit) (x1 : Int) (x5 : Int) : codeK (laws_szEditS.E lp) laws_szEditS.an lp (loopAt 5 (codeOf Tryz.f130)) (laws_szEditS.s5 x0 x1 x5) (lpK laws_szEditS.la5 N X) = laws_szEditS.b5 lp (fun x0 x1 x5 => N (laws_szEditS.s5 x0 x1 x5)) (fun y => X (.exit 0) (laws_szEditS.sx5 y)) (fun z => X .ret (laws_szEditS.sr5 z)) x0 x1 x5 := by kernel_rfl
theorem laws_szEditS.n_b5 (lp : Nat) {R S : Type} (N : List Edit → Int → Int → Option R) (X : Int → Option R) (Q : Int → Option R) (x0 : List Edit) (x1 : Int) (x5 : Int) (k : R → Option S) : obind (laws_szEditS.b5 lp N X Q x0 x1 x5) k = laws_szEditS.b5 lp (fun x0 x1 x5 => obind (N x0 x1 x5) k) (fun y => obind (X y) k) (fun z => obind (Q z) k) x0 x1 x5 := by
  unfold laws_szEditS.b5; simp only [obind_none, obind_some, obind_cond, obind_oif, obind_oget, obind_obind]
theorem laws_szEditS.k5 (lp : Nat) {R : Type} (K : Out → St → Option R) : ∀ (n : Nat) (x0 : List Edit) (x1 : Int) (x5 : Int), loopK laws_szEditS.la5 (fun σ K => codeK (laws_szEditS.E lp) laws_szEditS.an lp (loopAt 5 (codeOf Tryz.f130)) σ K) n (laws_szEditS.s5 x0 x1 x5) K = obind (laws_szEditS.l5 lp n x0 x1 x5) (leK 0 laws_szEditS.sr5 laws_szEditS.sx5 K) := by
  intro n
  induction n with
  | zero => intros; rfl
  | succ n ih =>
    intro x0 x1 x5
    rw [loopK_succ, laws_szEditS.t_b5, laws_szEditS.l5, laws_szEditS.n_b5]
    simp only [ih, obind_some, leK_ret, leK_brk]
theorem laws_szEditS.t_a5 (lp : Nat) (y : Int) : kont (R := Int) (laws_szEditS.E lp) laws_szEditS.an lp (finK (laws_szEditS.E lp) Tryz.f130 [(.int .i64)]) (stkAt 5 (codeOf Tryz.f130)) (.exit 0) (laws_szEditS.sx5 y) = laws_szEditS.a5 lp y := by kernel_rfl
theorem laws_szEditS.t_q5 (lp : Nat) (z : Int) : kont (R := Int) (laws_szEditS.E lp) laws_szEditS.an lp (finK (laws_szEditS.E lp) Tryz.f130 [(.int .i64)]) (stkAt 5 (codeOf Tryz.f130)) .ret (laws_szEditS.sr5 z) = laws_szEditS.q5 lp z := by kernel_rfl
theorem laws_szEditS.t_e (lp : Nat) (x0 : List Edit) (x1 : Int) : evalF (laws_szEditS.E lp) laws_szEditS.an lp Tryz.f130 [.v (.sl TEdit), .v (.int .i64)] [(.int .i64)] (x0, x1, ()) = laws_szEditS.e lp (fun x0 x1 x5 => loopK laws_szEditS.la5 (fun σ K => codeK (laws_szEditS.E lp) laws_szEditS.an lp (loopAt 5 (codeOf Tryz.f130)) σ K) lp (laws_szEditS.s5 x0 x1 x5) (kont (laws_szEditS.E lp) laws_szEditS.an lp (finK (laws_szEditS.E lp) Tryz.f130 [(.int .i64)]) (stkAt 5 (codeOf Tryz.f130)))) x0 x1 := by kernel_rfl
theorem laws_szEditS.eq0 (lp : Nat) (x0 : List Edit) (x1 : Int) : evalF (laws_szEditS.E lp) laws_szEditS.an lp Tryz.f130 [.v (.sl TEdit), .v (.int .i64)] [(.int .i64)] (x0, x1, ()) = laws_szEditS lp x0 x1 := by
  rw [laws_szEditS.t_e]; unfold laws_szEditS
  simp only [leK_leF _ laws_szEditS.sr5 laws_szEditS.sx5, laws_szEditS.k5, laws_szEditS.t_a5, laws_szEditS.t_q5]
theorem laws_szEditS.eq (lp : Nat) (x : ADens [.v (.sl TEdit), .v (.int .i64)]) : evalF (laws_szEditS.E lp) laws_szEditS.an lp Tryz.f130 [.v (.sl TEdit), .v (.int .i64)] [(.int .i64)] x = (laws_szEditS.S lp).F x := laws_szEditS.eq0 lp x.1 x.2.1
theorem laws_szEditS.ok (lp : Nat) : Sound Tryz.prog 130 (laws_szEditS.S lp) := sound_of (E := laws_szEditS.E lp) (env_ok tabFits tabEqs ⟨laws_szEdit.ok, trivial⟩ trivial) mixed Tryz.func130 (by kernel_rfl) (c := codeOf Tryz.f130) (by kernel_rfl) (by kernel_rfl) laws_szEditS.an (fun x r h => ⟨lp, (laws_szEditS.eq lp x).trans h⟩)
def laws_szWish.E (lp : Nat) : Env := { tab := tab, fns := [(130, laws_szEditS.S lp)], ann := { own := [], ro := [2] } }
def laws_szWish.an : An := { pre := [] }
def laws_szWish.S (lp : Nat) : Spec := { ats := [.v TWish, .v (.int .i64)], rts := [(.int .i64)], F := fun x => laws_szWish lp x.1 x.2.1 }
theorem laws_szWish.eq (lp : Nat) (x : ADens [.v TWish, .v (.int .i64)]) : evalF (laws_szWish.E lp) laws_szWish.an lp Tryz.f128 [.v TWish, .v (.int .i64)] [(.int .i64)] x = (laws_szWish.S lp).F x := by kernel_rfl
theorem laws_szWish.ok (lp : Nat) : Sound Tryz.prog 128 (laws_szWish.S lp) := sound_of (E := laws_szWish.E lp) (env_ok tabFits tabEqs ⟨laws_szEditS.ok lp, trivial⟩ trivial) mixed Tryz.func128 (by kernel_rfl) (c := codeOf Tryz.f128) (by kernel_rfl) (by kernel_rfl) laws_szWish.an (fun x r h => ⟨lp, (laws_szWish.eq lp x).trans h⟩)
def laws_szWishS.E (lp : Nat) : Env := { tab := tab, fns := [(128, laws_szWish.S lp)], ann := { own := [], ro := [] } }
def laws_szWishS.la5 : LoopAn := { kn := { tms := [0, 1, 5] }, kx := { tms := [1] }, kr := { tms := [4] } }
def laws_szWishS.an : An := { loops := [(5, laws_szWishS.la5)] }
def laws_szWishS.s5 (x0 : List Wish) (x1 : Int) (x5 : Int) : St := ⟨.v (.one (.b (.d (.sl TWish) x0))) :: .v (.one (.b (.d (.int .i64) x1))) :: (sk 3 (.v (.one (.b (.d (.int .i64) x5))) :: (sk 21 ([])))), sko 27 ([])⟩
def laws_szWishS.sx5 (y : Int) : St := ⟨sk 1 (.v (.one (.b (.d (.int .i64) y))) :: (sk 25 ([]))), sko 27 ([])⟩
def laws_szWishS.sr5 (z : Int) : St := ⟨sk 4 (.v (.one (.b (.d (.int .i64) z))) :: (sk 22 ([]))), sko 27 ([])⟩
def laws_szWishS.S (lp : Nat) : Spec := { ats := [.v (.sl TWish), .v (.int .i64)], rts := [(.int .i64)], F := fun x => laws_szWishS lp x.1 x.2.1 }
theorem laws_szWishS.t_b5 (lp : Nat) {R : Type} (N : St → Option R) (X : Out → St → Option R) (x0 : List Wish) (x1 : Int) (x5 : Int) : codeK (laws_szWishS.E lp) laws_szWishS.an lp (loopAt 5 (codeOf Tryz.f80)) (laws_szWishS.s5 x0 x1 x5) (lpK laws_szWishS.la5 N X) = laws_szWishS.b5 lp (fun x0 x1 x5 => N (laws_szWishS.s5 x0 x1 x5)) (fun y => X (.exit 0) (laws_szWishS.sx5 y)) (fun z => X .ret (laws_szWishS.sr5 z)) x0 x1 x5 := by kernel_rfl
theorem laws_szWishS.n_b5 (lp : Nat) {R S : Type} (N : List Wish → Int → Int → Option R) (X : Int → Option R) (Q : Int → Option R) (x0 : List Wish) (x1 : Int) (x5 : Int) (k : R → Option S) : obind (laws_szWishS.b5 lp N X Q x0 x1 x5) k = laws_szWishS.b5 lp (fun x0 x1 x5 => obind (N x0 x1 x5) k) (fun y => obind (X y) k) (fun z => obind (Q z) k) x0 x1 x5 := by
  unfold laws_szWishS.b5; simp only [obind_none, obind_some, obind_cond, obind_oif, obind_oget, obind_obind]
theorem laws_szWishS.k5 (lp : Nat) {R : Type} (K : Out → St → Option R) : ∀ (n : Nat) (x0 : List Wish) (x1 : Int) (x5 : Int), loopK laws_szWishS.la5 (fun σ K => codeK (laws_szWishS.E lp) laws_szWishS.an lp (loopAt 5 (codeOf Tryz.f80)) σ K) n (laws_szWishS.s5 x0 x1 x5) K = obind (laws_szWishS.l5 lp n x0 x1 x5) (leK 0 laws_szWishS.sr5 laws_szWishS.sx5 K) := by
  intro n
  induction n with
  | zero => intros; rfl
  | succ n ih =>
    intro x0 x1 x5
    rw [loopK_succ, laws_szWishS.t_b5, laws_szWishS.l5, laws_szWishS.n_b5]
    simp only [ih, obind_some, leK_ret, leK_brk]
theorem laws_szWishS.t_a5 (lp : Nat) (y : Int) : kont (R := Int) (laws_szWishS.E lp) laws_szWishS.an lp (finK (laws_szWishS.E lp) Tryz.f80 [(.int .i64)]) (stkAt 5 (codeOf Tryz.f80)) (.exit 0) (laws_szWishS.sx5 y) = laws_szWishS.a5 lp y := by kernel_rfl
theorem laws_szWishS.t_q5 (lp : Nat) (z : Int) : kont (R := Int) (laws_szWishS.E lp) laws_szWishS.an lp (finK (laws_szWishS.E lp) Tryz.f80 [(.int .i64)]) (stkAt 5 (codeOf Tryz.f80)) .ret (laws_szWishS.sr5 z) = laws_szWishS.q5 lp z := by kernel_rfl
theorem laws_szWishS.t_e (lp : Nat) (x0 : List Wish) (x1 : Int) : evalF (laws_szWishS.E lp) laws_szWishS.an lp Tryz.f80 [.v (.sl TWish), .v (.int .i64)] [(.int .i64)] (x0, x1, ()) = laws_szWishS.e lp (fun x0 x1 x5 => loopK laws_szWishS.la5 (fun σ K => codeK (laws_szWishS.E lp) laws_szWishS.an lp (loopAt 5 (codeOf Tryz.f80)) σ K) lp (laws_szWishS.s5 x0 x1 x5) (kont (laws_szWishS.E lp) laws_szWishS.an lp (finK (laws_szWishS.E lp) Tryz.f80 [(.int .i64)]) (stkAt 5 (codeOf Tryz.f80)))) x0 x1 := by kernel_rfl
theorem laws_szWishS.eq0 (lp : Nat) (x0 : List Wish) (x1 : Int) : evalF (laws_szWishS.E lp) laws_szWishS.an lp Tryz.f80 [.v (.sl TWish), .v (.int .i64)] [(.int .i64)] (x0, x1, ()) = laws_szWishS lp x0 x1 := by
  rw [laws_szWishS.t_e]; unfold laws_szWishS
  simp only [leK_leF _ laws_szWishS.sr5 laws_szWishS.sx5, laws_szWishS.k5, laws_szWishS.t_a5, laws_szWishS.t_q5]
theorem laws_szWishS.eq (lp : Nat) (x : ADens [.v (.sl TWish), .v (.int .i64)]) : evalF (laws_szWishS.E lp) laws_szWishS.an lp Tryz.f80 [.v (.sl TWish), .v (.int .i64)] [(.int .i64)] x = (laws_szWishS.S lp).F x := laws_szWishS.eq0 lp x.1 x.2.1
theorem laws_szWishS.ok (lp : Nat) : Sound Tryz.prog 80 (laws_szWishS.S lp) := sound_of (E := laws_szWishS.E lp) (env_ok tabFits tabEqs ⟨laws_szWish.ok lp, trivial⟩ trivial) mixed Tryz.func80 (by kernel_rfl) (c := codeOf Tryz.f80) (by kernel_rfl) (by kernel_rfl) laws_szWishS.an (fun x r h => ⟨lp, (laws_szWishS.eq lp x).trans h⟩)
def laws_szClient.E (lp : Nat) : Env := { tab := tab, fns := [(80, laws_szWishS.S lp), (81, laws_szEntryS.S lp)], ann := { own := [], ro := [2] } }
def laws_szClient.an : An := { pre := [] }
def laws_szClient.S (lp : Nat) : Spec := { ats := [.v TClient, .v (.int .i64)], rts := [(.int .i64)], F := fun x => laws_szClient lp x.1 x.2.1 }
theorem laws_szClient.eq (lp : Nat) (x : ADens [.v TClient, .v (.int .i64)]) : evalF (laws_szClient.E lp) laws_szClient.an lp Tryz.f47 [.v TClient, .v (.int .i64)] [(.int .i64)] x = (laws_szClient.S lp).F x := by kernel_rfl
theorem laws_szClient.ok (lp : Nat) : Sound Tryz.prog 47 (laws_szClient.S lp) := sound_of (E := laws_szClient.E lp) (env_ok tabFits tabEqs ⟨laws_szWishS.ok lp, laws_szEntryS.ok lp, trivial⟩ trivial) mixed Tryz.func47 (by kernel_rfl) (c := codeOf Tryz.f47) (by kernel_rfl) (by kernel_rfl) laws_szClient.an (fun x r h => ⟨lp, (laws_szClient.eq lp x).trans h⟩)
def laws_szClientS.E (lp : Nat) : Env := { tab := tab, fns := [(47, laws_szClient.S lp)], ann := { own := [], ro := [] } }
def laws_szClientS.la5 : LoopAn := { kn := { tms := [0, 1, 5] }, kx := { tms := [1] }, kr := { tms := [4] } }
def laws_szClientS.an : An := { loops := [(5, laws_szClientS.la5)] }
def laws_szClientS.s5 (x0 : List Client) (x1 : Int) (x5 : Int) : St := ⟨.v (.one (.b (.d (.sl TClient) x0))) :: .v (.one (.b (.d (.int .i64) x1))) :: (sk 3 (.v (.one (.b (.d (.int .i64) x5))) :: (sk 21 ([])))), sko 27 ([])⟩
def laws_szClientS.sx5 (y : Int) : St := ⟨sk 1 (.v (.one (.b (.d (.int .i64) y))) :: (sk 25 ([]))), sko 27 ([])⟩
def laws_szClientS.sr5 (z : Int) : St := ⟨sk 4 (.v (.one (.b (.d (.int .i64) z))) :: (sk 22 ([]))), sko 27 ([])⟩
def laws_szClientS.S (lp : Nat) : Spec := { ats := [.v (.sl TClient), .v (.int .i64)], rts := [(.int .i64)], F := fun x => laws_szClientS lp x.1 x.2.1 }
theorem laws_szClientS.t_b5 (lp : Nat) {R : Type} (N : St → Option R) (X : Out → St → Option R) (x0 : List Client) (x1 : Int) (x5 : Int) : codeK (laws_szClientS.E lp) laws_szClientS.an lp (loopAt 5 (codeOf Tryz.f23)) (laws_szClientS.s5 x0 x1 x5) (lpK laws_szClientS.la5 N X) = laws_szClientS.b5 lp (fun x0 x1 x5 => N (laws_szClientS.s5 x0 x1 x5)) (fun y => X (.exit 0) (laws_szClientS.sx5 y)) (fun z => X .ret (laws_szClientS.sr5 z)) x0 x1 x5 := by kernel_rfl
theorem laws_szClientS.n_b5 (lp : Nat) {R S : Type} (N : List Client → Int → Int → Option R) (X : Int → Option R) (Q : Int → Option R) (x0 : List Client) (x1 : Int) (x5 : Int) (k : R → Option S) : obind (laws_szClientS.b5 lp N X Q x0 x1 x5) k = laws_szClientS.b5 lp (fun x0 x1 x5 => obind (N x0 x1 x5) k) (fun y => obind (X y) k) (fun z => obind (Q z) k) x0 x1 x5 := by
  unfold laws_szClientS.b5; simp only [obind_none, obind_some, obind_cond, obind_oif, obind_oget, obind_obind]
theorem laws_szClientS.k5 (lp : Nat) {R : Type} (K : Out → St → Option R) : ∀ (n : Nat) (x0 : List Client) (x1 : Int) (x5 : Int), loopK laws_szClientS.la5 (fun σ K => codeK (laws_szClientS.E lp) laws_szClientS.an lp (loopAt 5 (codeOf Tryz.f23)) σ K) n (laws_szClientS.s5 x0 x1 x5) K = obind (laws_szClientS.l5 lp n x0 x1 x5) (leK 0 laws_szClientS.sr5 laws_szClientS.sx5 K) := by
  intro n
  induction n with
  | zero => intros; rfl
  | succ n ih =>
    intro x0 x1 x5
    rw [loopK_succ, laws_szClientS.t_b5, laws_szClientS.l5, laws_szClientS.n_b5]
    simp only [ih, obind_some, leK_ret, leK_brk]
theorem laws_szClientS.t_a5 (lp : Nat) (y : Int) : kont (R := Int) (laws_szClientS.E lp) laws_szClientS.an lp (finK (laws_szClientS.E lp) Tryz.f23 [(.int .i64)]) (stkAt 5 (codeOf Tryz.f23)) (.exit 0) (laws_szClientS.sx5 y) = laws_szClientS.a5 lp y := by kernel_rfl
theorem laws_szClientS.t_q5 (lp : Nat) (z : Int) : kont (R := Int) (laws_szClientS.E lp) laws_szClientS.an lp (finK (laws_szClientS.E lp) Tryz.f23 [(.int .i64)]) (stkAt 5 (codeOf Tryz.f23)) .ret (laws_szClientS.sr5 z) = laws_szClientS.q5 lp z := by kernel_rfl
theorem laws_szClientS.t_e (lp : Nat) (x0 : List Client) (x1 : Int) : evalF (laws_szClientS.E lp) laws_szClientS.an lp Tryz.f23 [.v (.sl TClient), .v (.int .i64)] [(.int .i64)] (x0, x1, ()) = laws_szClientS.e lp (fun x0 x1 x5 => loopK laws_szClientS.la5 (fun σ K => codeK (laws_szClientS.E lp) laws_szClientS.an lp (loopAt 5 (codeOf Tryz.f23)) σ K) lp (laws_szClientS.s5 x0 x1 x5) (kont (laws_szClientS.E lp) laws_szClientS.an lp (finK (laws_szClientS.E lp) Tryz.f23 [(.int .i64)]) (stkAt 5 (codeOf Tryz.f23)))) x0 x1 := by kernel_rfl
theorem laws_szClientS.eq0 (lp : Nat) (x0 : List Client) (x1 : Int) : evalF (laws_szClientS.E lp) laws_szClientS.an lp Tryz.f23 [.v (.sl TClient), .v (.int .i64)] [(.int .i64)] (x0, x1, ()) = laws_szClientS lp x0 x1 := by
  rw [laws_szClientS.t_e]; unfold laws_szClientS
  simp only [leK_leF _ laws_szClientS.sr5 laws_szClientS.sx5, laws_szClientS.k5, laws_szClientS.t_a5, laws_szClientS.t_q5]
theorem laws_szClientS.eq (lp : Nat) (x : ADens [.v (.sl TClient), .v (.int .i64)]) : evalF (laws_szClientS.E lp) laws_szClientS.an lp Tryz.f23 [.v (.sl TClient), .v (.int .i64)] [(.int .i64)] x = (laws_szClientS.S lp).F x := laws_szClientS.eq0 lp x.1 x.2.1
theorem laws_szClientS.ok (lp : Nat) : Sound Tryz.prog 23 (laws_szClientS.S lp) := sound_of (E := laws_szClientS.E lp) (env_ok tabFits tabEqs ⟨laws_szClient.ok lp, trivial⟩ trivial) mixed Tryz.func23 (by kernel_rfl) (c := codeOf Tryz.f23) (by kernel_rfl) (by kernel_rfl) laws_szClientS.an (fun x r h => ⟨lp, (laws_szClientS.eq lp x).trans h⟩)
def laws_szEventS.E : Env := { tab := tab, fns := [], ann := { own := [], ro := [] } }
def laws_szEventS.an : An := { pre := [] }
def laws_szEventS.S : Spec := { ats := [.v (.sl TEvent), .v (.int .i64)], rts := [(.int .i64)], F := fun x => laws_szEventS x.1 x.2.1 }
theorem laws_szEventS.eq (lp : Nat) (x : ADens [.v (.sl TEvent), .v (.int .i64)]) : evalF (laws_szEventS.E) laws_szEventS.an lp Tryz.f82 [.v (.sl TEvent), .v (.int .i64)] [(.int .i64)] x = (laws_szEventS.S).F x := by kernel_rfl
theorem laws_szEventS.ok : Sound Tryz.prog 82 (laws_szEventS.S) := sound_of (E := laws_szEventS.E) (env_ok tabFits tabEqs trivial trivial) mixed Tryz.func82 (by kernel_rfl) (c := codeOf Tryz.f82) (by kernel_rfl) (by kernel_rfl) laws_szEventS.an (fun x r h => ⟨0, (laws_szEventS.eq 0 x).trans h⟩)
def laws_szWatch.E : Env := { tab := tab, fns := [(82, laws_szEventS.S)], ann := { own := [], ro := [2] } }
def laws_szWatch.an : An := { pre := [] }
def laws_szWatch.S : Spec := { ats := [.v TWatch, .v (.int .i64)], rts := [(.int .i64)], F := fun x => laws_szWatch x.1 x.2.1 }
theorem laws_szWatch.eq (lp : Nat) (x : ADens [.v TWatch, .v (.int .i64)]) : evalF (laws_szWatch.E) laws_szWatch.an lp Tryz.f48 [.v TWatch, .v (.int .i64)] [(.int .i64)] x = (laws_szWatch.S).F x := by kernel_rfl
theorem laws_szWatch.ok : Sound Tryz.prog 48 (laws_szWatch.S) := sound_of (E := laws_szWatch.E) (env_ok tabFits tabEqs ⟨laws_szEventS.ok, trivial⟩ trivial) mixed Tryz.func48 (by kernel_rfl) (c := codeOf Tryz.f48) (by kernel_rfl) (by kernel_rfl) laws_szWatch.an (fun x r h => ⟨0, (laws_szWatch.eq 0 x).trans h⟩)
def laws_szWatchS.E (lp : Nat) : Env := { tab := tab, fns := [(48, laws_szWatch.S)], ann := { own := [], ro := [] } }
def laws_szWatchS.la5 : LoopAn := { kn := { tms := [0, 1, 5] }, kx := { tms := [1] }, kr := { tms := [4] } }
def laws_szWatchS.an : An := { loops := [(5, laws_szWatchS.la5)] }
def laws_szWatchS.s5 (x0 : List Watch) (x1 : Int) (x5 : Int) : St := ⟨.v (.one (.b (.d (.sl TWatch) x0))) :: .v (.one (.b (.d (.int .i64) x1))) :: (sk 3 (.v (.one (.b (.d (.int .i64) x5))) :: (sk 21 ([])))), sko 27 ([])⟩
def laws_szWatchS.sx5 (y : Int) : St := ⟨sk 1 (.v (.one (.b (.d (.int .i64) y))) :: (sk 25 ([]))), sko 27 ([])⟩
def laws_szWatchS.sr5 (z : Int) : St := ⟨sk 4 (.v (.one (.b (.d (.int .i64) z))) :: (sk 22 ([]))), sko 27 ([])⟩
def laws_szWatchS.S (lp : Nat) : Spec := { ats := [.v (.sl TWatch), .v (.int .i64)], rts := [(.int .i64)], F := fun x => laws_szWatchS lp x.1 x.2.1 }
theorem laws_szWatchS.t_b5 (lp : Nat) {R : Type} (N : St → Option R) (X : Out → St → Option R) (x0 : List Watch) (x1 : Int) (x5 : Int) : codeK (laws_szWatchS.E lp) laws_szWatchS.an lp (loopAt 5 (codeOf Tryz.f24)) (laws_szWatchS.s5 x0 x1 x5) (lpK laws_szWatchS.la5 N X) = laws_szWatchS.b5 lp (fun x0 x1 x5 => N (laws_szWatchS.s5 x0 x1 x5)) (fun y => X (.exit 0) (laws_szWatchS.sx5 y)) (fun z => X .ret (laws_szWatchS.sr5 z)) x0 x1 x5 := by kernel_rfl
theorem laws_szWatchS.n_b5 (lp : Nat) {R S : Type} (N : List Watch → Int → Int → Option R) (X : Int → Option R) (Q : Int → Option R) (x0 : List Watch) (x1 : Int) (x5 : Int) (k : R → Option S) : obind (laws_szWatchS.b5 lp N X Q x0 x1 x5) k = laws_szWatchS.b5 lp (fun x0 x1 x5 => obind (N x0 x1 x5) k) (fun y => obind (X y) k) (fun z => obind (Q z) k) x0 x1 x5 := by
  unfold laws_szWatchS.b5; simp only [obind_none, obind_some, obind_cond, obind_oif, obind_oget, obind_obind]
theorem laws_szWatchS.k5 (lp : Nat) {R : Type} (K : Out → St → Option R) : ∀ (n : Nat) (x0 : List Watch) (x1 : Int) (x5 : Int), loopK laws_szWatchS.la5 (fun σ K => codeK (laws_szWatchS.E lp) laws_szWatchS.an lp (loopAt 5 (codeOf Tryz.f24)) σ K) n (laws_szWatchS.s5 x0 x1 x5) K = obind (laws_szWatchS.l5 lp n x0 x1 x5) (leK 0 laws_szWatchS.sr5 laws_szWatchS.sx5 K) := by
  intro n
  induction n with
  | zero => intros; rfl
  | succ n ih =>
    intro x0 x1 x5
    rw [loopK_succ, laws_szWatchS.t_b5, laws_szWatchS.l5, laws_szWatchS.n_b5]
    simp only [ih, obind_some, leK_ret, leK_brk]
theorem laws_szWatchS.t_a5 (lp : Nat) (y : Int) : kont (R := Int) (laws_szWatchS.E lp) laws_szWatchS.an lp (finK (laws_szWatchS.E lp) Tryz.f24 [(.int .i64)]) (stkAt 5 (codeOf Tryz.f24)) (.exit 0) (laws_szWatchS.sx5 y) = laws_szWatchS.a5 lp y := by kernel_rfl
theorem laws_szWatchS.t_q5 (lp : Nat) (z : Int) : kont (R := Int) (laws_szWatchS.E lp) laws_szWatchS.an lp (finK (laws_szWatchS.E lp) Tryz.f24 [(.int .i64)]) (stkAt 5 (codeOf Tryz.f24)) .ret (laws_szWatchS.sr5 z) = laws_szWatchS.q5 lp z := by kernel_rfl
theorem laws_szWatchS.t_e (lp : Nat) (x0 : List Watch) (x1 : Int) : evalF (laws_szWatchS.E lp) laws_szWatchS.an lp Tryz.f24 [.v (.sl TWatch), .v (.int .i64)] [(.int .i64)] (x0, x1, ()) = laws_szWatchS.e lp (fun x0 x1 x5 => loopK laws_szWatchS.la5 (fun σ K => codeK (laws_szWatchS.E lp) laws_szWatchS.an lp (loopAt 5 (codeOf Tryz.f24)) σ K) lp (laws_szWatchS.s5 x0 x1 x5) (kont (laws_szWatchS.E lp) laws_szWatchS.an lp (finK (laws_szWatchS.E lp) Tryz.f24 [(.int .i64)]) (stkAt 5 (codeOf Tryz.f24)))) x0 x1 := by kernel_rfl
theorem laws_szWatchS.eq0 (lp : Nat) (x0 : List Watch) (x1 : Int) : evalF (laws_szWatchS.E lp) laws_szWatchS.an lp Tryz.f24 [.v (.sl TWatch), .v (.int .i64)] [(.int .i64)] (x0, x1, ()) = laws_szWatchS lp x0 x1 := by
  rw [laws_szWatchS.t_e]; unfold laws_szWatchS
  simp only [leK_leF _ laws_szWatchS.sr5 laws_szWatchS.sx5, laws_szWatchS.k5, laws_szWatchS.t_a5, laws_szWatchS.t_q5]
theorem laws_szWatchS.eq (lp : Nat) (x : ADens [.v (.sl TWatch), .v (.int .i64)]) : evalF (laws_szWatchS.E lp) laws_szWatchS.an lp Tryz.f24 [.v (.sl TWatch), .v (.int .i64)] [(.int .i64)] x = (laws_szWatchS.S lp).F x := laws_szWatchS.eq0 lp x.1 x.2.1
theorem laws_szWatchS.ok (lp : Nat) : Sound Tryz.prog 24 (laws_szWatchS.S lp) := sound_of (E := laws_szWatchS.E lp) (env_ok tabFits tabEqs ⟨laws_szWatch.ok, trivial⟩ trivial) mixed Tryz.func24 (by kernel_rfl) (c := codeOf Tryz.f24) (by kernel_rfl) (by kernel_rfl) laws_szWatchS.an (fun x r h => ⟨lp, (laws_szWatchS.eq lp x).trans h⟩)
def laws_szOp.E (lp : Nat) : Env := { tab := tab, fns := [(130, laws_szEditS.S lp)], ann := { own := [], ro := [2] } }
def laws_szOp.an : An := { pre := [] }
def laws_szOp.S (lp : Nat) : Spec := { ats := [.v TOp, .v (.int .i64)], rts := [(.int .i64)], F := fun x => laws_szOp lp x.1 x.2.1 }
theorem laws_szOp.eq (lp : Nat) (x : ADens [.v TOp, .v (.int .i64)]) : evalF (laws_szOp.E lp) laws_szOp.an lp Tryz.f83 [.v TOp, .v (.int .i64)] [(.int .i64)] x = (laws_szOp.S lp).F x := by kernel_rfl
theorem laws_szOp.ok (lp : Nat) : Sound Tryz.prog 83 (laws_szOp.S lp) := sound_of (E := laws_szOp.E lp) (env_ok tabFits tabEqs ⟨laws_szEditS.ok lp, trivial⟩ trivial) mixed Tryz.func83 (by kernel_rfl) (c := codeOf Tryz.f83) (by kernel_rfl) (by kernel_rfl) laws_szOp.an (fun x r h => ⟨lp, (laws_szOp.eq lp x).trans h⟩)
def laws_szStringS.E (lp : Nat) : Env := { tab := tab, fns := [], ann := { own := [], ro := [] } }
def laws_szStringS.la5 : LoopAn := { kn := { tms := [0, 1, 5] }, kx := { tms := [1] }, kr := { tms := [4] } }
def laws_szStringS.an : An := { loops := [(5, laws_szStringS.la5)] }
def laws_szStringS.s5 (x0 : List ByteArray) (x1 : Int) (x5 : Int) : St := ⟨.v (.one (.b (.d (.sl .str) x0))) :: .v (.one (.b (.d (.int .i64) x1))) :: (sk 3 (.v (.one (.b (.d (.int .i64) x5))) :: (sk 22 ([])))), sko 28 ([])⟩
def laws_szStringS.sx5 (y : Int) : St := ⟨sk 1 (.v (.one (.b (.d (.int .i64) y))) :: (sk 26 ([]))), sko 28 ([])⟩
def laws_szStringS.sr5 (z : Int) : St := ⟨sk 4 (.v (.one (.b (.d (.int .i64) z))) :: (sk 23 ([]))), sko 28 ([])⟩
def laws_szStringS.S (lp : Nat) : Spec := { ats := [.v (.sl .str), .v (.int .i64)], rts := [(.int .i64)], F := fun x => laws_szStringS lp x.1 x.2.1 }
theorem laws_szStringS.t_b5 (lp : Nat) {R : Type} (N : St → Option R) (X : Out → St → Option R) (x0 : List ByteArray) (x1 : Int) (x5 : Int) : codeK (laws_szStringS.E lp) laws_szStringS.an lp (loopAt 5 (codeOf Tryz.f131)) (laws_szStringS.s5 x0 x1 x5) (lpK laws_szStringS.la5 N X) = laws_szStringS.b5 lp (fun x0 x1 x5 => N (laws_szStringS.s5 x0 x1 x5)) (fun y => X (.exit 0) (laws_szStringS.sx5 y)) (fun z => X .ret (laws_szStringS.sr5 z)) x0 x1 x5 := by kernel_rfl
theorem laws_szStringS.n_b5 (lp : Nat) {R S : Type} (N : List ByteArray → Int → Int → Option R) (X : Int → Option R) (Q : Int → Option R) (x0 : List ByteArray) (x1 : Int) (x5 : Int) (k : R → Option S) : obind (laws_szStringS.b5 lp N X Q x0 x1 x5) k = laws_szStringS.b5 lp (fun x0 x1 x5 => obind (N x0 x1 x5) k) (fun y => obind (X y) k) (fun z => obind (Q z) k) x0 x1 x5 := by
  unfold laws_szStringS.b5; simp only [obind_none, obind_some, obind_cond, obind_oif, obind_oget, obind_obind]
theorem laws_szStringS.k5 (lp : Nat) {R : Type} (K : Out → St → Option R) : ∀ (n : Nat) (x0 : List ByteArray) (x1 : Int) (x5 : Int), loopK laws_szStringS.la5 (fun σ K => codeK (laws_szStringS.E lp) laws_szStringS.an lp (loopAt 5 (codeOf Tryz.f131)) σ K) n (laws_szStringS.s5 x0 x1 x5) K = obind (laws_szStringS.l5 lp n x0 x1 x5) (leK 0 laws_szStringS.sr5 laws_szStringS.sx5 K) := by
  intro n
  induction n with
  | zero => intros; rfl
  | succ n ih =>
    intro x0 x1 x5
    rw [loopK_succ, laws_szStringS.t_b5, laws_szStringS.l5, laws_szStringS.n_b5]
    simp only [ih, obind_some, leK_ret, leK_brk]
theorem laws_szStringS.t_a5 (lp : Nat) (y : Int) : kont (R := Int) (laws_szStringS.E lp) laws_szStringS.an lp (finK (laws_szStringS.E lp) Tryz.f131 [(.int .i64)]) (stkAt 5 (codeOf Tryz.f131)) (.exit 0) (laws_szStringS.sx5 y) = laws_szStringS.a5 lp y := by kernel_rfl
theorem laws_szStringS.t_q5 (lp : Nat) (z : Int) : kont (R := Int) (laws_szStringS.E lp) laws_szStringS.an lp (finK (laws_szStringS.E lp) Tryz.f131 [(.int .i64)]) (stkAt 5 (codeOf Tryz.f131)) .ret (laws_szStringS.sr5 z) = laws_szStringS.q5 lp z := by kernel_rfl
theorem laws_szStringS.t_e (lp : Nat) (x0 : List ByteArray) (x1 : Int) : evalF (laws_szStringS.E lp) laws_szStringS.an lp Tryz.f131 [.v (.sl .str), .v (.int .i64)] [(.int .i64)] (x0, x1, ()) = laws_szStringS.e lp (fun x0 x1 x5 => loopK laws_szStringS.la5 (fun σ K => codeK (laws_szStringS.E lp) laws_szStringS.an lp (loopAt 5 (codeOf Tryz.f131)) σ K) lp (laws_szStringS.s5 x0 x1 x5) (kont (laws_szStringS.E lp) laws_szStringS.an lp (finK (laws_szStringS.E lp) Tryz.f131 [(.int .i64)]) (stkAt 5 (codeOf Tryz.f131)))) x0 x1 := by kernel_rfl
theorem laws_szStringS.eq0 (lp : Nat) (x0 : List ByteArray) (x1 : Int) : evalF (laws_szStringS.E lp) laws_szStringS.an lp Tryz.f131 [.v (.sl .str), .v (.int .i64)] [(.int .i64)] (x0, x1, ()) = laws_szStringS lp x0 x1 := by
  rw [laws_szStringS.t_e]; unfold laws_szStringS
  simp only [leK_leF _ laws_szStringS.sr5 laws_szStringS.sx5, laws_szStringS.k5, laws_szStringS.t_a5, laws_szStringS.t_q5]
theorem laws_szStringS.eq (lp : Nat) (x : ADens [.v (.sl .str), .v (.int .i64)]) : evalF (laws_szStringS.E lp) laws_szStringS.an lp Tryz.f131 [.v (.sl .str), .v (.int .i64)] [(.int .i64)] x = (laws_szStringS.S lp).F x := laws_szStringS.eq0 lp x.1 x.2.1
theorem laws_szStringS.ok (lp : Nat) : Sound Tryz.prog 131 (laws_szStringS.S lp) := sound_of (E := laws_szStringS.E lp) (env_ok tabFits tabEqs trivial trivial) mixed Tryz.func131 (by kernel_rfl) (c := codeOf Tryz.f131) (by kernel_rfl) (by kernel_rfl) laws_szStringS.an (fun x r h => ⟨lp, (laws_szStringS.eq lp x).trans h⟩)
def laws_szResult.E (lp : Nat) : Env := { tab := tab, fns := [(131, laws_szStringS.S lp), (81, laws_szEntryS.S lp)], ann := { own := [], ro := [2] } }
def laws_szResult.an : An := { pre := [] }
def laws_szResult.S (lp : Nat) : Spec := { ats := [.v TResult, .v (.int .i64)], rts := [(.int .i64)], F := fun x => laws_szResult lp x.1 x.2.1 }
theorem laws_szResult.eq (lp : Nat) (x : ADens [.v TResult, .v (.int .i64)]) : evalF (laws_szResult.E lp) laws_szResult.an lp Tryz.f84 [.v TResult, .v (.int .i64)] [(.int .i64)] x = (laws_szResult.S lp).F x := by kernel_rfl
theorem laws_szResult.ok (lp : Nat) : Sound Tryz.prog 84 (laws_szResult.S lp) := sound_of (E := laws_szResult.E lp) (env_ok tabFits tabEqs ⟨laws_szStringS.ok lp, laws_szEntryS.ok lp, trivial⟩ trivial) mixed Tryz.func84 (by kernel_rfl) (c := codeOf Tryz.f84) (by kernel_rfl) (by kernel_rfl) laws_szResult.an (fun x r h => ⟨lp, (laws_szResult.eq lp x).trans h⟩)
def laws_szMoment.E (lp : Nat) : Env := { tab := tab, fns := [(83, laws_szOp.S lp), (84, laws_szResult.S lp)], ann := { own := [], ro := [2] } }
def laws_szMoment.an : An := { pre := [] }
def laws_szMoment.S (lp : Nat) : Spec := { ats := [.v TMoment, .v (.int .i64)], rts := [(.int .i64)], F := fun x => laws_szMoment lp x.1 x.2.1 }
theorem laws_szMoment.eq (lp : Nat) (x : ADens [.v TMoment, .v (.int .i64)]) : evalF (laws_szMoment.E lp) laws_szMoment.an lp Tryz.f49 [.v TMoment, .v (.int .i64)] [(.int .i64)] x = (laws_szMoment.S lp).F x := by kernel_rfl
theorem laws_szMoment.ok (lp : Nat) : Sound Tryz.prog 49 (laws_szMoment.S lp) := sound_of (E := laws_szMoment.E lp) (env_ok tabFits tabEqs ⟨laws_szOp.ok lp, laws_szResult.ok lp, trivial⟩ trivial) mixed Tryz.func49 (by kernel_rfl) (c := codeOf Tryz.f49) (by kernel_rfl) (by kernel_rfl) laws_szMoment.an (fun x r h => ⟨lp, (laws_szMoment.eq lp x).trans h⟩)
def laws_szMomentS.E (lp : Nat) : Env := { tab := tab, fns := [(49, laws_szMoment.S lp)], ann := { own := [], ro := [] } }
def laws_szMomentS.la5 : LoopAn := { kn := { tms := [0, 1, 5] }, kx := { tms := [1] }, kr := { tms := [4] } }
def laws_szMomentS.an : An := { loops := [(5, laws_szMomentS.la5)] }
def laws_szMomentS.s5 (x0 : List Moment) (x1 : Int) (x5 : Int) : St := ⟨.v (.one (.b (.d (.sl TMoment) x0))) :: .v (.one (.b (.d (.int .i64) x1))) :: (sk 3 (.v (.one (.b (.d (.int .i64) x5))) :: (sk 21 ([])))), sko 27 ([])⟩
def laws_szMomentS.sx5 (y : Int) : St := ⟨sk 1 (.v (.one (.b (.d (.int .i64) y))) :: (sk 25 ([]))), sko 27 ([])⟩
def laws_szMomentS.sr5 (z : Int) : St := ⟨sk 4 (.v (.one (.b (.d (.int .i64) z))) :: (sk 22 ([]))), sko 27 ([])⟩
def laws_szMomentS.S (lp : Nat) : Spec := { ats := [.v (.sl TMoment), .v (.int .i64)], rts := [(.int .i64)], F := fun x => laws_szMomentS lp x.1 x.2.1 }
theorem laws_szMomentS.t_b5 (lp : Nat) {R : Type} (N : St → Option R) (X : Out → St → Option R) (x0 : List Moment) (x1 : Int) (x5 : Int) : codeK (laws_szMomentS.E lp) laws_szMomentS.an lp (loopAt 5 (codeOf Tryz.f25)) (laws_szMomentS.s5 x0 x1 x5) (lpK laws_szMomentS.la5 N X) = laws_szMomentS.b5 lp (fun x0 x1 x5 => N (laws_szMomentS.s5 x0 x1 x5)) (fun y => X (.exit 0) (laws_szMomentS.sx5 y)) (fun z => X .ret (laws_szMomentS.sr5 z)) x0 x1 x5 := by kernel_rfl
theorem laws_szMomentS.n_b5 (lp : Nat) {R S : Type} (N : List Moment → Int → Int → Option R) (X : Int → Option R) (Q : Int → Option R) (x0 : List Moment) (x1 : Int) (x5 : Int) (k : R → Option S) : obind (laws_szMomentS.b5 lp N X Q x0 x1 x5) k = laws_szMomentS.b5 lp (fun x0 x1 x5 => obind (N x0 x1 x5) k) (fun y => obind (X y) k) (fun z => obind (Q z) k) x0 x1 x5 := by
  unfold laws_szMomentS.b5; simp only [obind_none, obind_some, obind_cond, obind_oif, obind_oget, obind_obind]
theorem laws_szMomentS.k5 (lp : Nat) {R : Type} (K : Out → St → Option R) : ∀ (n : Nat) (x0 : List Moment) (x1 : Int) (x5 : Int), loopK laws_szMomentS.la5 (fun σ K => codeK (laws_szMomentS.E lp) laws_szMomentS.an lp (loopAt 5 (codeOf Tryz.f25)) σ K) n (laws_szMomentS.s5 x0 x1 x5) K = obind (laws_szMomentS.l5 lp n x0 x1 x5) (leK 0 laws_szMomentS.sr5 laws_szMomentS.sx5 K) := by
  intro n
  induction n with
  | zero => intros; rfl
  | succ n ih =>
    intro x0 x1 x5
    rw [loopK_succ, laws_szMomentS.t_b5, laws_szMomentS.l5, laws_szMomentS.n_b5]
    simp only [ih, obind_some, leK_ret, leK_brk]
theorem laws_szMomentS.t_a5 (lp : Nat) (y : Int) : kont (R := Int) (laws_szMomentS.E lp) laws_szMomentS.an lp (finK (laws_szMomentS.E lp) Tryz.f25 [(.int .i64)]) (stkAt 5 (codeOf Tryz.f25)) (.exit 0) (laws_szMomentS.sx5 y) = laws_szMomentS.a5 lp y := by kernel_rfl
theorem laws_szMomentS.t_q5 (lp : Nat) (z : Int) : kont (R := Int) (laws_szMomentS.E lp) laws_szMomentS.an lp (finK (laws_szMomentS.E lp) Tryz.f25 [(.int .i64)]) (stkAt 5 (codeOf Tryz.f25)) .ret (laws_szMomentS.sr5 z) = laws_szMomentS.q5 lp z := by kernel_rfl
theorem laws_szMomentS.t_e (lp : Nat) (x0 : List Moment) (x1 : Int) : evalF (laws_szMomentS.E lp) laws_szMomentS.an lp Tryz.f25 [.v (.sl TMoment), .v (.int .i64)] [(.int .i64)] (x0, x1, ()) = laws_szMomentS.e lp (fun x0 x1 x5 => loopK laws_szMomentS.la5 (fun σ K => codeK (laws_szMomentS.E lp) laws_szMomentS.an lp (loopAt 5 (codeOf Tryz.f25)) σ K) lp (laws_szMomentS.s5 x0 x1 x5) (kont (laws_szMomentS.E lp) laws_szMomentS.an lp (finK (laws_szMomentS.E lp) Tryz.f25 [(.int .i64)]) (stkAt 5 (codeOf Tryz.f25)))) x0 x1 := by kernel_rfl
theorem laws_szMomentS.eq0 (lp : Nat) (x0 : List Moment) (x1 : Int) : evalF (laws_szMomentS.E lp) laws_szMomentS.an lp Tryz.f25 [.v (.sl TMoment), .v (.int .i64)] [(.int .i64)] (x0, x1, ()) = laws_szMomentS lp x0 x1 := by
  rw [laws_szMomentS.t_e]; unfold laws_szMomentS
  simp only [leK_leF _ laws_szMomentS.sr5 laws_szMomentS.sx5, laws_szMomentS.k5, laws_szMomentS.t_a5, laws_szMomentS.t_q5]
theorem laws_szMomentS.eq (lp : Nat) (x : ADens [.v (.sl TMoment), .v (.int .i64)]) : evalF (laws_szMomentS.E lp) laws_szMomentS.an lp Tryz.f25 [.v (.sl TMoment), .v (.int .i64)] [(.int .i64)] x = (laws_szMomentS.S lp).F x := laws_szMomentS.eq0 lp x.1 x.2.1
theorem laws_szMomentS.ok (lp : Nat) : Sound Tryz.prog 25 (laws_szMomentS.S lp) := sound_of (E := laws_szMomentS.E lp) (env_ok tabFits tabEqs ⟨laws_szMoment.ok lp, trivial⟩ trivial) mixed Tryz.func25 (by kernel_rfl) (c := codeOf Tryz.f25) (by kernel_rfl) (by kernel_rfl) laws_szMomentS.an (fun x r h => ⟨lp, (laws_szMomentS.eq lp x).trans h⟩)
def laws_szWorld.E (lp : Nat) : Env := { tab := tab, fns := [(22, laws_szBase.S lp), (23, laws_szClientS.S lp), (24, laws_szWatchS.S lp), (25, laws_szMomentS.S lp)], ann := { own := [], ro := [2] } }
def laws_szWorld.an : An := { pre := [] }
def laws_szWorld.S (lp : Nat) : Spec := { ats := [.v TWorld, .v (.int .i64)], rts := [(.int .i64)], F := fun x => laws_szWorld lp x.1 x.2.1 }
theorem laws_szWorld.eq (lp : Nat) (x : ADens [.v TWorld, .v (.int .i64)]) : evalF (laws_szWorld.E lp) laws_szWorld.an lp Tryz.f8 [.v TWorld, .v (.int .i64)] [(.int .i64)] x = (laws_szWorld.S lp).F x := by kernel_rfl
theorem laws_szWorld.ok (lp : Nat) : Sound Tryz.prog 8 (laws_szWorld.S lp) := sound_of (E := laws_szWorld.E lp) (env_ok tabFits tabEqs ⟨laws_szBase.ok lp, laws_szClientS.ok lp, laws_szWatchS.ok lp, laws_szMomentS.ok lp, trivial⟩ trivial) mixed Tryz.func8 (by kernel_rfl) (c := codeOf Tryz.f8) (by kernel_rfl) (by kernel_rfl) laws_szWorld.an (fun x r h => ⟨lp, (laws_szWorld.eq lp x).trans h⟩)
def laws_toEntry.E : Env := { tab := tab, fns := [], ann := { own := [], ro := [1] } }
def laws_toEntry.an : An := { pre := [] }
def laws_toEntry.S : Spec := { ats := [.v TEntry], rts := [TEntry], F := fun x => laws_toEntry x.1 }
theorem laws_toEntry.eq (lp : Nat) (x : ADens [.v TEntry]) : evalF (laws_toEntry.E) laws_toEntry.an lp Tryz.f142 [.v TEntry] [TEntry] x = (laws_toEntry.S).F x := by kernel_rfl
theorem laws_toEntry.ok : Sound Tryz.prog 142 (laws_toEntry.S) := sound_of (E := laws_toEntry.E) (env_ok tabFits tabEqs trivial trivial) mixed Tryz.func142 (by kernel_rfl) (c := codeOf Tryz.f142) (by kernel_rfl) (by kernel_rfl) laws_toEntry.an (fun x r h => ⟨0, (laws_toEntry.eq 0 x).trans h⟩)
def laws_toEntryS.E (lp : Nat) : Env := { tab := tab, fns := [(142, laws_toEntry.S)], ann := { own := [], ro := [] } }
def laws_toEntryS.la3 : LoopAn := { kn := { tms := [0, 3, 4], obs := [7] }, kx := { tms := [3], obs := [7] }, kr := {} }
def laws_toEntryS.an : An := { loops := [(3, laws_toEntryS.la3)] }
def laws_toEntryS.s3 (x0 : List Entry) (x4 : Int) (xo7 : List Entry) : St := ⟨.v (.one (.b (.d (.sl TEntry) x0))) :: (sk 2 (.v (.one (.row 7 0)) :: .v (.one (.b (.d (.int .i64) x4))) :: (sk 18 ([])))), sko 7 (some (.row 196 TEntry xo7 0) :: (sko 15 ([])))⟩
def laws_toEntryS.sx3 (y : (List Entry)) : St := ⟨sk 3 (.v (.one (.row 7 0)) :: (sk 19 ([]))), sko 7 (some (.row 196 TEntry y 0) :: (sko 15 ([])))⟩
def laws_toEntryS.sr3 (z : Empty) : St := z.elim
def laws_toEntryS.S (lp : Nat) : Spec := { ats := [.v (.sl TEntry)], rts := [(.sl TEntry)], F := fun x => laws_toEntryS lp x.1 }
theorem laws_toEntryS.t_b3 (lp : Nat) {R : Type} (N : St → Option R) (X : Out → St → Option R) (x0 : List Entry) (x4 : Int) (xo7 : List Entry) : codeK (laws_toEntryS.E lp) laws_toEntryS.an lp (loopAt 3 (codeOf Tryz.f97)) (laws_toEntryS.s3 x0 x4 xo7) (lpK laws_toEntryS.la3 N X) = laws_toEntryS.b3 lp (fun x0 x4 xo7 => N (laws_toEntryS.s3 x0 x4 xo7)) (fun y => X (.exit 0) (laws_toEntryS.sx3 y)) (fun z => X .ret (laws_toEntryS.sr3 z)) x0 x4 xo7 := by kernel_rfl
theorem laws_toEntryS.n_b3 (lp : Nat) {R S : Type} (N : List Entry → Int → List Entry → Option R) (X : ((List Entry)) → Option R) (Q : Empty → Option R) (x0 : List Entry) (x4 : Int) (xo7 : List Entry) (k : R → Option S) : obind (laws_toEntryS.b3 lp N X Q x0 x4 xo7) k = laws_toEntryS.b3 lp (fun x0 x4 xo7 => obind (N x0 x4 xo7) k) (fun y => obind (X y) k) (fun z => obind (Q z) k) x0 x4 xo7 := by
  unfold laws_toEntryS.b3; simp only [obind_none, obind_some, obind_cond, obind_oif, obind_oget, obind_obind]
theorem laws_toEntryS.k3 (lp : Nat) {R : Type} (K : Out → St → Option R) : ∀ (n : Nat) (x0 : List Entry) (x4 : Int) (xo7 : List Entry), loopK laws_toEntryS.la3 (fun σ K => codeK (laws_toEntryS.E lp) laws_toEntryS.an lp (loopAt 3 (codeOf Tryz.f97)) σ K) n (laws_toEntryS.s3 x0 x4 xo7) K = obind (laws_toEntryS.l3 lp n x0 x4 xo7) (leK 0 laws_toEntryS.sr3 laws_toEntryS.sx3 K) := by
  intro n
  induction n with
  | zero => intros; rfl
  | succ n ih =>
    intro x0 x4 xo7
    rw [loopK_succ, laws_toEntryS.t_b3, laws_toEntryS.l3, laws_toEntryS.n_b3]
    simp only [ih, obind_some, leK_ret, leK_brk]
theorem laws_toEntryS.t_a3 (lp : Nat) (y : (List Entry)) : kont (R := (List Entry)) (laws_toEntryS.E lp) laws_toEntryS.an lp (finK (laws_toEntryS.E lp) Tryz.f97 [(.sl TEntry)]) (stkAt 3 (codeOf Tryz.f97)) (.exit 0) (laws_toEntryS.sx3 y) = laws_toEntryS.a3 lp y := by kernel_rfl
theorem laws_toEntryS.t_e (lp : Nat) (x0 : List Entry) : evalF (laws_toEntryS.E lp) laws_toEntryS.an lp Tryz.f97 [.v (.sl TEntry)] [(.sl TEntry)] (x0, ()) = laws_toEntryS.e lp (fun x0 x4 xo7 => loopK laws_toEntryS.la3 (fun σ K => codeK (laws_toEntryS.E lp) laws_toEntryS.an lp (loopAt 3 (codeOf Tryz.f97)) σ K) lp (laws_toEntryS.s3 x0 x4 xo7) (kont (laws_toEntryS.E lp) laws_toEntryS.an lp (finK (laws_toEntryS.E lp) Tryz.f97 [(.sl TEntry)]) (stkAt 3 (codeOf Tryz.f97)))) x0 := by kernel_rfl
theorem laws_toEntryS.eq0 (lp : Nat) (x0 : List Entry) : evalF (laws_toEntryS.E lp) laws_toEntryS.an lp Tryz.f97 [.v (.sl TEntry)] [(.sl TEntry)] (x0, ()) = laws_toEntryS lp x0 := by
  rw [laws_toEntryS.t_e]; unfold laws_toEntryS
  simp only [leK_ret0 _ laws_toEntryS.sr3 laws_toEntryS.sx3, laws_toEntryS.k3, laws_toEntryS.t_a3]
theorem laws_toEntryS.eq (lp : Nat) (x : ADens [.v (.sl TEntry)]) : evalF (laws_toEntryS.E lp) laws_toEntryS.an lp Tryz.f97 [.v (.sl TEntry)] [(.sl TEntry)] x = (laws_toEntryS.S lp).F x := laws_toEntryS.eq0 lp x.1
theorem laws_toEntryS.ok (lp : Nat) : Sound Tryz.prog 97 (laws_toEntryS.S lp) := sound_of (E := laws_toEntryS.E lp) (env_ok tabFits tabEqs ⟨laws_toEntry.ok, trivial⟩ trivial) mixed Tryz.func97 (by kernel_rfl) (c := codeOf Tryz.f97) (by kernel_rfl) (by kernel_rfl) laws_toEntryS.an (fun x r h => ⟨lp, (laws_toEntryS.eq lp x).trans h⟩)
def laws_toIntS.E (lp : Nat) : Env := { tab := tab, fns := [], ann := { own := [], ro := [] } }
def laws_toIntS.la3 : LoopAn := { kn := { tms := [0, 3, 4], obs := [7] }, kx := { tms := [3], obs := [7] }, kr := {} }
def laws_toIntS.an : An := { loops := [(3, laws_toIntS.la3)] }
def laws_toIntS.s3 (x0 : List Int) (x4 : Int) (xo7 : List Int) : St := ⟨.v (.one (.b (.d (.sl (.int .i64)) x0))) :: (sk 2 (.v (.one (.row 7 0)) :: .v (.one (.b (.d (.int .i64) x4))) :: (sk 17 ([])))), sko 7 (some (.row 3 (.int .i64) xo7 0) :: (sko 14 ([])))⟩
def laws_toIntS.sx3 (y : (List Int)) : St := ⟨sk 3 (.v (.one (.row 7 0)) :: (sk 18 ([]))), sko 7 (some (.row 3 (.int .i64) y 0) :: (sko 14 ([])))⟩
def laws_toIntS.sr3 (z : Empty) : St := z.elim
def laws_toIntS.S (lp : Nat) : Spec := { ats := [.v (.sl (.int .i64))], rts := [(.sl (.int .i64))], F := fun x => laws_toIntS lp x.1 }
theorem laws_toIntS.t_b3 (lp : Nat) {R : Type} (N : St → Option R) (X : Out → St → Option R) (x0 : List Int) (x4 : Int) (xo7 : List Int) : codeK (laws_toIntS.E lp) laws_toIntS.an lp (loopAt 3 (codeOf Tryz.f140)) (laws_toIntS.s3 x0 x4 xo7) (lpK laws_toIntS.la3 N X) = laws_toIntS.b3 lp (fun x0 x4 xo7 => N (laws_toIntS.s3 x0 x4 xo7)) (fun y => X (.exit 0) (laws_toIntS.sx3 y)) (fun z => X .ret (laws_toIntS.sr3 z)) x0 x4 xo7 := by kernel_rfl
theorem laws_toIntS.n_b3 (lp : Nat) {R S : Type} (N : List Int → Int → List Int → Option R) (X : ((List Int)) → Option R) (Q : Empty → Option R) (x0 : List Int) (x4 : Int) (xo7 : List Int) (k : R → Option S) : obind (laws_toIntS.b3 lp N X Q x0 x4 xo7) k = laws_toIntS.b3 lp (fun x0 x4 xo7 => obind (N x0 x4 xo7) k) (fun y => obind (X y) k) (fun z => obind (Q z) k) x0 x4 xo7 := by
  unfold laws_toIntS.b3; simp only [obind_none, obind_some, obind_cond, obind_oif, obind_oget, obind_obind]
theorem laws_toIntS.k3 (lp : Nat) {R : Type} (K : Out → St → Option R) : ∀ (n : Nat) (x0 : List Int) (x4 : Int) (xo7 : List Int), loopK laws_toIntS.la3 (fun σ K => codeK (laws_toIntS.E lp) laws_toIntS.an lp (loopAt 3 (codeOf Tryz.f140)) σ K) n (laws_toIntS.s3 x0 x4 xo7) K = obind (laws_toIntS.l3 lp n x0 x4 xo7) (leK 0 laws_toIntS.sr3 laws_toIntS.sx3 K) := by
  intro n
  induction n with
  | zero => intros; rfl
  | succ n ih =>
    intro x0 x4 xo7
    rw [loopK_succ, laws_toIntS.t_b3, laws_toIntS.l3, laws_toIntS.n_b3]
    simp only [ih, obind_some, leK_ret, leK_brk]
theorem laws_toIntS.t_a3 (lp : Nat) (y : (List Int)) : kont (R := (List Int)) (laws_toIntS.E lp) laws_toIntS.an lp (finK (laws_toIntS.E lp) Tryz.f140 [(.sl (.int .i64))]) (stkAt 3 (codeOf Tryz.f140)) (.exit 0) (laws_toIntS.sx3 y) = laws_toIntS.a3 lp y := by kernel_rfl
theorem laws_toIntS.t_e (lp : Nat) (x0 : List Int) : evalF (laws_toIntS.E lp) laws_toIntS.an lp Tryz.f140 [.v (.sl (.int .i64))] [(.sl (.int .i64))] (x0, ()) = laws_toIntS.e lp (fun x0 x4 xo7 => loopK laws_toIntS.la3 (fun σ K => codeK (laws_toIntS.E lp) laws_toIntS.an lp (loopAt 3 (codeOf Tryz.f140)) σ K) lp (laws_toIntS.s3 x0 x4 xo7) (kont (laws_toIntS.E lp) laws_toIntS.an lp (finK (laws_toIntS.E lp) Tryz.f140 [(.sl (.int .i64))]) (stkAt 3 (codeOf Tryz.f140)))) x0 := by kernel_rfl
theorem laws_toIntS.eq0 (lp : Nat) (x0 : List Int) : evalF (laws_toIntS.E lp) laws_toIntS.an lp Tryz.f140 [.v (.sl (.int .i64))] [(.sl (.int .i64))] (x0, ()) = laws_toIntS lp x0 := by
  rw [laws_toIntS.t_e]; unfold laws_toIntS
  simp only [leK_ret0 _ laws_toIntS.sr3 laws_toIntS.sx3, laws_toIntS.k3, laws_toIntS.t_a3]
theorem laws_toIntS.eq (lp : Nat) (x : ADens [.v (.sl (.int .i64))]) : evalF (laws_toIntS.E lp) laws_toIntS.an lp Tryz.f140 [.v (.sl (.int .i64))] [(.sl (.int .i64))] x = (laws_toIntS.S lp).F x := laws_toIntS.eq0 lp x.1
theorem laws_toIntS.ok (lp : Nat) : Sound Tryz.prog 140 (laws_toIntS.S lp) := sound_of (E := laws_toIntS.E lp) (env_ok tabFits tabEqs trivial trivial) mixed Tryz.func140 (by kernel_rfl) (c := codeOf Tryz.f140) (by kernel_rfl) (by kernel_rfl) laws_toIntS.an (fun x r h => ⟨lp, (laws_toIntS.eq lp x).trans h⟩)
def laws_toCommit.E (lp : Nat) : Env := { tab := tab, fns := [(140, laws_toIntS.S lp), (97, laws_toEntryS.S lp)], ann := { own := [], ro := [1] } }
def laws_toCommit.an : An := { pre := [] }
def laws_toCommit.S (lp : Nat) : Spec := { ats := [.v TCommit], rts := [TCommit], F := fun x => laws_toCommit lp x.1 }
theorem laws_toCommit.eq (lp : Nat) (x : ADens [.v TCommit]) : evalF (laws_toCommit.E lp) laws_toCommit.an lp Tryz.f94 [.v TCommit] [TCommit] x = (laws_toCommit.S lp).F x := by kernel_rfl
theorem laws_toCommit.ok (lp : Nat) : Sound Tryz.prog 94 (laws_toCommit.S lp) := sound_of (E := laws_toCommit.E lp) (env_ok tabFits tabEqs ⟨laws_toIntS.ok lp, laws_toEntryS.ok lp, trivial⟩ trivial) mixed Tryz.func94 (by kernel_rfl) (c := codeOf Tryz.f94) (by kernel_rfl) (by kernel_rfl) laws_toCommit.an (fun x r h => ⟨lp, (laws_toCommit.eq lp x).trans h⟩)
def laws_toCommitS.E (lp : Nat) : Env := { tab := tab, fns := [(94, laws_toCommit.S lp)], ann := { own := [], ro := [] } }
def laws_toCommitS.la3 : LoopAn := { kn := { tms := [0, 3, 4], obs := [7] }, kx := { tms := [3], obs := [7] }, kr := {} }
def laws_toCommitS.an : An := { loops := [(3, laws_toCommitS.la3)] }
def laws_toCommitS.s3 (x0 : List Commit) (x4 : Int) (xo7 : List Commit) : St := ⟨.v (.one (.b (.d (.sl TCommit) x0))) :: (sk 2 (.v (.one (.row 7 0)) :: .v (.one (.b (.d (.int .i64) x4))) :: (sk 18 ([])))), sko 7 (some (.row 160 TCommit xo7 0) :: (sko 15 ([])))⟩
def laws_toCommitS.sx3 (y : (List Commit)) : St := ⟨sk 3 (.v (.one (.row 7 0)) :: (sk 19 ([]))), sko 7 (some (.row 160 TCommit y 0) :: (sko 15 ([])))⟩
def laws_toCommitS.sr3 (z : Empty) : St := z.elim
def laws_toCommitS.S (lp : Nat) : Spec := { ats := [.v (.sl TCommit)], rts := [(.sl TCommit)], F := fun x => laws_toCommitS lp x.1 }
theorem laws_toCommitS.t_b3 (lp : Nat) {R : Type} (N : St → Option R) (X : Out → St → Option R) (x0 : List Commit) (x4 : Int) (xo7 : List Commit) : codeK (laws_toCommitS.E lp) laws_toCommitS.an lp (loopAt 3 (codeOf Tryz.f55)) (laws_toCommitS.s3 x0 x4 xo7) (lpK laws_toCommitS.la3 N X) = laws_toCommitS.b3 lp (fun x0 x4 xo7 => N (laws_toCommitS.s3 x0 x4 xo7)) (fun y => X (.exit 0) (laws_toCommitS.sx3 y)) (fun z => X .ret (laws_toCommitS.sr3 z)) x0 x4 xo7 := by kernel_rfl
theorem laws_toCommitS.n_b3 (lp : Nat) {R S : Type} (N : List Commit → Int → List Commit → Option R) (X : ((List Commit)) → Option R) (Q : Empty → Option R) (x0 : List Commit) (x4 : Int) (xo7 : List Commit) (k : R → Option S) : obind (laws_toCommitS.b3 lp N X Q x0 x4 xo7) k = laws_toCommitS.b3 lp (fun x0 x4 xo7 => obind (N x0 x4 xo7) k) (fun y => obind (X y) k) (fun z => obind (Q z) k) x0 x4 xo7 := by
  unfold laws_toCommitS.b3; simp only [obind_none, obind_some, obind_cond, obind_oif, obind_oget, obind_obind]
theorem laws_toCommitS.k3 (lp : Nat) {R : Type} (K : Out → St → Option R) : ∀ (n : Nat) (x0 : List Commit) (x4 : Int) (xo7 : List Commit), loopK laws_toCommitS.la3 (fun σ K => codeK (laws_toCommitS.E lp) laws_toCommitS.an lp (loopAt 3 (codeOf Tryz.f55)) σ K) n (laws_toCommitS.s3 x0 x4 xo7) K = obind (laws_toCommitS.l3 lp n x0 x4 xo7) (leK 0 laws_toCommitS.sr3 laws_toCommitS.sx3 K) := by
  intro n
  induction n with
  | zero => intros; rfl
  | succ n ih =>
    intro x0 x4 xo7
    rw [loopK_succ, laws_toCommitS.t_b3, laws_toCommitS.l3, laws_toCommitS.n_b3]
    simp only [ih, obind_some, leK_ret, leK_brk]
theorem laws_toCommitS.t_a3 (lp : Nat) (y : (List Commit)) : kont (R := (List Commit)) (laws_toCommitS.E lp) laws_toCommitS.an lp (finK (laws_toCommitS.E lp) Tryz.f55 [(.sl TCommit)]) (stkAt 3 (codeOf Tryz.f55)) (.exit 0) (laws_toCommitS.sx3 y) = laws_toCommitS.a3 lp y := by kernel_rfl
theorem laws_toCommitS.t_e (lp : Nat) (x0 : List Commit) : evalF (laws_toCommitS.E lp) laws_toCommitS.an lp Tryz.f55 [.v (.sl TCommit)] [(.sl TCommit)] (x0, ()) = laws_toCommitS.e lp (fun x0 x4 xo7 => loopK laws_toCommitS.la3 (fun σ K => codeK (laws_toCommitS.E lp) laws_toCommitS.an lp (loopAt 3 (codeOf Tryz.f55)) σ K) lp (laws_toCommitS.s3 x0 x4 xo7) (kont (laws_toCommitS.E lp) laws_toCommitS.an lp (finK (laws_toCommitS.E lp) Tryz.f55 [(.sl TCommit)]) (stkAt 3 (codeOf Tryz.f55)))) x0 := by kernel_rfl
theorem laws_toCommitS.eq0 (lp : Nat) (x0 : List Commit) : evalF (laws_toCommitS.E lp) laws_toCommitS.an lp Tryz.f55 [.v (.sl TCommit)] [(.sl TCommit)] (x0, ()) = laws_toCommitS lp x0 := by
  rw [laws_toCommitS.t_e]; unfold laws_toCommitS
  simp only [leK_ret0 _ laws_toCommitS.sr3 laws_toCommitS.sx3, laws_toCommitS.k3, laws_toCommitS.t_a3]
theorem laws_toCommitS.eq (lp : Nat) (x : ADens [.v (.sl TCommit)]) : evalF (laws_toCommitS.E lp) laws_toCommitS.an lp Tryz.f55 [.v (.sl TCommit)] [(.sl TCommit)] x = (laws_toCommitS.S lp).F x := laws_toCommitS.eq0 lp x.1
theorem laws_toCommitS.ok (lp : Nat) : Sound Tryz.prog 55 (laws_toCommitS.S lp) := sound_of (E := laws_toCommitS.E lp) (env_ok tabFits tabEqs ⟨laws_toCommit.ok lp, trivial⟩ trivial) mixed Tryz.func55 (by kernel_rfl) (c := codeOf Tryz.f55) (by kernel_rfl) (by kernel_rfl) laws_toCommitS.an (fun x r h => ⟨lp, (laws_toCommitS.eq lp x).trans h⟩)
def laws_toRef.E : Env := { tab := tab, fns := [], ann := { own := [], ro := [1] } }
def laws_toRef.an : An := { pre := [] }
def laws_toRef.S : Spec := { ats := [.v TRef], rts := [TRef], F := fun x => laws_toRef x.1 }
theorem laws_toRef.eq (lp : Nat) (x : ADens [.v TRef]) : evalF (laws_toRef.E) laws_toRef.an lp Tryz.f95 [.v TRef] [TRef] x = (laws_toRef.S).F x := by kernel_rfl
theorem laws_toRef.ok : Sound Tryz.prog 95 (laws_toRef.S) := sound_of (E := laws_toRef.E) (env_ok tabFits tabEqs trivial trivial) mixed Tryz.func95 (by kernel_rfl) (c := codeOf Tryz.f95) (by kernel_rfl) (by kernel_rfl) laws_toRef.an (fun x r h => ⟨0, (laws_toRef.eq 0 x).trans h⟩)
def laws_toRefS.E (lp : Nat) : Env := { tab := tab, fns := [(95, laws_toRef.S)], ann := { own := [], ro := [] } }
def laws_toRefS.la3 : LoopAn := { kn := { tms := [0, 3, 4], obs := [7] }, kx := { tms := [3], obs := [7] }, kr := {} }
def laws_toRefS.an : An := { loops := [(3, laws_toRefS.la3)] }
def laws_toRefS.s3 (x0 : List Ref) (x4 : Int) (xo7 : List Ref) : St := ⟨.v (.one (.b (.d (.sl TRef) x0))) :: (sk 2 (.v (.one (.row 7 0)) :: .v (.one (.b (.d (.int .i64) x4))) :: (sk 18 ([])))), sko 7 (some (.row 152 TRef xo7 0) :: (sko 15 ([])))⟩
def laws_toRefS.sx3 (y : (List Ref)) : St := ⟨sk 3 (.v (.one (.row 7 0)) :: (sk 19 ([]))), sko 7 (some (.row 152 TRef y 0) :: (sko 15 ([])))⟩
def laws_toRefS.sr3 (z : Empty) : St := z.elim
def laws_toRefS.S (lp : Nat) : Spec := { ats := [.v (.sl TRef)], rts := [(.sl TRef)], F := fun x => laws_toRefS lp x.1 }
theorem laws_toRefS.t_b3 (lp : Nat) {R : Type} (N : St → Option R) (X : Out → St → Option R) (x0 : List Ref) (x4 : Int) (xo7 : List Ref) : codeK (laws_toRefS.E lp) laws_toRefS.an lp (loopAt 3 (codeOf Tryz.f56)) (laws_toRefS.s3 x0 x4 xo7) (lpK laws_toRefS.la3 N X) = laws_toRefS.b3 lp (fun x0 x4 xo7 => N (laws_toRefS.s3 x0 x4 xo7)) (fun y => X (.exit 0) (laws_toRefS.sx3 y)) (fun z => X .ret (laws_toRefS.sr3 z)) x0 x4 xo7 := by kernel_rfl
theorem laws_toRefS.n_b3 (lp : Nat) {R S : Type} (N : List Ref → Int → List Ref → Option R) (X : ((List Ref)) → Option R) (Q : Empty → Option R) (x0 : List Ref) (x4 : Int) (xo7 : List Ref) (k : R → Option S) : obind (laws_toRefS.b3 lp N X Q x0 x4 xo7) k = laws_toRefS.b3 lp (fun x0 x4 xo7 => obind (N x0 x4 xo7) k) (fun y => obind (X y) k) (fun z => obind (Q z) k) x0 x4 xo7 := by
  unfold laws_toRefS.b3; simp only [obind_none, obind_some, obind_cond, obind_oif, obind_oget, obind_obind]
theorem laws_toRefS.k3 (lp : Nat) {R : Type} (K : Out → St → Option R) : ∀ (n : Nat) (x0 : List Ref) (x4 : Int) (xo7 : List Ref), loopK laws_toRefS.la3 (fun σ K => codeK (laws_toRefS.E lp) laws_toRefS.an lp (loopAt 3 (codeOf Tryz.f56)) σ K) n (laws_toRefS.s3 x0 x4 xo7) K = obind (laws_toRefS.l3 lp n x0 x4 xo7) (leK 0 laws_toRefS.sr3 laws_toRefS.sx3 K) := by
  intro n
  induction n with
  | zero => intros; rfl
  | succ n ih =>
    intro x0 x4 xo7
    rw [loopK_succ, laws_toRefS.t_b3, laws_toRefS.l3, laws_toRefS.n_b3]
    simp only [ih, obind_some, leK_ret, leK_brk]
theorem laws_toRefS.t_a3 (lp : Nat) (y : (List Ref)) : kont (R := (List Ref)) (laws_toRefS.E lp) laws_toRefS.an lp (finK (laws_toRefS.E lp) Tryz.f56 [(.sl TRef)]) (stkAt 3 (codeOf Tryz.f56)) (.exit 0) (laws_toRefS.sx3 y) = laws_toRefS.a3 lp y := by kernel_rfl
theorem laws_toRefS.t_e (lp : Nat) (x0 : List Ref) : evalF (laws_toRefS.E lp) laws_toRefS.an lp Tryz.f56 [.v (.sl TRef)] [(.sl TRef)] (x0, ()) = laws_toRefS.e lp (fun x0 x4 xo7 => loopK laws_toRefS.la3 (fun σ K => codeK (laws_toRefS.E lp) laws_toRefS.an lp (loopAt 3 (codeOf Tryz.f56)) σ K) lp (laws_toRefS.s3 x0 x4 xo7) (kont (laws_toRefS.E lp) laws_toRefS.an lp (finK (laws_toRefS.E lp) Tryz.f56 [(.sl TRef)]) (stkAt 3 (codeOf Tryz.f56)))) x0 := by kernel_rfl
theorem laws_toRefS.eq0 (lp : Nat) (x0 : List Ref) : evalF (laws_toRefS.E lp) laws_toRefS.an lp Tryz.f56 [.v (.sl TRef)] [(.sl TRef)] (x0, ()) = laws_toRefS lp x0 := by
  rw [laws_toRefS.t_e]; unfold laws_toRefS
  simp only [leK_ret0 _ laws_toRefS.sr3 laws_toRefS.sx3, laws_toRefS.k3, laws_toRefS.t_a3]
theorem laws_toRefS.eq (lp : Nat) (x : ADens [.v (.sl TRef)]) : evalF (laws_toRefS.E lp) laws_toRefS.an lp Tryz.f56 [.v (.sl TRef)] [(.sl TRef)] x = (laws_toRefS.S lp).F x := laws_toRefS.eq0 lp x.1
theorem laws_toRefS.ok (lp : Nat) : Sound Tryz.prog 56 (laws_toRefS.S lp) := sound_of (E := laws_toRefS.E lp) (env_ok tabFits tabEqs ⟨laws_toRef.ok, trivial⟩ trivial) mixed Tryz.func56 (by kernel_rfl) (c := codeOf Tryz.f56) (by kernel_rfl) (by kernel_rfl) laws_toRefS.an (fun x r h => ⟨lp, (laws_toRefS.eq lp x).trans h⟩)
def laws_toBase.E (lp : Nat) : Env := { tab := tab, fns := [(55, laws_toCommitS.S lp), (56, laws_toRefS.S lp)], ann := { own := [], ro := [1] } }
def laws_toBase.an : An := { pre := [] }
def laws_toBase.S (lp : Nat) : Spec := { ats := [.v TBase], rts := [TBase], F := fun x => laws_toBase lp x.1 }
theorem laws_toBase.eq (lp : Nat) (x : ADens [.v TBase]) : evalF (laws_toBase.E lp) laws_toBase.an lp Tryz.f27 [.v TBase] [TBase] x = (laws_toBase.S lp).F x := by kernel_rfl
theorem laws_toBase.ok (lp : Nat) : Sound Tryz.prog 27 (laws_toBase.S lp) := sound_of (E := laws_toBase.E lp) (env_ok tabFits tabEqs ⟨laws_toCommitS.ok lp, laws_toRefS.ok lp, trivial⟩ trivial) mixed Tryz.func27 (by kernel_rfl) (c := codeOf Tryz.f27) (by kernel_rfl) (by kernel_rfl) laws_toBase.an (fun x r h => ⟨lp, (laws_toBase.eq lp x).trans h⟩)
def laws_toEdit.E : Env := { tab := tab, fns := [], ann := { own := [], ro := [1] } }
def laws_toEdit.an : An := { pre := [] }
def laws_toEdit.S : Spec := { ats := [.v TEdit], rts := [TEdit], F := fun x => laws_toEdit x.1 }
theorem laws_toEdit.eq (lp : Nat) (x : ADens [.v TEdit]) : evalF (laws_toEdit.E) laws_toEdit.an lp Tryz.f183 [.v TEdit] [TEdit] x = (laws_toEdit.S).F x := by kernel_rfl
theorem laws_toEdit.ok : Sound Tryz.prog 183 (laws_toEdit.S) := sound_of (E := laws_toEdit.E) (env_ok tabFits tabEqs trivial trivial) mixed Tryz.func183 (by kernel_rfl) (c := codeOf Tryz.f183) (by kernel_rfl) (by kernel_rfl) laws_toEdit.an (fun x r h => ⟨0, (laws_toEdit.eq 0 x).trans h⟩)
def laws_toEditS.E (lp : Nat) : Env := { tab := tab, fns := [(183, laws_toEdit.S)], ann := { own := [], ro := [] } }
def laws_toEditS.la3 : LoopAn := { kn := { tms := [0, 3, 4], obs := [7] }, kx := { tms := [3], obs := [7] }, kr := {} }
def laws_toEditS.an : An := { loops := [(3, laws_toEditS.la3)] }
def laws_toEditS.s3 (x0 : List Edit) (x4 : Int) (xo7 : List Edit) : St := ⟨.v (.one (.b (.d (.sl TEdit) x0))) :: (sk 2 (.v (.one (.row 7 0)) :: .v (.one (.b (.d (.int .i64) x4))) :: (sk 18 ([])))), sko 7 (some (.row 226 TEdit xo7 0) :: (sko 15 ([])))⟩
def laws_toEditS.sx3 (y : (List Edit)) : St := ⟨sk 3 (.v (.one (.row 7 0)) :: (sk 19 ([]))), sko 7 (some (.row 226 TEdit y 0) :: (sko 15 ([])))⟩
def laws_toEditS.sr3 (z : Empty) : St := z.elim
def laws_toEditS.S (lp : Nat) : Spec := { ats := [.v (.sl TEdit)], rts := [(.sl TEdit)], F := fun x => laws_toEditS lp x.1 }
theorem laws_toEditS.t_b3 (lp : Nat) {R : Type} (N : St → Option R) (X : Out → St → Option R) (x0 : List Edit) (x4 : Int) (xo7 : List Edit) : codeK (laws_toEditS.E lp) laws_toEditS.an lp (loopAt 3 (codeOf Tryz.f144)) (laws_toEditS.s3 x0 x4 xo7) (lpK laws_toEditS.la3 N X) = laws_toEditS.b3 lp (fun x0 x4 xo7 => N (laws_toEditS.s3 x0 x4 xo7)) (fun y => X (.exit 0) (laws_toEditS.sx3 y)) (fun z => X .ret (laws_toEditS.sr3 z)) x0 x4 xo7 := by kernel_rfl
theorem laws_toEditS.n_b3 (lp : Nat) {R S : Type} (N : List Edit → Int → List Edit → Option R) (X : ((List Edit)) → Option R) (Q : Empty → Option R) (x0 : List Edit) (x4 : Int) (xo7 : List Edit) (k : R → Option S) : obind (laws_toEditS.b3 lp N X Q x0 x4 xo7) k = laws_toEditS.b3 lp (fun x0 x4 xo7 => obind (N x0 x4 xo7) k) (fun y => obind (X y) k) (fun z => obind (Q z) k) x0 x4 xo7 := by
  unfold laws_toEditS.b3; simp only [obind_none, obind_some, obind_cond, obind_oif, obind_oget, obind_obind]
theorem laws_toEditS.k3 (lp : Nat) {R : Type} (K : Out → St → Option R) : ∀ (n : Nat) (x0 : List Edit) (x4 : Int) (xo7 : List Edit), loopK laws_toEditS.la3 (fun σ K => codeK (laws_toEditS.E lp) laws_toEditS.an lp (loopAt 3 (codeOf Tryz.f144)) σ K) n (laws_toEditS.s3 x0 x4 xo7) K = obind (laws_toEditS.l3 lp n x0 x4 xo7) (leK 0 laws_toEditS.sr3 laws_toEditS.sx3 K) := by
  intro n
  induction n with
  | zero => intros; rfl
  | succ n ih =>
    intro x0 x4 xo7
    rw [loopK_succ, laws_toEditS.t_b3, laws_toEditS.l3, laws_toEditS.n_b3]
    simp only [ih, obind_some, leK_ret, leK_brk]
theorem laws_toEditS.t_a3 (lp : Nat) (y : (List Edit)) : kont (R := (List Edit)) (laws_toEditS.E lp) laws_toEditS.an lp (finK (laws_toEditS.E lp) Tryz.f144 [(.sl TEdit)]) (stkAt 3 (codeOf Tryz.f144)) (.exit 0) (laws_toEditS.sx3 y) = laws_toEditS.a3 lp y := by kernel_rfl
theorem laws_toEditS.t_e (lp : Nat) (x0 : List Edit) : evalF (laws_toEditS.E lp) laws_toEditS.an lp Tryz.f144 [.v (.sl TEdit)] [(.sl TEdit)] (x0, ()) = laws_toEditS.e lp (fun x0 x4 xo7 => loopK laws_toEditS.la3 (fun σ K => codeK (laws_toEditS.E lp) laws_toEditS.an lp (loopAt 3 (codeOf Tryz.f144)) σ K) lp (laws_toEditS.s3 x0 x4 xo7) (kont (laws_toEditS.E lp) laws_toEditS.an lp (finK (laws_toEditS.E lp) Tryz.f144 [(.sl TEdit)]) (stkAt 3 (codeOf Tryz.f144)))) x0 := by kernel_rfl
theorem laws_toEditS.eq0 (lp : Nat) (x0 : List Edit) : evalF (laws_toEditS.E lp) laws_toEditS.an lp Tryz.f144 [.v (.sl TEdit)] [(.sl TEdit)] (x0, ()) = laws_toEditS lp x0 := by
  rw [laws_toEditS.t_e]; unfold laws_toEditS
  simp only [leK_ret0 _ laws_toEditS.sr3 laws_toEditS.sx3, laws_toEditS.k3, laws_toEditS.t_a3]
theorem laws_toEditS.eq (lp : Nat) (x : ADens [.v (.sl TEdit)]) : evalF (laws_toEditS.E lp) laws_toEditS.an lp Tryz.f144 [.v (.sl TEdit)] [(.sl TEdit)] x = (laws_toEditS.S lp).F x := laws_toEditS.eq0 lp x.1
theorem laws_toEditS.ok (lp : Nat) : Sound Tryz.prog 144 (laws_toEditS.S lp) := sound_of (E := laws_toEditS.E lp) (env_ok tabFits tabEqs ⟨laws_toEdit.ok, trivial⟩ trivial) mixed Tryz.func144 (by kernel_rfl) (c := codeOf Tryz.f144) (by kernel_rfl) (by kernel_rfl) laws_toEditS.an (fun x r h => ⟨lp, (laws_toEditS.eq lp x).trans h⟩)
def laws_toWish.E (lp : Nat) : Env := { tab := tab, fns := [(144, laws_toEditS.S lp)], ann := { own := [], ro := [1] } }
def laws_toWish.an : An := { pre := [] }
def laws_toWish.S (lp : Nat) : Spec := { ats := [.v TWish], rts := [TWish], F := fun x => laws_toWish lp x.1 }
theorem laws_toWish.eq (lp : Nat) (x : ADens [.v TWish]) : evalF (laws_toWish.E lp) laws_toWish.an lp Tryz.f141 [.v TWish] [TWish] x = (laws_toWish.S lp).F x := by kernel_rfl
theorem laws_toWish.ok (lp : Nat) : Sound Tryz.prog 141 (laws_toWish.S lp) := sound_of (E := laws_toWish.E lp) (env_ok tabFits tabEqs ⟨laws_toEditS.ok lp, trivial⟩ trivial) mixed Tryz.func141 (by kernel_rfl) (c := codeOf Tryz.f141) (by kernel_rfl) (by kernel_rfl) laws_toWish.an (fun x r h => ⟨lp, (laws_toWish.eq lp x).trans h⟩)
def laws_toWishS.E (lp : Nat) : Env := { tab := tab, fns := [(141, laws_toWish.S lp)], ann := { own := [], ro := [] } }
def laws_toWishS.la3 : LoopAn := { kn := { tms := [0, 3, 4], obs := [7] }, kx := { tms := [3], obs := [7] }, kr := {} }
def laws_toWishS.an : An := { loops := [(3, laws_toWishS.la3)] }
def laws_toWishS.s3 (x0 : List Wish) (x4 : Int) (xo7 : List Wish) : St := ⟨.v (.one (.b (.d (.sl TWish) x0))) :: (sk 2 (.v (.one (.row 7 0)) :: .v (.one (.b (.d (.int .i64) x4))) :: (sk 18 ([])))), sko 7 (some (.row 89 TWish xo7 0) :: (sko 15 ([])))⟩
def laws_toWishS.sx3 (y : (List Wish)) : St := ⟨sk 3 (.v (.one (.row 7 0)) :: (sk 19 ([]))), sko 7 (some (.row 89 TWish y 0) :: (sko 15 ([])))⟩
def laws_toWishS.sr3 (z : Empty) : St := z.elim
def laws_toWishS.S (lp : Nat) : Spec := { ats := [.v (.sl TWish)], rts := [(.sl TWish)], F := fun x => laws_toWishS lp x.1 }
theorem laws_toWishS.t_b3 (lp : Nat) {R : Type} (N : St → Option R) (X : Out → St → Option R) (x0 : List Wish) (x4 : Int) (xo7 : List Wish) : codeK (laws_toWishS.E lp) laws_toWishS.an lp (loopAt 3 (codeOf Tryz.f96)) (laws_toWishS.s3 x0 x4 xo7) (lpK laws_toWishS.la3 N X) = laws_toWishS.b3 lp (fun x0 x4 xo7 => N (laws_toWishS.s3 x0 x4 xo7)) (fun y => X (.exit 0) (laws_toWishS.sx3 y)) (fun z => X .ret (laws_toWishS.sr3 z)) x0 x4 xo7 := by kernel_rfl
theorem laws_toWishS.n_b3 (lp : Nat) {R S : Type} (N : List Wish → Int → List Wish → Option R) (X : ((List Wish)) → Option R) (Q : Empty → Option R) (x0 : List Wish) (x4 : Int) (xo7 : List Wish) (k : R → Option S) : obind (laws_toWishS.b3 lp N X Q x0 x4 xo7) k = laws_toWishS.b3 lp (fun x0 x4 xo7 => obind (N x0 x4 xo7) k) (fun y => obind (X y) k) (fun z => obind (Q z) k) x0 x4 xo7 := by
  unfold laws_toWishS.b3; simp only [obind_none, obind_some, obind_cond, obind_oif, obind_oget, obind_obind]
theorem laws_toWishS.k3 (lp : Nat) {R : Type} (K : Out → St → Option R) : ∀ (n : Nat) (x0 : List Wish) (x4 : Int) (xo7 : List Wish), loopK laws_toWishS.la3 (fun σ K => codeK (laws_toWishS.E lp) laws_toWishS.an lp (loopAt 3 (codeOf Tryz.f96)) σ K) n (laws_toWishS.s3 x0 x4 xo7) K = obind (laws_toWishS.l3 lp n x0 x4 xo7) (leK 0 laws_toWishS.sr3 laws_toWishS.sx3 K) := by
  intro n
  induction n with
  | zero => intros; rfl
  | succ n ih =>
    intro x0 x4 xo7
    rw [loopK_succ, laws_toWishS.t_b3, laws_toWishS.l3, laws_toWishS.n_b3]
    simp only [ih, obind_some, leK_ret, leK_brk]
theorem laws_toWishS.t_a3 (lp : Nat) (y : (List Wish)) : kont (R := (List Wish)) (laws_toWishS.E lp) laws_toWishS.an lp (finK (laws_toWishS.E lp) Tryz.f96 [(.sl TWish)]) (stkAt 3 (codeOf Tryz.f96)) (.exit 0) (laws_toWishS.sx3 y) = laws_toWishS.a3 lp y := by kernel_rfl
theorem laws_toWishS.t_e (lp : Nat) (x0 : List Wish) : evalF (laws_toWishS.E lp) laws_toWishS.an lp Tryz.f96 [.v (.sl TWish)] [(.sl TWish)] (x0, ()) = laws_toWishS.e lp (fun x0 x4 xo7 => loopK laws_toWishS.la3 (fun σ K => codeK (laws_toWishS.E lp) laws_toWishS.an lp (loopAt 3 (codeOf Tryz.f96)) σ K) lp (laws_toWishS.s3 x0 x4 xo7) (kont (laws_toWishS.E lp) laws_toWishS.an lp (finK (laws_toWishS.E lp) Tryz.f96 [(.sl TWish)]) (stkAt 3 (codeOf Tryz.f96)))) x0 := by kernel_rfl
theorem laws_toWishS.eq0 (lp : Nat) (x0 : List Wish) : evalF (laws_toWishS.E lp) laws_toWishS.an lp Tryz.f96 [.v (.sl TWish)] [(.sl TWish)] (x0, ()) = laws_toWishS lp x0 := by
  rw [laws_toWishS.t_e]; unfold laws_toWishS
  simp only [leK_ret0 _ laws_toWishS.sr3 laws_toWishS.sx3, laws_toWishS.k3, laws_toWishS.t_a3]
theorem laws_toWishS.eq (lp : Nat) (x : ADens [.v (.sl TWish)]) : evalF (laws_toWishS.E lp) laws_toWishS.an lp Tryz.f96 [.v (.sl TWish)] [(.sl TWish)] x = (laws_toWishS.S lp).F x := laws_toWishS.eq0 lp x.1
theorem laws_toWishS.ok (lp : Nat) : Sound Tryz.prog 96 (laws_toWishS.S lp) := sound_of (E := laws_toWishS.E lp) (env_ok tabFits tabEqs ⟨laws_toWish.ok lp, trivial⟩ trivial) mixed Tryz.func96 (by kernel_rfl) (c := codeOf Tryz.f96) (by kernel_rfl) (by kernel_rfl) laws_toWishS.an (fun x r h => ⟨lp, (laws_toWishS.eq lp x).trans h⟩)
def laws_toClient.E (lp : Nat) : Env := { tab := tab, fns := [(96, laws_toWishS.S lp), (97, laws_toEntryS.S lp)], ann := { own := [], ro := [1] } }
def laws_toClient.an : An := { pre := [] }
def laws_toClient.S (lp : Nat) : Spec := { ats := [.v TClient], rts := [TClient], F := fun x => laws_toClient lp x.1 }
theorem laws_toClient.eq (lp : Nat) (x : ADens [.v TClient]) : evalF (laws_toClient.E lp) laws_toClient.an lp Tryz.f57 [.v TClient] [TClient] x = (laws_toClient.S lp).F x := by kernel_rfl
theorem laws_toClient.ok (lp : Nat) : Sound Tryz.prog 57 (laws_toClient.S lp) := sound_of (E := laws_toClient.E lp) (env_ok tabFits tabEqs ⟨laws_toWishS.ok lp, laws_toEntryS.ok lp, trivial⟩ trivial) mixed Tryz.func57 (by kernel_rfl) (c := codeOf Tryz.f57) (by kernel_rfl) (by kernel_rfl) laws_toClient.an (fun x r h => ⟨lp, (laws_toClient.eq lp x).trans h⟩)
def laws_toClientS.E (lp : Nat) : Env := { tab := tab, fns := [(57, laws_toClient.S lp)], ann := { own := [], ro := [] } }
def laws_toClientS.la3 : LoopAn := { kn := { tms := [0, 3, 4], obs := [7] }, kx := { tms := [3], obs := [7] }, kr := {} }
def laws_toClientS.an : An := { loops := [(3, laws_toClientS.la3)] }
def laws_toClientS.s3 (x0 : List Client) (x4 : Int) (xo7 : List Client) : St := ⟨.v (.one (.b (.d (.sl TClient) x0))) :: (sk 2 (.v (.one (.row 7 0)) :: .v (.one (.b (.d (.int .i64) x4))) :: (sk 18 ([])))), sko 7 (some (.row 73 TClient xo7 0) :: (sko 15 ([])))⟩
def laws_toClientS.sx3 (y : (List Client)) : St := ⟨sk 3 (.v (.one (.row 7 0)) :: (sk 19 ([]))), sko 7 (some (.row 73 TClient y 0) :: (sko 15 ([])))⟩
def laws_toClientS.sr3 (z : Empty) : St := z.elim
def laws_toClientS.S (lp : Nat) : Spec := { ats := [.v (.sl TClient)], rts := [(.sl TClient)], F := fun x => laws_toClientS lp x.1 }
theorem laws_toClientS.t_b3 (lp : Nat) {R : Type} (N : St → Option R) (X : Out → St → Option R) (x0 : List Client) (x4 : Int) (xo7 : List Client) : codeK (laws_toClientS.E lp) laws_toClientS.an lp (loopAt 3 (codeOf Tryz.f28)) (laws_toClientS.s3 x0 x4 xo7) (lpK laws_toClientS.la3 N X) = laws_toClientS.b3 lp (fun x0 x4 xo7 => N (laws_toClientS.s3 x0 x4 xo7)) (fun y => X (.exit 0) (laws_toClientS.sx3 y)) (fun z => X .ret (laws_toClientS.sr3 z)) x0 x4 xo7 := by kernel_rfl
theorem laws_toClientS.n_b3 (lp : Nat) {R S : Type} (N : List Client → Int → List Client → Option R) (X : ((List Client)) → Option R) (Q : Empty → Option R) (x0 : List Client) (x4 : Int) (xo7 : List Client) (k : R → Option S) : obind (laws_toClientS.b3 lp N X Q x0 x4 xo7) k = laws_toClientS.b3 lp (fun x0 x4 xo7 => obind (N x0 x4 xo7) k) (fun y => obind (X y) k) (fun z => obind (Q z) k) x0 x4 xo7 := by
  unfold laws_toClientS.b3; simp only [obind_none, obind_some, obind_cond, obind_oif, obind_oget, obind_obind]
theorem laws_toClientS.k3 (lp : Nat) {R : Type} (K : Out → St → Option R) : ∀ (n : Nat) (x0 : List Client) (x4 : Int) (xo7 : List Client), loopK laws_toClientS.la3 (fun σ K => codeK (laws_toClientS.E lp) laws_toClientS.an lp (loopAt 3 (codeOf Tryz.f28)) σ K) n (laws_toClientS.s3 x0 x4 xo7) K = obind (laws_toClientS.l3 lp n x0 x4 xo7) (leK 0 laws_toClientS.sr3 laws_toClientS.sx3 K) := by
  intro n
  induction n with
  | zero => intros; rfl
  | succ n ih =>
    intro x0 x4 xo7
    rw [loopK_succ, laws_toClientS.t_b3, laws_toClientS.l3, laws_toClientS.n_b3]
    simp only [ih, obind_some, leK_ret, leK_brk]
theorem laws_toClientS.t_a3 (lp : Nat) (y : (List Client)) : kont (R := (List Client)) (laws_toClientS.E lp) laws_toClientS.an lp (finK (laws_toClientS.E lp) Tryz.f28 [(.sl TClient)]) (stkAt 3 (codeOf Tryz.f28)) (.exit 0) (laws_toClientS.sx3 y) = laws_toClientS.a3 lp y := by kernel_rfl
theorem laws_toClientS.t_e (lp : Nat) (x0 : List Client) : evalF (laws_toClientS.E lp) laws_toClientS.an lp Tryz.f28 [.v (.sl TClient)] [(.sl TClient)] (x0, ()) = laws_toClientS.e lp (fun x0 x4 xo7 => loopK laws_toClientS.la3 (fun σ K => codeK (laws_toClientS.E lp) laws_toClientS.an lp (loopAt 3 (codeOf Tryz.f28)) σ K) lp (laws_toClientS.s3 x0 x4 xo7) (kont (laws_toClientS.E lp) laws_toClientS.an lp (finK (laws_toClientS.E lp) Tryz.f28 [(.sl TClient)]) (stkAt 3 (codeOf Tryz.f28)))) x0 := by kernel_rfl
theorem laws_toClientS.eq0 (lp : Nat) (x0 : List Client) : evalF (laws_toClientS.E lp) laws_toClientS.an lp Tryz.f28 [.v (.sl TClient)] [(.sl TClient)] (x0, ()) = laws_toClientS lp x0 := by
  rw [laws_toClientS.t_e]; unfold laws_toClientS
  simp only [leK_ret0 _ laws_toClientS.sr3 laws_toClientS.sx3, laws_toClientS.k3, laws_toClientS.t_a3]
theorem laws_toClientS.eq (lp : Nat) (x : ADens [.v (.sl TClient)]) : evalF (laws_toClientS.E lp) laws_toClientS.an lp Tryz.f28 [.v (.sl TClient)] [(.sl TClient)] x = (laws_toClientS.S lp).F x := laws_toClientS.eq0 lp x.1
theorem laws_toClientS.ok (lp : Nat) : Sound Tryz.prog 28 (laws_toClientS.S lp) := sound_of (E := laws_toClientS.E lp) (env_ok tabFits tabEqs ⟨laws_toClient.ok lp, trivial⟩ trivial) mixed Tryz.func28 (by kernel_rfl) (c := codeOf Tryz.f28) (by kernel_rfl) (by kernel_rfl) laws_toClientS.an (fun x r h => ⟨lp, (laws_toClientS.eq lp x).trans h⟩)
def laws_toEvent.E : Env := { tab := tab, fns := [], ann := { own := [], ro := [1] } }
def laws_toEvent.an : An := { pre := [] }
def laws_toEvent.S : Spec := { ats := [.v TEvent], rts := [TEvent], F := fun x => laws_toEvent x.1 }
theorem laws_toEvent.eq (lp : Nat) (x : ADens [.v TEvent]) : evalF (laws_toEvent.E) laws_toEvent.an lp Tryz.f143 [.v TEvent] [TEvent] x = (laws_toEvent.S).F x := by kernel_rfl
theorem laws_toEvent.ok : Sound Tryz.prog 143 (laws_toEvent.S) := sound_of (E := laws_toEvent.E) (env_ok tabFits tabEqs trivial trivial) mixed Tryz.func143 (by kernel_rfl) (c := codeOf Tryz.f143) (by kernel_rfl) (by kernel_rfl) laws_toEvent.an (fun x r h => ⟨0, (laws_toEvent.eq 0 x).trans h⟩)
def laws_toEventS.E (lp : Nat) : Env := { tab := tab, fns := [(143, laws_toEvent.S)], ann := { own := [], ro := [] } }
def laws_toEventS.la3 : LoopAn := { kn := { tms := [0, 3, 4], obs := [7] }, kx := { tms := [3], obs := [7] }, kr := {} }
def laws_toEventS.an : An := { loops := [(3, laws_toEventS.la3)] }
def laws_toEventS.s3 (x0 : List Event) (x4 : Int) (xo7 : List Event) : St := ⟨.v (.one (.b (.d (.sl TEvent) x0))) :: (sk 2 (.v (.one (.row 7 0)) :: .v (.one (.b (.d (.int .i64) x4))) :: (sk 18 ([])))), sko 7 (some (.row 156 TEvent xo7 0) :: (sko 15 ([])))⟩
def laws_toEventS.sx3 (y : (List Event)) : St := ⟨sk 3 (.v (.one (.row 7 0)) :: (sk 19 ([]))), sko 7 (some (.row 156 TEvent y 0) :: (sko 15 ([])))⟩
def laws_toEventS.sr3 (z : Empty) : St := z.elim
def laws_toEventS.S (lp : Nat) : Spec := { ats := [.v (.sl TEvent)], rts := [(.sl TEvent)], F := fun x => laws_toEventS lp x.1 }
theorem laws_toEventS.t_b3 (lp : Nat) {R : Type} (N : St → Option R) (X : Out → St → Option R) (x0 : List Event) (x4 : Int) (xo7 : List Event) : codeK (laws_toEventS.E lp) laws_toEventS.an lp (loopAt 3 (codeOf Tryz.f98)) (laws_toEventS.s3 x0 x4 xo7) (lpK laws_toEventS.la3 N X) = laws_toEventS.b3 lp (fun x0 x4 xo7 => N (laws_toEventS.s3 x0 x4 xo7)) (fun y => X (.exit 0) (laws_toEventS.sx3 y)) (fun z => X .ret (laws_toEventS.sr3 z)) x0 x4 xo7 := by kernel_rfl
theorem laws_toEventS.n_b3 (lp : Nat) {R S : Type} (N : List Event → Int → List Event → Option R) (X : ((List Event)) → Option R) (Q : Empty → Option R) (x0 : List Event) (x4 : Int) (xo7 : List Event) (k : R → Option S) : obind (laws_toEventS.b3 lp N X Q x0 x4 xo7) k = laws_toEventS.b3 lp (fun x0 x4 xo7 => obind (N x0 x4 xo7) k) (fun y => obind (X y) k) (fun z => obind (Q z) k) x0 x4 xo7 := by
  unfold laws_toEventS.b3; simp only [obind_none, obind_some, obind_cond, obind_oif, obind_oget, obind_obind]
theorem laws_toEventS.k3 (lp : Nat) {R : Type} (K : Out → St → Option R) : ∀ (n : Nat) (x0 : List Event) (x4 : Int) (xo7 : List Event), loopK laws_toEventS.la3 (fun σ K => codeK (laws_toEventS.E lp) laws_toEventS.an lp (loopAt 3 (codeOf Tryz.f98)) σ K) n (laws_toEventS.s3 x0 x4 xo7) K = obind (laws_toEventS.l3 lp n x0 x4 xo7) (leK 0 laws_toEventS.sr3 laws_toEventS.sx3 K) := by
  intro n
  induction n with
  | zero => intros; rfl
  | succ n ih =>
    intro x0 x4 xo7
    rw [loopK_succ, laws_toEventS.t_b3, laws_toEventS.l3, laws_toEventS.n_b3]
    simp only [ih, obind_some, leK_ret, leK_brk]
theorem laws_toEventS.t_a3 (lp : Nat) (y : (List Event)) : kont (R := (List Event)) (laws_toEventS.E lp) laws_toEventS.an lp (finK (laws_toEventS.E lp) Tryz.f98 [(.sl TEvent)]) (stkAt 3 (codeOf Tryz.f98)) (.exit 0) (laws_toEventS.sx3 y) = laws_toEventS.a3 lp y := by kernel_rfl
theorem laws_toEventS.t_e (lp : Nat) (x0 : List Event) : evalF (laws_toEventS.E lp) laws_toEventS.an lp Tryz.f98 [.v (.sl TEvent)] [(.sl TEvent)] (x0, ()) = laws_toEventS.e lp (fun x0 x4 xo7 => loopK laws_toEventS.la3 (fun σ K => codeK (laws_toEventS.E lp) laws_toEventS.an lp (loopAt 3 (codeOf Tryz.f98)) σ K) lp (laws_toEventS.s3 x0 x4 xo7) (kont (laws_toEventS.E lp) laws_toEventS.an lp (finK (laws_toEventS.E lp) Tryz.f98 [(.sl TEvent)]) (stkAt 3 (codeOf Tryz.f98)))) x0 := by kernel_rfl
theorem laws_toEventS.eq0 (lp : Nat) (x0 : List Event) : evalF (laws_toEventS.E lp) laws_toEventS.an lp Tryz.f98 [.v (.sl TEvent)] [(.sl TEvent)] (x0, ()) = laws_toEventS lp x0 := by
  rw [laws_toEventS.t_e]; unfold laws_toEventS
  simp only [leK_ret0 _ laws_toEventS.sr3 laws_toEventS.sx3, laws_toEventS.k3, laws_toEventS.t_a3]
theorem laws_toEventS.eq (lp : Nat) (x : ADens [.v (.sl TEvent)]) : evalF (laws_toEventS.E lp) laws_toEventS.an lp Tryz.f98 [.v (.sl TEvent)] [(.sl TEvent)] x = (laws_toEventS.S lp).F x := laws_toEventS.eq0 lp x.1
theorem laws_toEventS.ok (lp : Nat) : Sound Tryz.prog 98 (laws_toEventS.S lp) := sound_of (E := laws_toEventS.E lp) (env_ok tabFits tabEqs ⟨laws_toEvent.ok, trivial⟩ trivial) mixed Tryz.func98 (by kernel_rfl) (c := codeOf Tryz.f98) (by kernel_rfl) (by kernel_rfl) laws_toEventS.an (fun x r h => ⟨lp, (laws_toEventS.eq lp x).trans h⟩)
def laws_toWatch.E (lp : Nat) : Env := { tab := tab, fns := [(98, laws_toEventS.S lp)], ann := { own := [], ro := [1] } }
def laws_toWatch.an : An := { pre := [] }
def laws_toWatch.S (lp : Nat) : Spec := { ats := [.v TWatch], rts := [TWatch], F := fun x => laws_toWatch lp x.1 }
theorem laws_toWatch.eq (lp : Nat) (x : ADens [.v TWatch]) : evalF (laws_toWatch.E lp) laws_toWatch.an lp Tryz.f58 [.v TWatch] [TWatch] x = (laws_toWatch.S lp).F x := by kernel_rfl
theorem laws_toWatch.ok (lp : Nat) : Sound Tryz.prog 58 (laws_toWatch.S lp) := sound_of (E := laws_toWatch.E lp) (env_ok tabFits tabEqs ⟨laws_toEventS.ok lp, trivial⟩ trivial) mixed Tryz.func58 (by kernel_rfl) (c := codeOf Tryz.f58) (by kernel_rfl) (by kernel_rfl) laws_toWatch.an (fun x r h => ⟨lp, (laws_toWatch.eq lp x).trans h⟩)
def laws_toWatchS.E (lp : Nat) : Env := { tab := tab, fns := [(58, laws_toWatch.S lp)], ann := { own := [], ro := [] } }
def laws_toWatchS.la3 : LoopAn := { kn := { tms := [0, 3, 4], obs := [7] }, kx := { tms := [3], obs := [7] }, kr := {} }
def laws_toWatchS.an : An := { loops := [(3, laws_toWatchS.la3)] }
def laws_toWatchS.s3 (x0 : List Watch) (x4 : Int) (xo7 : List Watch) : St := ⟨.v (.one (.b (.d (.sl TWatch) x0))) :: (sk 2 (.v (.one (.row 7 0)) :: .v (.one (.b (.d (.int .i64) x4))) :: (sk 18 ([])))), sko 7 (some (.row 117 TWatch xo7 0) :: (sko 15 ([])))⟩
def laws_toWatchS.sx3 (y : (List Watch)) : St := ⟨sk 3 (.v (.one (.row 7 0)) :: (sk 19 ([]))), sko 7 (some (.row 117 TWatch y 0) :: (sko 15 ([])))⟩
def laws_toWatchS.sr3 (z : Empty) : St := z.elim
def laws_toWatchS.S (lp : Nat) : Spec := { ats := [.v (.sl TWatch)], rts := [(.sl TWatch)], F := fun x => laws_toWatchS lp x.1 }
theorem laws_toWatchS.t_b3 (lp : Nat) {R : Type} (N : St → Option R) (X : Out → St → Option R) (x0 : List Watch) (x4 : Int) (xo7 : List Watch) : codeK (laws_toWatchS.E lp) laws_toWatchS.an lp (loopAt 3 (codeOf Tryz.f29)) (laws_toWatchS.s3 x0 x4 xo7) (lpK laws_toWatchS.la3 N X) = laws_toWatchS.b3 lp (fun x0 x4 xo7 => N (laws_toWatchS.s3 x0 x4 xo7)) (fun y => X (.exit 0) (laws_toWatchS.sx3 y)) (fun z => X .ret (laws_toWatchS.sr3 z)) x0 x4 xo7 := by kernel_rfl
theorem laws_toWatchS.n_b3 (lp : Nat) {R S : Type} (N : List Watch → Int → List Watch → Option R) (X : ((List Watch)) → Option R) (Q : Empty → Option R) (x0 : List Watch) (x4 : Int) (xo7 : List Watch) (k : R → Option S) : obind (laws_toWatchS.b3 lp N X Q x0 x4 xo7) k = laws_toWatchS.b3 lp (fun x0 x4 xo7 => obind (N x0 x4 xo7) k) (fun y => obind (X y) k) (fun z => obind (Q z) k) x0 x4 xo7 := by
  unfold laws_toWatchS.b3; simp only [obind_none, obind_some, obind_cond, obind_oif, obind_oget, obind_obind]
theorem laws_toWatchS.k3 (lp : Nat) {R : Type} (K : Out → St → Option R) : ∀ (n : Nat) (x0 : List Watch) (x4 : Int) (xo7 : List Watch), loopK laws_toWatchS.la3 (fun σ K => codeK (laws_toWatchS.E lp) laws_toWatchS.an lp (loopAt 3 (codeOf Tryz.f29)) σ K) n (laws_toWatchS.s3 x0 x4 xo7) K = obind (laws_toWatchS.l3 lp n x0 x4 xo7) (leK 0 laws_toWatchS.sr3 laws_toWatchS.sx3 K) := by
  intro n
  induction n with
  | zero => intros; rfl
  | succ n ih =>
    intro x0 x4 xo7
    rw [loopK_succ, laws_toWatchS.t_b3, laws_toWatchS.l3, laws_toWatchS.n_b3]
    simp only [ih, obind_some, leK_ret, leK_brk]
theorem laws_toWatchS.t_a3 (lp : Nat) (y : (List Watch)) : kont (R := (List Watch)) (laws_toWatchS.E lp) laws_toWatchS.an lp (finK (laws_toWatchS.E lp) Tryz.f29 [(.sl TWatch)]) (stkAt 3 (codeOf Tryz.f29)) (.exit 0) (laws_toWatchS.sx3 y) = laws_toWatchS.a3 lp y := by kernel_rfl
theorem laws_toWatchS.t_e (lp : Nat) (x0 : List Watch) : evalF (laws_toWatchS.E lp) laws_toWatchS.an lp Tryz.f29 [.v (.sl TWatch)] [(.sl TWatch)] (x0, ()) = laws_toWatchS.e lp (fun x0 x4 xo7 => loopK laws_toWatchS.la3 (fun σ K => codeK (laws_toWatchS.E lp) laws_toWatchS.an lp (loopAt 3 (codeOf Tryz.f29)) σ K) lp (laws_toWatchS.s3 x0 x4 xo7) (kont (laws_toWatchS.E lp) laws_toWatchS.an lp (finK (laws_toWatchS.E lp) Tryz.f29 [(.sl TWatch)]) (stkAt 3 (codeOf Tryz.f29)))) x0 := by kernel_rfl
theorem laws_toWatchS.eq0 (lp : Nat) (x0 : List Watch) : evalF (laws_toWatchS.E lp) laws_toWatchS.an lp Tryz.f29 [.v (.sl TWatch)] [(.sl TWatch)] (x0, ()) = laws_toWatchS lp x0 := by
  rw [laws_toWatchS.t_e]; unfold laws_toWatchS
  simp only [leK_ret0 _ laws_toWatchS.sr3 laws_toWatchS.sx3, laws_toWatchS.k3, laws_toWatchS.t_a3]
theorem laws_toWatchS.eq (lp : Nat) (x : ADens [.v (.sl TWatch)]) : evalF (laws_toWatchS.E lp) laws_toWatchS.an lp Tryz.f29 [.v (.sl TWatch)] [(.sl TWatch)] x = (laws_toWatchS.S lp).F x := laws_toWatchS.eq0 lp x.1
theorem laws_toWatchS.ok (lp : Nat) : Sound Tryz.prog 29 (laws_toWatchS.S lp) := sound_of (E := laws_toWatchS.E lp) (env_ok tabFits tabEqs ⟨laws_toWatch.ok lp, trivial⟩ trivial) mixed Tryz.func29 (by kernel_rfl) (c := codeOf Tryz.f29) (by kernel_rfl) (by kernel_rfl) laws_toWatchS.an (fun x r h => ⟨lp, (laws_toWatchS.eq lp x).trans h⟩)
def laws_toOp.E (lp : Nat) : Env := { tab := tab, fns := [(144, laws_toEditS.S lp)], ann := { own := [], ro := [1] } }
def laws_toOp.an : An := { pre := [] }
def laws_toOp.S (lp : Nat) : Spec := { ats := [.v TOp], rts := [TOp], F := fun x => laws_toOp lp x.1 }
theorem laws_toOp.eq (lp : Nat) (x : ADens [.v TOp]) : evalF (laws_toOp.E lp) laws_toOp.an lp Tryz.f99 [.v TOp] [TOp] x = (laws_toOp.S lp).F x := by kernel_rfl
theorem laws_toOp.ok (lp : Nat) : Sound Tryz.prog 99 (laws_toOp.S lp) := sound_of (E := laws_toOp.E lp) (env_ok tabFits tabEqs ⟨laws_toEditS.ok lp, trivial⟩ trivial) mixed Tryz.func99 (by kernel_rfl) (c := codeOf Tryz.f99) (by kernel_rfl) (by kernel_rfl) laws_toOp.an (fun x r h => ⟨lp, (laws_toOp.eq lp x).trans h⟩)
def laws_toStringS.E (lp : Nat) : Env := { tab := tab, fns := [], ann := { own := [], ro := [] } }
def laws_toStringS.la3 : LoopAn := { kn := { tms := [0, 3, 4], obs := [7] }, kx := { tms := [3], obs := [7] }, kr := {} }
def laws_toStringS.an : An := { loops := [(3, laws_toStringS.la3)] }
def laws_toStringS.s3 (x0 : List ByteArray) (x4 : Int) (xo7 : List ByteArray) : St := ⟨.v (.one (.b (.d (.sl .str) x0))) :: (sk 2 (.v (.one (.row 7 0)) :: .v (.one (.b (.d (.int .i64) x4))) :: (sk 17 ([])))), sko 7 (some (.row 9 .str xo7 0) :: (sko 14 ([])))⟩
def laws_toStringS.sx3 (y : (List ByteArray)) : St := ⟨sk 3 (.v (.one (.row 7 0)) :: (sk 18 ([]))), sko 7 (some (.row 9 .str y 0) :: (sko 14 ([])))⟩
def laws_toStringS.sr3 (z : Empty) : St := z.elim
def laws_toStringS.S (lp : Nat) : Spec := { ats := [.v (.sl .str)], rts := [(.sl .str)], F := fun x => laws_toStringS lp x.1 }
theorem laws_toStringS.t_b3 (lp : Nat) {R : Type} (N : St → Option R) (X : Out → St → Option R) (x0 : List ByteArray) (x4 : Int) (xo7 : List ByteArray) : codeK (laws_toStringS.E lp) laws_toStringS.an lp (loopAt 3 (codeOf Tryz.f145)) (laws_toStringS.s3 x0 x4 xo7) (lpK laws_toStringS.la3 N X) = laws_toStringS.b3 lp (fun x0 x4 xo7 => N (laws_toStringS.s3 x0 x4 xo7)) (fun y => X (.exit 0) (laws_toStringS.sx3 y)) (fun z => X .ret (laws_toStringS.sr3 z)) x0 x4 xo7 := by kernel_rfl
theorem laws_toStringS.n_b3 (lp : Nat) {R S : Type} (N : List ByteArray → Int → List ByteArray → Option R) (X : ((List ByteArray)) → Option R) (Q : Empty → Option R) (x0 : List ByteArray) (x4 : Int) (xo7 : List ByteArray) (k : R → Option S) : obind (laws_toStringS.b3 lp N X Q x0 x4 xo7) k = laws_toStringS.b3 lp (fun x0 x4 xo7 => obind (N x0 x4 xo7) k) (fun y => obind (X y) k) (fun z => obind (Q z) k) x0 x4 xo7 := by
  unfold laws_toStringS.b3; simp only [obind_none, obind_some, obind_cond, obind_oif, obind_oget, obind_obind]
theorem laws_toStringS.k3 (lp : Nat) {R : Type} (K : Out → St → Option R) : ∀ (n : Nat) (x0 : List ByteArray) (x4 : Int) (xo7 : List ByteArray), loopK laws_toStringS.la3 (fun σ K => codeK (laws_toStringS.E lp) laws_toStringS.an lp (loopAt 3 (codeOf Tryz.f145)) σ K) n (laws_toStringS.s3 x0 x4 xo7) K = obind (laws_toStringS.l3 lp n x0 x4 xo7) (leK 0 laws_toStringS.sr3 laws_toStringS.sx3 K) := by
  intro n
  induction n with
  | zero => intros; rfl
  | succ n ih =>
    intro x0 x4 xo7
    rw [loopK_succ, laws_toStringS.t_b3, laws_toStringS.l3, laws_toStringS.n_b3]
    simp only [ih, obind_some, leK_ret, leK_brk]
theorem laws_toStringS.t_a3 (lp : Nat) (y : (List ByteArray)) : kont (R := (List ByteArray)) (laws_toStringS.E lp) laws_toStringS.an lp (finK (laws_toStringS.E lp) Tryz.f145 [(.sl .str)]) (stkAt 3 (codeOf Tryz.f145)) (.exit 0) (laws_toStringS.sx3 y) = laws_toStringS.a3 lp y := by kernel_rfl
theorem laws_toStringS.t_e (lp : Nat) (x0 : List ByteArray) : evalF (laws_toStringS.E lp) laws_toStringS.an lp Tryz.f145 [.v (.sl .str)] [(.sl .str)] (x0, ()) = laws_toStringS.e lp (fun x0 x4 xo7 => loopK laws_toStringS.la3 (fun σ K => codeK (laws_toStringS.E lp) laws_toStringS.an lp (loopAt 3 (codeOf Tryz.f145)) σ K) lp (laws_toStringS.s3 x0 x4 xo7) (kont (laws_toStringS.E lp) laws_toStringS.an lp (finK (laws_toStringS.E lp) Tryz.f145 [(.sl .str)]) (stkAt 3 (codeOf Tryz.f145)))) x0 := by kernel_rfl
theorem laws_toStringS.eq0 (lp : Nat) (x0 : List ByteArray) : evalF (laws_toStringS.E lp) laws_toStringS.an lp Tryz.f145 [.v (.sl .str)] [(.sl .str)] (x0, ()) = laws_toStringS lp x0 := by
  rw [laws_toStringS.t_e]; unfold laws_toStringS
  simp only [leK_ret0 _ laws_toStringS.sr3 laws_toStringS.sx3, laws_toStringS.k3, laws_toStringS.t_a3]
theorem laws_toStringS.eq (lp : Nat) (x : ADens [.v (.sl .str)]) : evalF (laws_toStringS.E lp) laws_toStringS.an lp Tryz.f145 [.v (.sl .str)] [(.sl .str)] x = (laws_toStringS.S lp).F x := laws_toStringS.eq0 lp x.1
theorem laws_toStringS.ok (lp : Nat) : Sound Tryz.prog 145 (laws_toStringS.S lp) := sound_of (E := laws_toStringS.E lp) (env_ok tabFits tabEqs trivial trivial) mixed Tryz.func145 (by kernel_rfl) (c := codeOf Tryz.f145) (by kernel_rfl) (by kernel_rfl) laws_toStringS.an (fun x r h => ⟨lp, (laws_toStringS.eq lp x).trans h⟩)
def laws_toResult.E (lp : Nat) : Env := { tab := tab, fns := [(145, laws_toStringS.S lp), (97, laws_toEntryS.S lp)], ann := { own := [], ro := [1] } }
def laws_toResult.an : An := { pre := [] }
def laws_toResult.S (lp : Nat) : Spec := { ats := [.v TResult], rts := [TResult], F := fun x => laws_toResult lp x.1 }
theorem laws_toResult.eq (lp : Nat) (x : ADens [.v TResult]) : evalF (laws_toResult.E lp) laws_toResult.an lp Tryz.f100 [.v TResult] [TResult] x = (laws_toResult.S lp).F x := by kernel_rfl
theorem laws_toResult.ok (lp : Nat) : Sound Tryz.prog 100 (laws_toResult.S lp) := sound_of (E := laws_toResult.E lp) (env_ok tabFits tabEqs ⟨laws_toStringS.ok lp, laws_toEntryS.ok lp, trivial⟩ trivial) mixed Tryz.func100 (by kernel_rfl) (c := codeOf Tryz.f100) (by kernel_rfl) (by kernel_rfl) laws_toResult.an (fun x r h => ⟨lp, (laws_toResult.eq lp x).trans h⟩)
def laws_toMoment.E (lp : Nat) : Env := { tab := tab, fns := [(99, laws_toOp.S lp), (100, laws_toResult.S lp)], ann := { own := [], ro := [1] } }
def laws_toMoment.an : An := { pre := [] }
def laws_toMoment.S (lp : Nat) : Spec := { ats := [.v TMoment], rts := [TMoment], F := fun x => laws_toMoment lp x.1 }
theorem laws_toMoment.eq (lp : Nat) (x : ADens [.v TMoment]) : evalF (laws_toMoment.E lp) laws_toMoment.an lp Tryz.f59 [.v TMoment] [TMoment] x = (laws_toMoment.S lp).F x := by kernel_rfl
theorem laws_toMoment.ok (lp : Nat) : Sound Tryz.prog 59 (laws_toMoment.S lp) := sound_of (E := laws_toMoment.E lp) (env_ok tabFits tabEqs ⟨laws_toOp.ok lp, laws_toResult.ok lp, trivial⟩ trivial) mixed Tryz.func59 (by kernel_rfl) (c := codeOf Tryz.f59) (by kernel_rfl) (by kernel_rfl) laws_toMoment.an (fun x r h => ⟨lp, (laws_toMoment.eq lp x).trans h⟩)
def laws_toMomentS.E (lp : Nat) : Env := { tab := tab, fns := [(59, laws_toMoment.S lp)], ann := { own := [], ro := [] } }
def laws_toMomentS.la3 : LoopAn := { kn := { tms := [0, 3, 4], obs := [7] }, kx := { tms := [3], obs := [7] }, kr := {} }
def laws_toMomentS.an : An := { loops := [(3, laws_toMomentS.la3)] }
def laws_toMomentS.s3 (x0 : List Moment) (x4 : Int) (xo7 : List Moment) : St := ⟨.v (.one (.b (.d (.sl TMoment) x0))) :: (sk 2 (.v (.one (.row 7 0)) :: .v (.one (.b (.d (.int .i64) x4))) :: (sk 18 ([])))), sko 7 (some (.row 70 TMoment xo7 0) :: (sko 15 ([])))⟩
def laws_toMomentS.sx3 (y : (List Moment)) : St := ⟨sk 3 (.v (.one (.row 7 0)) :: (sk 19 ([]))), sko 7 (some (.row 70 TMoment y 0) :: (sko 15 ([])))⟩
def laws_toMomentS.sr3 (z : Empty) : St := z.elim
def laws_toMomentS.S (lp : Nat) : Spec := { ats := [.v (.sl TMoment)], rts := [(.sl TMoment)], F := fun x => laws_toMomentS lp x.1 }
theorem laws_toMomentS.t_b3 (lp : Nat) {R : Type} (N : St → Option R) (X : Out → St → Option R) (x0 : List Moment) (x4 : Int) (xo7 : List Moment) : codeK (laws_toMomentS.E lp) laws_toMomentS.an lp (loopAt 3 (codeOf Tryz.f30)) (laws_toMomentS.s3 x0 x4 xo7) (lpK laws_toMomentS.la3 N X) = laws_toMomentS.b3 lp (fun x0 x4 xo7 => N (laws_toMomentS.s3 x0 x4 xo7)) (fun y => X (.exit 0) (laws_toMomentS.sx3 y)) (fun z => X .ret (laws_toMomentS.sr3 z)) x0 x4 xo7 := by kernel_rfl
theorem laws_toMomentS.n_b3 (lp : Nat) {R S : Type} (N : List Moment → Int → List Moment → Option R) (X : ((List Moment)) → Option R) (Q : Empty → Option R) (x0 : List Moment) (x4 : Int) (xo7 : List Moment) (k : R → Option S) : obind (laws_toMomentS.b3 lp N X Q x0 x4 xo7) k = laws_toMomentS.b3 lp (fun x0 x4 xo7 => obind (N x0 x4 xo7) k) (fun y => obind (X y) k) (fun z => obind (Q z) k) x0 x4 xo7 := by
  unfold laws_toMomentS.b3; simp only [obind_none, obind_some, obind_cond, obind_oif, obind_oget, obind_obind]
theorem laws_toMomentS.k3 (lp : Nat) {R : Type} (K : Out → St → Option R) : ∀ (n : Nat) (x0 : List Moment) (x4 : Int) (xo7 : List Moment), loopK laws_toMomentS.la3 (fun σ K => codeK (laws_toMomentS.E lp) laws_toMomentS.an lp (loopAt 3 (codeOf Tryz.f30)) σ K) n (laws_toMomentS.s3 x0 x4 xo7) K = obind (laws_toMomentS.l3 lp n x0 x4 xo7) (leK 0 laws_toMomentS.sr3 laws_toMomentS.sx3 K) := by
  intro n
  induction n with
  | zero => intros; rfl
  | succ n ih =>
    intro x0 x4 xo7
    rw [loopK_succ, laws_toMomentS.t_b3, laws_toMomentS.l3, laws_toMomentS.n_b3]
    simp only [ih, obind_some, leK_ret, leK_brk]
theorem laws_toMomentS.t_a3 (lp : Nat) (y : (List Moment)) : kont (R := (List Moment)) (laws_toMomentS.E lp) laws_toMomentS.an lp (finK (laws_toMomentS.E lp) Tryz.f30 [(.sl TMoment)]) (stkAt 3 (codeOf Tryz.f30)) (.exit 0) (laws_toMomentS.sx3 y) = laws_toMomentS.a3 lp y := by kernel_rfl
theorem laws_toMomentS.t_e (lp : Nat) (x0 : List Moment) : evalF (laws_toMomentS.E lp) laws_toMomentS.an lp Tryz.f30 [.v (.sl TMoment)] [(.sl TMoment)] (x0, ()) = laws_toMomentS.e lp (fun x0 x4 xo7 => loopK laws_toMomentS.la3 (fun σ K => codeK (laws_toMomentS.E lp) laws_toMomentS.an lp (loopAt 3 (codeOf Tryz.f30)) σ K) lp (laws_toMomentS.s3 x0 x4 xo7) (kont (laws_toMomentS.E lp) laws_toMomentS.an lp (finK (laws_toMomentS.E lp) Tryz.f30 [(.sl TMoment)]) (stkAt 3 (codeOf Tryz.f30)))) x0 := by kernel_rfl
theorem laws_toMomentS.eq0 (lp : Nat) (x0 : List Moment) : evalF (laws_toMomentS.E lp) laws_toMomentS.an lp Tryz.f30 [.v (.sl TMoment)] [(.sl TMoment)] (x0, ()) = laws_toMomentS lp x0 := by
  rw [laws_toMomentS.t_e]; unfold laws_toMomentS
  simp only [leK_ret0 _ laws_toMomentS.sr3 laws_toMomentS.sx3, laws_toMomentS.k3, laws_toMomentS.t_a3]
theorem laws_toMomentS.eq (lp : Nat) (x : ADens [.v (.sl TMoment)]) : evalF (laws_toMomentS.E lp) laws_toMomentS.an lp Tryz.f30 [.v (.sl TMoment)] [(.sl TMoment)] x = (laws_toMomentS.S lp).F x := laws_toMomentS.eq0 lp x.1
theorem laws_toMomentS.ok (lp : Nat) : Sound Tryz.prog 30 (laws_toMomentS.S lp) := sound_of (E := laws_toMomentS.E lp) (env_ok tabFits tabEqs ⟨laws_toMoment.ok lp, trivial⟩ trivial) mixed Tryz.func30 (by kernel_rfl) (c := codeOf Tryz.f30) (by kernel_rfl) (by kernel_rfl) laws_toMomentS.an (fun x r h => ⟨lp, (laws_toMomentS.eq lp x).trans h⟩)
def laws_toWorld.E (lp : Nat) : Env := { tab := tab, fns := [(27, laws_toBase.S lp), (28, laws_toClientS.S lp), (29, laws_toWatchS.S lp), (30, laws_toMomentS.S lp)], ann := { own := [], ro := [1] } }
def laws_toWorld.an : An := { pre := [] }
def laws_toWorld.S (lp : Nat) : Spec := { ats := [.v TWorld], rts := [TWorld], F := fun x => laws_toWorld lp x.1 }
theorem laws_toWorld.eq (lp : Nat) (x : ADens [.v TWorld]) : evalF (laws_toWorld.E lp) laws_toWorld.an lp Tryz.f10 [.v TWorld] [TWorld] x = (laws_toWorld.S lp).F x := by kernel_rfl
theorem laws_toWorld.ok (lp : Nat) : Sound Tryz.prog 10 (laws_toWorld.S lp) := sound_of (E := laws_toWorld.E lp) (env_ok tabFits tabEqs ⟨laws_toBase.ok lp, laws_toClientS.ok lp, laws_toWatchS.ok lp, laws_toMomentS.ok lp, trivial⟩ trivial) mixed Tryz.func10 (by kernel_rfl) (c := codeOf Tryz.f10) (by kernel_rfl) (by kernel_rfl) laws_toWorld.an (fun x r h => ⟨lp, (laws_toWorld.eq lp x).trans h⟩)
def laws_eqEntry.E : Env := { tab := tab, fns := [], ann := { own := [], ro := [2, 3] } }
def laws_eqEntry.an : An := { pre := [] }
def laws_eqEntry.S : Spec := { ats := [.v TEntry, .v TEntry], rts := [.bool], F := fun x => laws_eqEntry x.1 x.2.1 }
theorem laws_eqEntry.eq (lp : Nat) (x : ADens [.v TEntry, .v TEntry]) : evalF (laws_eqEntry.E) laws_eqEntry.an lp Tryz.f176 [.v TEntry, .v TEntry] [.bool] x = (laws_eqEntry.S).F x := by kernel_rfl
theorem laws_eqEntry.ok : Sound Tryz.prog 176 (laws_eqEntry.S) := sound_of (E := laws_eqEntry.E) (env_ok tabFits tabEqs trivial trivial) mixed Tryz.func176 (by kernel_rfl) (c := codeOf Tryz.f176) (by kernel_rfl) (by kernel_rfl) laws_eqEntry.an (fun x r h => ⟨0, (laws_eqEntry.eq 0 x).trans h⟩)
def laws_eqEntryS.E (lp : Nat) : Env := { tab := tab, fns := [(176, laws_eqEntry.S)], ann := { own := [], ro := [] } }
def laws_eqEntryS.la4 : LoopAn := { kn := { tms := [0, 1, 5] }, kx := {}, kr := { tms := [4] } }
def laws_eqEntryS.an : An := { loops := [(4, laws_eqEntryS.la4)] }
def laws_eqEntryS.s4 (x0 : List Entry) (x1 : List Entry) (x5 : Int) : St := ⟨.v (.one (.b (.d (.sl TEntry) x0))) :: .v (.one (.b (.d (.sl TEntry) x1))) :: (sk 3 (.v (.one (.b (.d (.int .i64) x5))) :: (sk 21 ([])))), sko 27 ([])⟩
def laws_eqEntryS.sx4 (y : Unit) : St := ⟨sk 27 ([]), sko 27 ([])⟩
def laws_eqEntryS.sr4 (z : Bool) : St := ⟨sk 4 (.v (.one (.b (.d .bool z))) :: (sk 22 ([]))), sko 27 ([])⟩
def laws_eqEntryS.S (lp : Nat) : Spec := { ats := [.v (.sl TEntry), .v (.sl TEntry)], rts := [.bool], F := fun x => laws_eqEntryS lp x.1 x.2.1 }
theorem laws_eqEntryS.t_b4 (lp : Nat) {R : Type} (N : St → Option R) (X : Out → St → Option R) (x0 : List Entry) (x1 : List Entry) (x5 : Int) : codeK (laws_eqEntryS.E lp) laws_eqEntryS.an lp (loopAt 4 (codeOf Tryz.f123)) (laws_eqEntryS.s4 x0 x1 x5) (lpK laws_eqEntryS.la4 N X) = laws_eqEntryS.b4 lp (fun x0 x1 x5 => N (laws_eqEntryS.s4 x0 x1 x5)) (fun y => X (.exit 0) (laws_eqEntryS.sx4 y)) (fun z => X .ret (laws_eqEntryS.sr4 z)) x0 x1 x5 := by kernel_rfl
theorem laws_eqEntryS.n_b4 (lp : Nat) {R S : Type} (N : List Entry → List Entry → Int → Option R) (X : Unit → Option R) (Q : Bool → Option R) (x0 : List Entry) (x1 : List Entry) (x5 : Int) (k : R → Option S) : obind (laws_eqEntryS.b4 lp N X Q x0 x1 x5) k = laws_eqEntryS.b4 lp (fun x0 x1 x5 => obind (N x0 x1 x5) k) (fun y => obind (X y) k) (fun z => obind (Q z) k) x0 x1 x5 := by
  unfold laws_eqEntryS.b4; simp only [obind_none, obind_some, obind_cond, obind_oif, obind_oget, obind_obind]
theorem laws_eqEntryS.k4 (lp : Nat) {R : Type} (K : Out → St → Option R) : ∀ (n : Nat) (x0 : List Entry) (x1 : List Entry) (x5 : Int), loopK laws_eqEntryS.la4 (fun σ K => codeK (laws_eqEntryS.E lp) laws_eqEntryS.an lp (loopAt 4 (codeOf Tryz.f123)) σ K) n (laws_eqEntryS.s4 x0 x1 x5) K = obind (laws_eqEntryS.l4 lp n x0 x1 x5) (leK 0 laws_eqEntryS.sr4 laws_eqEntryS.sx4 K) := by
  intro n
  induction n with
  | zero => intros; rfl
  | succ n ih =>
    intro x0 x1 x5
    rw [loopK_succ, laws_eqEntryS.t_b4, laws_eqEntryS.l4, laws_eqEntryS.n_b4]
    simp only [ih, obind_some, leK_ret, leK_brk]
theorem laws_eqEntryS.t_a4 (lp : Nat) (y : Unit) : kont (R := Bool) (laws_eqEntryS.E lp) laws_eqEntryS.an lp (finK (laws_eqEntryS.E lp) Tryz.f123 [.bool]) (stkAt 4 (codeOf Tryz.f123)) (.exit 0) (laws_eqEntryS.sx4 y) = laws_eqEntryS.a4 lp y := by kernel_rfl
theorem laws_eqEntryS.t_q4 (lp : Nat) (z : Bool) : kont (R := Bool) (laws_eqEntryS.E lp) laws_eqEntryS.an lp (finK (laws_eqEntryS.E lp) Tryz.f123 [.bool]) (stkAt 4 (codeOf Tryz.f123)) .ret (laws_eqEntryS.sr4 z) = laws_eqEntryS.q4 lp z := by kernel_rfl
theorem laws_eqEntryS.t_e (lp : Nat) (x0 : List Entry) (x1 : List Entry) : evalF (laws_eqEntryS.E lp) laws_eqEntryS.an lp Tryz.f123 [.v (.sl TEntry), .v (.sl TEntry)] [.bool] (x0, x1, ()) = laws_eqEntryS.e lp (fun x0 x1 x5 => loopK laws_eqEntryS.la4 (fun σ K => codeK (laws_eqEntryS.E lp) laws_eqEntryS.an lp (loopAt 4 (codeOf Tryz.f123)) σ K) lp (laws_eqEntryS.s4 x0 x1 x5) (kont (laws_eqEntryS.E lp) laws_eqEntryS.an lp (finK (laws_eqEntryS.E lp) Tryz.f123 [.bool]) (stkAt 4 (codeOf Tryz.f123)))) x0 x1 := by kernel_rfl
theorem laws_eqEntryS.eq0 (lp : Nat) (x0 : List Entry) (x1 : List Entry) : evalF (laws_eqEntryS.E lp) laws_eqEntryS.an lp Tryz.f123 [.v (.sl TEntry), .v (.sl TEntry)] [.bool] (x0, x1, ()) = laws_eqEntryS lp x0 x1 := by
  rw [laws_eqEntryS.t_e]; unfold laws_eqEntryS
  simp only [leK_leF _ laws_eqEntryS.sr4 laws_eqEntryS.sx4, laws_eqEntryS.k4, laws_eqEntryS.t_a4, laws_eqEntryS.t_q4]
theorem laws_eqEntryS.eq (lp : Nat) (x : ADens [.v (.sl TEntry), .v (.sl TEntry)]) : evalF (laws_eqEntryS.E lp) laws_eqEntryS.an lp Tryz.f123 [.v (.sl TEntry), .v (.sl TEntry)] [.bool] x = (laws_eqEntryS.S lp).F x := laws_eqEntryS.eq0 lp x.1 x.2.1
theorem laws_eqEntryS.ok (lp : Nat) : Sound Tryz.prog 123 (laws_eqEntryS.S lp) := sound_of (E := laws_eqEntryS.E lp) (env_ok tabFits tabEqs ⟨laws_eqEntry.ok, trivial⟩ trivial) mixed Tryz.func123 (by kernel_rfl) (c := codeOf Tryz.f123) (by kernel_rfl) (by kernel_rfl) laws_eqEntryS.an (fun x r h => ⟨lp, (laws_eqEntryS.eq lp x).trans h⟩)
def laws_eqIntS.E (lp : Nat) : Env := { tab := tab, fns := [], ann := { own := [], ro := [] } }
def laws_eqIntS.la4 : LoopAn := { kn := { tms := [0, 1, 5] }, kx := {}, kr := { tms := [4] } }
def laws_eqIntS.an : An := { loops := [(4, laws_eqIntS.la4)] }
def laws_eqIntS.s4 (x0 : List Int) (x1 : List Int) (x5 : Int) : St := ⟨.v (.one (.b (.d (.sl (.int .i64)) x0))) :: .v (.one (.b (.d (.sl (.int .i64)) x1))) :: (sk 3 (.v (.one (.b (.d (.int .i64) x5))) :: (sk 20 ([])))), sko 26 ([])⟩
def laws_eqIntS.sx4 (y : Unit) : St := ⟨sk 26 ([]), sko 26 ([])⟩
def laws_eqIntS.sr4 (z : Bool) : St := ⟨sk 4 (.v (.one (.b (.d .bool z))) :: (sk 21 ([]))), sko 26 ([])⟩
def laws_eqIntS.S (lp : Nat) : Spec := { ats := [.v (.sl (.int .i64)), .v (.sl (.int .i64))], rts := [.bool], F := fun x => laws_eqIntS lp x.1 x.2.1 }
theorem laws_eqIntS.t_b4 (lp : Nat) {R : Type} (N : St → Option R) (X : Out → St → Option R) (x0 : List Int) (x1 : List Int) (x5 : Int) : codeK (laws_eqIntS.E lp) laws_eqIntS.an lp (loopAt 4 (codeOf Tryz.f174)) (laws_eqIntS.s4 x0 x1 x5) (lpK laws_eqIntS.la4 N X) = laws_eqIntS.b4 lp (fun x0 x1 x5 => N (laws_eqIntS.s4 x0 x1 x5)) (fun y => X (.exit 0) (laws_eqIntS.sx4 y)) (fun z => X .ret (laws_eqIntS.sr4 z)) x0 x1 x5 := by kernel_rfl
theorem laws_eqIntS.n_b4 (lp : Nat) {R S : Type} (N : List Int → List Int → Int → Option R) (X : Unit → Option R) (Q : Bool → Option R) (x0 : List Int) (x1 : List Int) (x5 : Int) (k : R → Option S) : obind (laws_eqIntS.b4 lp N X Q x0 x1 x5) k = laws_eqIntS.b4 lp (fun x0 x1 x5 => obind (N x0 x1 x5) k) (fun y => obind (X y) k) (fun z => obind (Q z) k) x0 x1 x5 := by
  unfold laws_eqIntS.b4; simp only [obind_none, obind_some, obind_cond, obind_oif, obind_oget, obind_obind]
theorem laws_eqIntS.k4 (lp : Nat) {R : Type} (K : Out → St → Option R) : ∀ (n : Nat) (x0 : List Int) (x1 : List Int) (x5 : Int), loopK laws_eqIntS.la4 (fun σ K => codeK (laws_eqIntS.E lp) laws_eqIntS.an lp (loopAt 4 (codeOf Tryz.f174)) σ K) n (laws_eqIntS.s4 x0 x1 x5) K = obind (laws_eqIntS.l4 lp n x0 x1 x5) (leK 0 laws_eqIntS.sr4 laws_eqIntS.sx4 K) := by
  intro n
  induction n with
  | zero => intros; rfl
  | succ n ih =>
    intro x0 x1 x5
    rw [loopK_succ, laws_eqIntS.t_b4, laws_eqIntS.l4, laws_eqIntS.n_b4]
    simp only [ih, obind_some, leK_ret, leK_brk]
theorem laws_eqIntS.t_a4 (lp : Nat) (y : Unit) : kont (R := Bool) (laws_eqIntS.E lp) laws_eqIntS.an lp (finK (laws_eqIntS.E lp) Tryz.f174 [.bool]) (stkAt 4 (codeOf Tryz.f174)) (.exit 0) (laws_eqIntS.sx4 y) = laws_eqIntS.a4 lp y := by kernel_rfl
theorem laws_eqIntS.t_q4 (lp : Nat) (z : Bool) : kont (R := Bool) (laws_eqIntS.E lp) laws_eqIntS.an lp (finK (laws_eqIntS.E lp) Tryz.f174 [.bool]) (stkAt 4 (codeOf Tryz.f174)) .ret (laws_eqIntS.sr4 z) = laws_eqIntS.q4 lp z := by kernel_rfl
theorem laws_eqIntS.t_e (lp : Nat) (x0 : List Int) (x1 : List Int) : evalF (laws_eqIntS.E lp) laws_eqIntS.an lp Tryz.f174 [.v (.sl (.int .i64)), .v (.sl (.int .i64))] [.bool] (x0, x1, ()) = laws_eqIntS.e lp (fun x0 x1 x5 => loopK laws_eqIntS.la4 (fun σ K => codeK (laws_eqIntS.E lp) laws_eqIntS.an lp (loopAt 4 (codeOf Tryz.f174)) σ K) lp (laws_eqIntS.s4 x0 x1 x5) (kont (laws_eqIntS.E lp) laws_eqIntS.an lp (finK (laws_eqIntS.E lp) Tryz.f174 [.bool]) (stkAt 4 (codeOf Tryz.f174)))) x0 x1 := by kernel_rfl
theorem laws_eqIntS.eq0 (lp : Nat) (x0 : List Int) (x1 : List Int) : evalF (laws_eqIntS.E lp) laws_eqIntS.an lp Tryz.f174 [.v (.sl (.int .i64)), .v (.sl (.int .i64))] [.bool] (x0, x1, ()) = laws_eqIntS lp x0 x1 := by
  rw [laws_eqIntS.t_e]; unfold laws_eqIntS
  simp only [leK_leF _ laws_eqIntS.sr4 laws_eqIntS.sx4, laws_eqIntS.k4, laws_eqIntS.t_a4, laws_eqIntS.t_q4]
theorem laws_eqIntS.eq (lp : Nat) (x : ADens [.v (.sl (.int .i64)), .v (.sl (.int .i64))]) : evalF (laws_eqIntS.E lp) laws_eqIntS.an lp Tryz.f174 [.v (.sl (.int .i64)), .v (.sl (.int .i64))] [.bool] x = (laws_eqIntS.S lp).F x := laws_eqIntS.eq0 lp x.1 x.2.1
theorem laws_eqIntS.ok (lp : Nat) : Sound Tryz.prog 174 (laws_eqIntS.S lp) := sound_of (E := laws_eqIntS.E lp) (env_ok tabFits tabEqs trivial trivial) mixed Tryz.func174 (by kernel_rfl) (c := codeOf Tryz.f174) (by kernel_rfl) (by kernel_rfl) laws_eqIntS.an (fun x r h => ⟨lp, (laws_eqIntS.eq lp x).trans h⟩)
def laws_eqCommit.E (lp : Nat) : Env := { tab := tab, fns := [(174, laws_eqIntS.S lp), (123, laws_eqEntryS.S lp)], ann := { own := [], ro := [2, 3] } }
def laws_eqCommit.an : An := { pre := [] }
def laws_eqCommit.S (lp : Nat) : Spec := { ats := [.v TCommit, .v TCommit], rts := [.bool], F := fun x => laws_eqCommit lp x.1 x.2.1 }
theorem laws_eqCommit.eq (lp : Nat) (x : ADens [.v TCommit, .v TCommit]) : evalF (laws_eqCommit.E lp) laws_eqCommit.an lp Tryz.f120 [.v TCommit, .v TCommit] [.bool] x = (laws_eqCommit.S lp).F x := by kernel_rfl
theorem laws_eqCommit.ok (lp : Nat) : Sound Tryz.prog 120 (laws_eqCommit.S lp) := sound_of (E := laws_eqCommit.E lp) (env_ok tabFits tabEqs ⟨laws_eqIntS.ok lp, laws_eqEntryS.ok lp, trivial⟩ trivial) mixed Tryz.func120 (by kernel_rfl) (c := codeOf Tryz.f120) (by kernel_rfl) (by kernel_rfl) laws_eqCommit.an (fun x r h => ⟨lp, (laws_eqCommit.eq lp x).trans h⟩)
def laws_eqCommitS.E (lp : Nat) : Env := { tab := tab, fns := [(120, laws_eqCommit.S lp)], ann := { own := [], ro := [] } }
def laws_eqCommitS.la4 : LoopAn := { kn := { tms := [0, 1, 5] }, kx := {}, kr := { tms := [4] } }
def laws_eqCommitS.an : An := { loops := [(4, laws_eqCommitS.la4)] }
def laws_eqCommitS.s4 (x0 : List Commit) (x1 : List Commit) (x5 : Int) : St := ⟨.v (.one (.b (.d (.sl TCommit) x0))) :: .v (.one (.b (.d (.sl TCommit) x1))) :: (sk 3 (.v (.one (.b (.d (.int .i64) x5))) :: (sk 21 ([])))), sko 27 ([])⟩
def laws_eqCommitS.sx4 (y : Unit) : St := ⟨sk 27 ([]), sko 27 ([])⟩
def laws_eqCommitS.sr4 (z : Bool) : St := ⟨sk 4 (.v (.one (.b (.d .bool z))) :: (sk 22 ([]))), sko 27 ([])⟩
def laws_eqCommitS.S (lp : Nat) : Spec := { ats := [.v (.sl TCommit), .v (.sl TCommit)], rts := [.bool], F := fun x => laws_eqCommitS lp x.1 x.2.1 }
theorem laws_eqCommitS.t_b4 (lp : Nat) {R : Type} (N : St → Option R) (X : Out → St → Option R) (x0 : List Commit) (x1 : List Commit) (x5 : Int) : codeK (laws_eqCommitS.E lp) laws_eqCommitS.an lp (loopAt 4 (codeOf Tryz.f69)) (laws_eqCommitS.s4 x0 x1 x5) (lpK laws_eqCommitS.la4 N X) = laws_eqCommitS.b4 lp (fun x0 x1 x5 => N (laws_eqCommitS.s4 x0 x1 x5)) (fun y => X (.exit 0) (laws_eqCommitS.sx4 y)) (fun z => X .ret (laws_eqCommitS.sr4 z)) x0 x1 x5 := by kernel_rfl
theorem laws_eqCommitS.n_b4 (lp : Nat) {R S : Type} (N : List Commit → List Commit → Int → Option R) (X : Unit → Option R) (Q : Bool → Option R) (x0 : List Commit) (x1 : List Commit) (x5 : Int) (k : R → Option S) : obind (laws_eqCommitS.b4 lp N X Q x0 x1 x5) k = laws_eqCommitS.b4 lp (fun x0 x1 x5 => obind (N x0 x1 x5) k) (fun y => obind (X y) k) (fun z => obind (Q z) k) x0 x1 x5 := by
  unfold laws_eqCommitS.b4; simp only [obind_none, obind_some, obind_cond, obind_oif, obind_oget, obind_obind]
theorem laws_eqCommitS.k4 (lp : Nat) {R : Type} (K : Out → St → Option R) : ∀ (n : Nat) (x0 : List Commit) (x1 : List Commit) (x5 : Int), loopK laws_eqCommitS.la4 (fun σ K => codeK (laws_eqCommitS.E lp) laws_eqCommitS.an lp (loopAt 4 (codeOf Tryz.f69)) σ K) n (laws_eqCommitS.s4 x0 x1 x5) K = obind (laws_eqCommitS.l4 lp n x0 x1 x5) (leK 0 laws_eqCommitS.sr4 laws_eqCommitS.sx4 K) := by
  intro n
  induction n with
  | zero => intros; rfl
  | succ n ih =>
    intro x0 x1 x5
    rw [loopK_succ, laws_eqCommitS.t_b4, laws_eqCommitS.l4, laws_eqCommitS.n_b4]
    simp only [ih, obind_some, leK_ret, leK_brk]
theorem laws_eqCommitS.t_a4 (lp : Nat) (y : Unit) : kont (R := Bool) (laws_eqCommitS.E lp) laws_eqCommitS.an lp (finK (laws_eqCommitS.E lp) Tryz.f69 [.bool]) (stkAt 4 (codeOf Tryz.f69)) (.exit 0) (laws_eqCommitS.sx4 y) = laws_eqCommitS.a4 lp y := by kernel_rfl
theorem laws_eqCommitS.t_q4 (lp : Nat) (z : Bool) : kont (R := Bool) (laws_eqCommitS.E lp) laws_eqCommitS.an lp (finK (laws_eqCommitS.E lp) Tryz.f69 [.bool]) (stkAt 4 (codeOf Tryz.f69)) .ret (laws_eqCommitS.sr4 z) = laws_eqCommitS.q4 lp z := by kernel_rfl
theorem laws_eqCommitS.t_e (lp : Nat) (x0 : List Commit) (x1 : List Commit) : evalF (laws_eqCommitS.E lp) laws_eqCommitS.an lp Tryz.f69 [.v (.sl TCommit), .v (.sl TCommit)] [.bool] (x0, x1, ()) = laws_eqCommitS.e lp (fun x0 x1 x5 => loopK laws_eqCommitS.la4 (fun σ K => codeK (laws_eqCommitS.E lp) laws_eqCommitS.an lp (loopAt 4 (codeOf Tryz.f69)) σ K) lp (laws_eqCommitS.s4 x0 x1 x5) (kont (laws_eqCommitS.E lp) laws_eqCommitS.an lp (finK (laws_eqCommitS.E lp) Tryz.f69 [.bool]) (stkAt 4 (codeOf Tryz.f69)))) x0 x1 := by kernel_rfl
theorem laws_eqCommitS.eq0 (lp : Nat) (x0 : List Commit) (x1 : List Commit) : evalF (laws_eqCommitS.E lp) laws_eqCommitS.an lp Tryz.f69 [.v (.sl TCommit), .v (.sl TCommit)] [.bool] (x0, x1, ()) = laws_eqCommitS lp x0 x1 := by
  rw [laws_eqCommitS.t_e]; unfold laws_eqCommitS
  simp only [leK_leF _ laws_eqCommitS.sr4 laws_eqCommitS.sx4, laws_eqCommitS.k4, laws_eqCommitS.t_a4, laws_eqCommitS.t_q4]
theorem laws_eqCommitS.eq (lp : Nat) (x : ADens [.v (.sl TCommit), .v (.sl TCommit)]) : evalF (laws_eqCommitS.E lp) laws_eqCommitS.an lp Tryz.f69 [.v (.sl TCommit), .v (.sl TCommit)] [.bool] x = (laws_eqCommitS.S lp).F x := laws_eqCommitS.eq0 lp x.1 x.2.1
theorem laws_eqCommitS.ok (lp : Nat) : Sound Tryz.prog 69 (laws_eqCommitS.S lp) := sound_of (E := laws_eqCommitS.E lp) (env_ok tabFits tabEqs ⟨laws_eqCommit.ok lp, trivial⟩ trivial) mixed Tryz.func69 (by kernel_rfl) (c := codeOf Tryz.f69) (by kernel_rfl) (by kernel_rfl) laws_eqCommitS.an (fun x r h => ⟨lp, (laws_eqCommitS.eq lp x).trans h⟩)
def laws_eqRef.E : Env := { tab := tab, fns := [], ann := { own := [], ro := [2, 3] } }
def laws_eqRef.an : An := { pre := [] }
def laws_eqRef.S : Spec := { ats := [.v TRef, .v TRef], rts := [.bool], F := fun x => laws_eqRef x.1 x.2.1 }
theorem laws_eqRef.eq (lp : Nat) (x : ADens [.v TRef, .v TRef]) : evalF (laws_eqRef.E) laws_eqRef.an lp Tryz.f121 [.v TRef, .v TRef] [.bool] x = (laws_eqRef.S).F x := by kernel_rfl
theorem laws_eqRef.ok : Sound Tryz.prog 121 (laws_eqRef.S) := sound_of (E := laws_eqRef.E) (env_ok tabFits tabEqs trivial trivial) mixed Tryz.func121 (by kernel_rfl) (c := codeOf Tryz.f121) (by kernel_rfl) (by kernel_rfl) laws_eqRef.an (fun x r h => ⟨0, (laws_eqRef.eq 0 x).trans h⟩)
def laws_eqRefS.E (lp : Nat) : Env := { tab := tab, fns := [(121, laws_eqRef.S)], ann := { own := [], ro := [] } }
def laws_eqRefS.la4 : LoopAn := { kn := { tms := [0, 1, 5] }, kx := {}, kr := { tms := [4] } }
def laws_eqRefS.an : An := { loops := [(4, laws_eqRefS.la4)] }
def laws_eqRefS.s4 (x0 : List Ref) (x1 : List Ref) (x5 : Int) : St := ⟨.v (.one (.b (.d (.sl TRef) x0))) :: .v (.one (.b (.d (.sl TRef) x1))) :: (sk 3 (.v (.one (.b (.d (.int .i64) x5))) :: (sk 21 ([])))), sko 27 ([])⟩
def laws_eqRefS.sx4 (y : Unit) : St := ⟨sk 27 ([]), sko 27 ([])⟩
def laws_eqRefS.sr4 (z : Bool) : St := ⟨sk 4 (.v (.one (.b (.d .bool z))) :: (sk 22 ([]))), sko 27 ([])⟩
def laws_eqRefS.S (lp : Nat) : Spec := { ats := [.v (.sl TRef), .v (.sl TRef)], rts := [.bool], F := fun x => laws_eqRefS lp x.1 x.2.1 }
theorem laws_eqRefS.t_b4 (lp : Nat) {R : Type} (N : St → Option R) (X : Out → St → Option R) (x0 : List Ref) (x1 : List Ref) (x5 : Int) : codeK (laws_eqRefS.E lp) laws_eqRefS.an lp (loopAt 4 (codeOf Tryz.f70)) (laws_eqRefS.s4 x0 x1 x5) (lpK laws_eqRefS.la4 N X) = laws_eqRefS.b4 lp (fun x0 x1 x5 => N (laws_eqRefS.s4 x0 x1 x5)) (fun y => X (.exit 0) (laws_eqRefS.sx4 y)) (fun z => X .ret (laws_eqRefS.sr4 z)) x0 x1 x5 := by kernel_rfl
theorem laws_eqRefS.n_b4 (lp : Nat) {R S : Type} (N : List Ref → List Ref → Int → Option R) (X : Unit → Option R) (Q : Bool → Option R) (x0 : List Ref) (x1 : List Ref) (x5 : Int) (k : R → Option S) : obind (laws_eqRefS.b4 lp N X Q x0 x1 x5) k = laws_eqRefS.b4 lp (fun x0 x1 x5 => obind (N x0 x1 x5) k) (fun y => obind (X y) k) (fun z => obind (Q z) k) x0 x1 x5 := by
  unfold laws_eqRefS.b4; simp only [obind_none, obind_some, obind_cond, obind_oif, obind_oget, obind_obind]
theorem laws_eqRefS.k4 (lp : Nat) {R : Type} (K : Out → St → Option R) : ∀ (n : Nat) (x0 : List Ref) (x1 : List Ref) (x5 : Int), loopK laws_eqRefS.la4 (fun σ K => codeK (laws_eqRefS.E lp) laws_eqRefS.an lp (loopAt 4 (codeOf Tryz.f70)) σ K) n (laws_eqRefS.s4 x0 x1 x5) K = obind (laws_eqRefS.l4 lp n x0 x1 x5) (leK 0 laws_eqRefS.sr4 laws_eqRefS.sx4 K) := by
  intro n
  induction n with
  | zero => intros; rfl
  | succ n ih =>
    intro x0 x1 x5
    rw [loopK_succ, laws_eqRefS.t_b4, laws_eqRefS.l4, laws_eqRefS.n_b4]
    simp only [ih, obind_some, leK_ret, leK_brk]
theorem laws_eqRefS.t_a4 (lp : Nat) (y : Unit) : kont (R := Bool) (laws_eqRefS.E lp) laws_eqRefS.an lp (finK (laws_eqRefS.E lp) Tryz.f70 [.bool]) (stkAt 4 (codeOf Tryz.f70)) (.exit 0) (laws_eqRefS.sx4 y) = laws_eqRefS.a4 lp y := by kernel_rfl
theorem laws_eqRefS.t_q4 (lp : Nat) (z : Bool) : kont (R := Bool) (laws_eqRefS.E lp) laws_eqRefS.an lp (finK (laws_eqRefS.E lp) Tryz.f70 [.bool]) (stkAt 4 (codeOf Tryz.f70)) .ret (laws_eqRefS.sr4 z) = laws_eqRefS.q4 lp z := by kernel_rfl
theorem laws_eqRefS.t_e (lp : Nat) (x0 : List Ref) (x1 : List Ref) : evalF (laws_eqRefS.E lp) laws_eqRefS.an lp Tryz.f70 [.v (.sl TRef), .v (.sl TRef)] [.bool] (x0, x1, ()) = laws_eqRefS.e lp (fun x0 x1 x5 => loopK laws_eqRefS.la4 (fun σ K => codeK (laws_eqRefS.E lp) laws_eqRefS.an lp (loopAt 4 (codeOf Tryz.f70)) σ K) lp (laws_eqRefS.s4 x0 x1 x5) (kont (laws_eqRefS.E lp) laws_eqRefS.an lp (finK (laws_eqRefS.E lp) Tryz.f70 [.bool]) (stkAt 4 (codeOf Tryz.f70)))) x0 x1 := by kernel_rfl
theorem laws_eqRefS.eq0 (lp : Nat) (x0 : List Ref) (x1 : List Ref) : evalF (laws_eqRefS.E lp) laws_eqRefS.an lp Tryz.f70 [.v (.sl TRef), .v (.sl TRef)] [.bool] (x0, x1, ()) = laws_eqRefS lp x0 x1 := by
  rw [laws_eqRefS.t_e]; unfold laws_eqRefS
  simp only [leK_leF _ laws_eqRefS.sr4 laws_eqRefS.sx4, laws_eqRefS.k4, laws_eqRefS.t_a4, laws_eqRefS.t_q4]
theorem laws_eqRefS.eq (lp : Nat) (x : ADens [.v (.sl TRef), .v (.sl TRef)]) : evalF (laws_eqRefS.E lp) laws_eqRefS.an lp Tryz.f70 [.v (.sl TRef), .v (.sl TRef)] [.bool] x = (laws_eqRefS.S lp).F x := laws_eqRefS.eq0 lp x.1 x.2.1
theorem laws_eqRefS.ok (lp : Nat) : Sound Tryz.prog 70 (laws_eqRefS.S lp) := sound_of (E := laws_eqRefS.E lp) (env_ok tabFits tabEqs ⟨laws_eqRef.ok, trivial⟩ trivial) mixed Tryz.func70 (by kernel_rfl) (c := codeOf Tryz.f70) (by kernel_rfl) (by kernel_rfl) laws_eqRefS.an (fun x r h => ⟨lp, (laws_eqRefS.eq lp x).trans h⟩)
def laws_eqBase.E (lp : Nat) : Env := { tab := tab, fns := [(69, laws_eqCommitS.S lp), (70, laws_eqRefS.S lp)], ann := { own := [], ro := [2, 3] } }
def laws_eqBase.an : An := { pre := [] }
def laws_eqBase.S (lp : Nat) : Spec := { ats := [.v TBase, .v TBase], rts := [.bool], F := fun x => laws_eqBase lp x.1 x.2.1 }
theorem laws_eqBase.eq (lp : Nat) (x : ADens [.v TBase, .v TBase]) : evalF (laws_eqBase.E lp) laws_eqBase.an lp Tryz.f32 [.v TBase, .v TBase] [.bool] x = (laws_eqBase.S lp).F x := by kernel_rfl
theorem laws_eqBase.ok (lp : Nat) : Sound Tryz.prog 32 (laws_eqBase.S lp) := sound_of (E := laws_eqBase.E lp) (env_ok tabFits tabEqs ⟨laws_eqCommitS.ok lp, laws_eqRefS.ok lp, trivial⟩ trivial) mixed Tryz.func32 (by kernel_rfl) (c := codeOf Tryz.f32) (by kernel_rfl) (by kernel_rfl) laws_eqBase.an (fun x r h => ⟨lp, (laws_eqBase.eq lp x).trans h⟩)
def laws_eqEdit.E : Env := { tab := tab, fns := [], ann := { own := [], ro := [2, 3] } }
def laws_eqEdit.an : An := { pre := [] }
def laws_eqEdit.S : Spec := { ats := [.v TEdit, .v TEdit], rts := [.bool], F := fun x => laws_eqEdit x.1 x.2.1 }
theorem laws_eqEdit.eq (lp : Nat) (x : ADens [.v TEdit, .v TEdit]) : evalF (laws_eqEdit.E) laws_eqEdit.an lp Tryz.f194 [.v TEdit, .v TEdit] [.bool] x = (laws_eqEdit.S).F x := by kernel_rfl
theorem laws_eqEdit.ok : Sound Tryz.prog 194 (laws_eqEdit.S) := sound_of (E := laws_eqEdit.E) (env_ok tabFits tabEqs trivial trivial) mixed Tryz.func194 (by kernel_rfl) (c := codeOf Tryz.f194) (by kernel_rfl) (by kernel_rfl) laws_eqEdit.an (fun x r h => ⟨0, (laws_eqEdit.eq 0 x).trans h⟩)
def laws_eqEditS.E (lp : Nat) : Env := { tab := tab, fns := [(194, laws_eqEdit.S)], ann := { own := [], ro := [] } }
def laws_eqEditS.la4 : LoopAn := { kn := { tms := [0, 1, 5] }, kx := {}, kr := { tms := [4] } }
def laws_eqEditS.an : An := { loops := [(4, laws_eqEditS.la4)] }
def laws_eqEditS.s4 (x0 : List Edit) (x1 : List Edit) (x5 : Int) : St := ⟨.v (.one (.b (.d (.sl TEdit) x0))) :: .v (.one (.b (.d (.sl TEdit) x1))) :: (sk 3 (.v (.one (.b (.d (.int .i64) x5))) :: (sk 21 ([])))), sko 27 ([])⟩
def laws_eqEditS.sx4 (y : Unit) : St := ⟨sk 27 ([]), sko 27 ([])⟩
def laws_eqEditS.sr4 (z : Bool) : St := ⟨sk 4 (.v (.one (.b (.d .bool z))) :: (sk 22 ([]))), sko 27 ([])⟩
def laws_eqEditS.S (lp : Nat) : Spec := { ats := [.v (.sl TEdit), .v (.sl TEdit)], rts := [.bool], F := fun x => laws_eqEditS lp x.1 x.2.1 }
theorem laws_eqEditS.t_b4 (lp : Nat) {R : Type} (N : St → Option R) (X : Out → St → Option R) (x0 : List Edit) (x1 : List Edit) (x5 : Int) : codeK (laws_eqEditS.E lp) laws_eqEditS.an lp (loopAt 4 (codeOf Tryz.f178)) (laws_eqEditS.s4 x0 x1 x5) (lpK laws_eqEditS.la4 N X) = laws_eqEditS.b4 lp (fun x0 x1 x5 => N (laws_eqEditS.s4 x0 x1 x5)) (fun y => X (.exit 0) (laws_eqEditS.sx4 y)) (fun z => X .ret (laws_eqEditS.sr4 z)) x0 x1 x5 := by kernel_rfl
theorem laws_eqEditS.n_b4 (lp : Nat) {R S : Type} (N : List Edit → List Edit → Int → Option R) (X : Unit → Option R) (Q : Bool → Option R) (x0 : List Edit) (x1 : List Edit) (x5 : Int) (k : R → Option S) : obind (laws_eqEditS.b4 lp N X Q x0 x1 x5) k = laws_eqEditS.b4 lp (fun x0 x1 x5 => obind (N x0 x1 x5) k) (fun y => obind (X y) k) (fun z => obind (Q z) k) x0 x1 x5 := by
  unfold laws_eqEditS.b4; simp only [obind_none, obind_some, obind_cond, obind_oif, obind_oget, obind_obind]
theorem laws_eqEditS.k4 (lp : Nat) {R : Type} (K : Out → St → Option R) : ∀ (n : Nat) (x0 : List Edit) (x1 : List Edit) (x5 : Int), loopK laws_eqEditS.la4 (fun σ K => codeK (laws_eqEditS.E lp) laws_eqEditS.an lp (loopAt 4 (codeOf Tryz.f178)) σ K) n (laws_eqEditS.s4 x0 x1 x5) K = obind (laws_eqEditS.l4 lp n x0 x1 x5) (leK 0 laws_eqEditS.sr4 laws_eqEditS.sx4 K) := by
  intro n
  induction n with
  | zero => intros; rfl
  | succ n ih =>
    intro x0 x1 x5
    rw [loopK_succ, laws_eqEditS.t_b4, laws_eqEditS.l4, laws_eqEditS.n_b4]
    simp only [ih, obind_some, leK_ret, leK_brk]
theorem laws_eqEditS.t_a4 (lp : Nat) (y : Unit) : kont (R := Bool) (laws_eqEditS.E lp) laws_eqEditS.an lp (finK (laws_eqEditS.E lp) Tryz.f178 [.bool]) (stkAt 4 (codeOf Tryz.f178)) (.exit 0) (laws_eqEditS.sx4 y) = laws_eqEditS.a4 lp y := by kernel_rfl
theorem laws_eqEditS.t_q4 (lp : Nat) (z : Bool) : kont (R := Bool) (laws_eqEditS.E lp) laws_eqEditS.an lp (finK (laws_eqEditS.E lp) Tryz.f178 [.bool]) (stkAt 4 (codeOf Tryz.f178)) .ret (laws_eqEditS.sr4 z) = laws_eqEditS.q4 lp z := by kernel_rfl
theorem laws_eqEditS.t_e (lp : Nat) (x0 : List Edit) (x1 : List Edit) : evalF (laws_eqEditS.E lp) laws_eqEditS.an lp Tryz.f178 [.v (.sl TEdit), .v (.sl TEdit)] [.bool] (x0, x1, ()) = laws_eqEditS.e lp (fun x0 x1 x5 => loopK laws_eqEditS.la4 (fun σ K => codeK (laws_eqEditS.E lp) laws_eqEditS.an lp (loopAt 4 (codeOf Tryz.f178)) σ K) lp (laws_eqEditS.s4 x0 x1 x5) (kont (laws_eqEditS.E lp) laws_eqEditS.an lp (finK (laws_eqEditS.E lp) Tryz.f178 [.bool]) (stkAt 4 (codeOf Tryz.f178)))) x0 x1 := by kernel_rfl
theorem laws_eqEditS.eq0 (lp : Nat) (x0 : List Edit) (x1 : List Edit) : evalF (laws_eqEditS.E lp) laws_eqEditS.an lp Tryz.f178 [.v (.sl TEdit), .v (.sl TEdit)] [.bool] (x0, x1, ()) = laws_eqEditS lp x0 x1 := by
  rw [laws_eqEditS.t_e]; unfold laws_eqEditS
  simp only [leK_leF _ laws_eqEditS.sr4 laws_eqEditS.sx4, laws_eqEditS.k4, laws_eqEditS.t_a4, laws_eqEditS.t_q4]
theorem laws_eqEditS.eq (lp : Nat) (x : ADens [.v (.sl TEdit), .v (.sl TEdit)]) : evalF (laws_eqEditS.E lp) laws_eqEditS.an lp Tryz.f178 [.v (.sl TEdit), .v (.sl TEdit)] [.bool] x = (laws_eqEditS.S lp).F x := laws_eqEditS.eq0 lp x.1 x.2.1
theorem laws_eqEditS.ok (lp : Nat) : Sound Tryz.prog 178 (laws_eqEditS.S lp) := sound_of (E := laws_eqEditS.E lp) (env_ok tabFits tabEqs ⟨laws_eqEdit.ok, trivial⟩ trivial) mixed Tryz.func178 (by kernel_rfl) (c := codeOf Tryz.f178) (by kernel_rfl) (by kernel_rfl) laws_eqEditS.an (fun x r h => ⟨lp, (laws_eqEditS.eq lp x).trans h⟩)
def laws_eqWish.E (lp : Nat) : Env := { tab := tab, fns := [(178, laws_eqEditS.S lp)], ann := { own := [], ro := [2, 3] } }
def laws_eqWish.an : An := { pre := [] }
def laws_eqWish.S (lp : Nat) : Spec := { ats := [.v TWish, .v TWish], rts := [.bool], F := fun x => laws_eqWish lp x.1 x.2.1 }
theorem laws_eqWish.eq (lp : Nat) (x : ADens [.v TWish, .v TWish]) : evalF (laws_eqWish.E lp) laws_eqWish.an lp Tryz.f175 [.v TWish, .v TWish] [.bool] x = (laws_eqWish.S lp).F x := by kernel_rfl
theorem laws_eqWish.ok (lp : Nat) : Sound Tryz.prog 175 (laws_eqWish.S lp) := sound_of (E := laws_eqWish.E lp) (env_ok tabFits tabEqs ⟨laws_eqEditS.ok lp, trivial⟩ trivial) mixed Tryz.func175 (by kernel_rfl) (c := codeOf Tryz.f175) (by kernel_rfl) (by kernel_rfl) laws_eqWish.an (fun x r h => ⟨lp, (laws_eqWish.eq lp x).trans h⟩)
def laws_eqWishS.E (lp : Nat) : Env := { tab := tab, fns := [(175, laws_eqWish.S lp)], ann := { own := [], ro := [] } }
def laws_eqWishS.la4 : LoopAn := { kn := { tms := [0, 1, 5] }, kx := {}, kr := { tms := [4] } }
def laws_eqWishS.an : An := { loops := [(4, laws_eqWishS.la4)] }
def laws_eqWishS.s4 (x0 : List Wish) (x1 : List Wish) (x5 : Int) : St := ⟨.v (.one (.b (.d (.sl TWish) x0))) :: .v (.one (.b (.d (.sl TWish) x1))) :: (sk 3 (.v (.one (.b (.d (.int .i64) x5))) :: (sk 21 ([])))), sko 27 ([])⟩
def laws_eqWishS.sx4 (y : Unit) : St := ⟨sk 27 ([]), sko 27 ([])⟩
def laws_eqWishS.sr4 (z : Bool) : St := ⟨sk 4 (.v (.one (.b (.d .bool z))) :: (sk 22 ([]))), sko 27 ([])⟩
def laws_eqWishS.S (lp : Nat) : Spec := { ats := [.v (.sl TWish), .v (.sl TWish)], rts := [.bool], F := fun x => laws_eqWishS lp x.1 x.2.1 }
theorem laws_eqWishS.t_b4 (lp : Nat) {R : Type} (N : St → Option R) (X : Out → St → Option R) (x0 : List Wish) (x1 : List Wish) (x5 : Int) : codeK (laws_eqWishS.E lp) laws_eqWishS.an lp (loopAt 4 (codeOf Tryz.f122)) (laws_eqWishS.s4 x0 x1 x5) (lpK laws_eqWishS.la4 N X) = laws_eqWishS.b4 lp (fun x0 x1 x5 => N (laws_eqWishS.s4 x0 x1 x5)) (fun y => X (.exit 0) (laws_eqWishS.sx4 y)) (fun z => X .ret (laws_eqWishS.sr4 z)) x0 x1 x5 := by kernel_rfl
theorem laws_eqWishS.n_b4 (lp : Nat) {R S : Type} (N : List Wish → List Wish → Int → Option R) (X : Unit → Option R) (Q : Bool → Option R) (x0 : List Wish) (x1 : List Wish) (x5 : Int) (k : R → Option S) : obind (laws_eqWishS.b4 lp N X Q x0 x1 x5) k = laws_eqWishS.b4 lp (fun x0 x1 x5 => obind (N x0 x1 x5) k) (fun y => obind (X y) k) (fun z => obind (Q z) k) x0 x1 x5 := by
  unfold laws_eqWishS.b4; simp only [obind_none, obind_some, obind_cond, obind_oif, obind_oget, obind_obind]
theorem laws_eqWishS.k4 (lp : Nat) {R : Type} (K : Out → St → Option R) : ∀ (n : Nat) (x0 : List Wish) (x1 : List Wish) (x5 : Int), loopK laws_eqWishS.la4 (fun σ K => codeK (laws_eqWishS.E lp) laws_eqWishS.an lp (loopAt 4 (codeOf Tryz.f122)) σ K) n (laws_eqWishS.s4 x0 x1 x5) K = obind (laws_eqWishS.l4 lp n x0 x1 x5) (leK 0 laws_eqWishS.sr4 laws_eqWishS.sx4 K) := by
  intro n
  induction n with
  | zero => intros; rfl
  | succ n ih =>
    intro x0 x1 x5
    rw [loopK_succ, laws_eqWishS.t_b4, laws_eqWishS.l4, laws_eqWishS.n_b4]
    simp only [ih, obind_some, leK_ret, leK_brk]
theorem laws_eqWishS.t_a4 (lp : Nat) (y : Unit) : kont (R := Bool) (laws_eqWishS.E lp) laws_eqWishS.an lp (finK (laws_eqWishS.E lp) Tryz.f122 [.bool]) (stkAt 4 (codeOf Tryz.f122)) (.exit 0) (laws_eqWishS.sx4 y) = laws_eqWishS.a4 lp y := by kernel_rfl
theorem laws_eqWishS.t_q4 (lp : Nat) (z : Bool) : kont (R := Bool) (laws_eqWishS.E lp) laws_eqWishS.an lp (finK (laws_eqWishS.E lp) Tryz.f122 [.bool]) (stkAt 4 (codeOf Tryz.f122)) .ret (laws_eqWishS.sr4 z) = laws_eqWishS.q4 lp z := by kernel_rfl
theorem laws_eqWishS.t_e (lp : Nat) (x0 : List Wish) (x1 : List Wish) : evalF (laws_eqWishS.E lp) laws_eqWishS.an lp Tryz.f122 [.v (.sl TWish), .v (.sl TWish)] [.bool] (x0, x1, ()) = laws_eqWishS.e lp (fun x0 x1 x5 => loopK laws_eqWishS.la4 (fun σ K => codeK (laws_eqWishS.E lp) laws_eqWishS.an lp (loopAt 4 (codeOf Tryz.f122)) σ K) lp (laws_eqWishS.s4 x0 x1 x5) (kont (laws_eqWishS.E lp) laws_eqWishS.an lp (finK (laws_eqWishS.E lp) Tryz.f122 [.bool]) (stkAt 4 (codeOf Tryz.f122)))) x0 x1 := by kernel_rfl
theorem laws_eqWishS.eq0 (lp : Nat) (x0 : List Wish) (x1 : List Wish) : evalF (laws_eqWishS.E lp) laws_eqWishS.an lp Tryz.f122 [.v (.sl TWish), .v (.sl TWish)] [.bool] (x0, x1, ()) = laws_eqWishS lp x0 x1 := by
  rw [laws_eqWishS.t_e]; unfold laws_eqWishS
  simp only [leK_leF _ laws_eqWishS.sr4 laws_eqWishS.sx4, laws_eqWishS.k4, laws_eqWishS.t_a4, laws_eqWishS.t_q4]
theorem laws_eqWishS.eq (lp : Nat) (x : ADens [.v (.sl TWish), .v (.sl TWish)]) : evalF (laws_eqWishS.E lp) laws_eqWishS.an lp Tryz.f122 [.v (.sl TWish), .v (.sl TWish)] [.bool] x = (laws_eqWishS.S lp).F x := laws_eqWishS.eq0 lp x.1 x.2.1
theorem laws_eqWishS.ok (lp : Nat) : Sound Tryz.prog 122 (laws_eqWishS.S lp) := sound_of (E := laws_eqWishS.E lp) (env_ok tabFits tabEqs ⟨laws_eqWish.ok lp, trivial⟩ trivial) mixed Tryz.func122 (by kernel_rfl) (c := codeOf Tryz.f122) (by kernel_rfl) (by kernel_rfl) laws_eqWishS.an (fun x r h => ⟨lp, (laws_eqWishS.eq lp x).trans h⟩)
def laws_eqClient.E (lp : Nat) : Env := { tab := tab, fns := [(122, laws_eqWishS.S lp), (123, laws_eqEntryS.S lp)], ann := { own := [], ro := [2, 3] } }
def laws_eqClient.an : An := { pre := [] }
def laws_eqClient.S (lp : Nat) : Spec := { ats := [.v TClient, .v TClient], rts := [.bool], F := fun x => laws_eqClient lp x.1 x.2.1 }
theorem laws_eqClient.eq (lp : Nat) (x : ADens [.v TClient, .v TClient]) : evalF (laws_eqClient.E lp) laws_eqClient.an lp Tryz.f71 [.v TClient, .v TClient] [.bool] x = (laws_eqClient.S lp).F x := by kernel_rfl
theorem laws_eqClient.ok (lp : Nat) : Sound Tryz.prog 71 (laws_eqClient.S lp) := sound_of (E := laws_eqClient.E lp) (env_ok tabFits tabEqs ⟨laws_eqWishS.ok lp, laws_eqEntryS.ok lp, trivial⟩ trivial) mixed Tryz.func71 (by kernel_rfl) (c := codeOf Tryz.f71) (by kernel_rfl) (by kernel_rfl) laws_eqClient.an (fun x r h => ⟨lp, (laws_eqClient.eq lp x).trans h⟩)
def laws_eqClientS.E (lp : Nat) : Env := { tab := tab, fns := [(71, laws_eqClient.S lp)], ann := { own := [], ro := [] } }
def laws_eqClientS.la4 : LoopAn := { kn := { tms := [0, 1, 5] }, kx := {}, kr := { tms := [4] } }
def laws_eqClientS.an : An := { loops := [(4, laws_eqClientS.la4)] }
def laws_eqClientS.s4 (x0 : List Client) (x1 : List Client) (x5 : Int) : St := ⟨.v (.one (.b (.d (.sl TClient) x0))) :: .v (.one (.b (.d (.sl TClient) x1))) :: (sk 3 (.v (.one (.b (.d (.int .i64) x5))) :: (sk 21 ([])))), sko 27 ([])⟩
def laws_eqClientS.sx4 (y : Unit) : St := ⟨sk 27 ([]), sko 27 ([])⟩
def laws_eqClientS.sr4 (z : Bool) : St := ⟨sk 4 (.v (.one (.b (.d .bool z))) :: (sk 22 ([]))), sko 27 ([])⟩
def laws_eqClientS.S (lp : Nat) : Spec := { ats := [.v (.sl TClient), .v (.sl TClient)], rts := [.bool], F := fun x => laws_eqClientS lp x.1 x.2.1 }
theorem laws_eqClientS.t_b4 (lp : Nat) {R : Type} (N : St → Option R) (X : Out → St → Option R) (x0 : List Client) (x1 : List Client) (x5 : Int) : codeK (laws_eqClientS.E lp) laws_eqClientS.an lp (loopAt 4 (codeOf Tryz.f33)) (laws_eqClientS.s4 x0 x1 x5) (lpK laws_eqClientS.la4 N X) = laws_eqClientS.b4 lp (fun x0 x1 x5 => N (laws_eqClientS.s4 x0 x1 x5)) (fun y => X (.exit 0) (laws_eqClientS.sx4 y)) (fun z => X .ret (laws_eqClientS.sr4 z)) x0 x1 x5 := by kernel_rfl
theorem laws_eqClientS.n_b4 (lp : Nat) {R S : Type} (N : List Client → List Client → Int → Option R) (X : Unit → Option R) (Q : Bool → Option R) (x0 : List Client) (x1 : List Client) (x5 : Int) (k : R → Option S) : obind (laws_eqClientS.b4 lp N X Q x0 x1 x5) k = laws_eqClientS.b4 lp (fun x0 x1 x5 => obind (N x0 x1 x5) k) (fun y => obind (X y) k) (fun z => obind (Q z) k) x0 x1 x5 := by
  unfold laws_eqClientS.b4; simp only [obind_none, obind_some, obind_cond, obind_oif, obind_oget, obind_obind]
theorem laws_eqClientS.k4 (lp : Nat) {R : Type} (K : Out → St → Option R) : ∀ (n : Nat) (x0 : List Client) (x1 : List Client) (x5 : Int), loopK laws_eqClientS.la4 (fun σ K => codeK (laws_eqClientS.E lp) laws_eqClientS.an lp (loopAt 4 (codeOf Tryz.f33)) σ K) n (laws_eqClientS.s4 x0 x1 x5) K = obind (laws_eqClientS.l4 lp n x0 x1 x5) (leK 0 laws_eqClientS.sr4 laws_eqClientS.sx4 K) := by
  intro n
  induction n with
  | zero => intros; rfl
  | succ n ih =>
    intro x0 x1 x5
    rw [loopK_succ, laws_eqClientS.t_b4, laws_eqClientS.l4, laws_eqClientS.n_b4]
    simp only [ih, obind_some, leK_ret, leK_brk]
theorem laws_eqClientS.t_a4 (lp : Nat) (y : Unit) : kont (R := Bool) (laws_eqClientS.E lp) laws_eqClientS.an lp (finK (laws_eqClientS.E lp) Tryz.f33 [.bool]) (stkAt 4 (codeOf Tryz.f33)) (.exit 0) (laws_eqClientS.sx4 y) = laws_eqClientS.a4 lp y := by kernel_rfl
theorem laws_eqClientS.t_q4 (lp : Nat) (z : Bool) : kont (R := Bool) (laws_eqClientS.E lp) laws_eqClientS.an lp (finK (laws_eqClientS.E lp) Tryz.f33 [.bool]) (stkAt 4 (codeOf Tryz.f33)) .ret (laws_eqClientS.sr4 z) = laws_eqClientS.q4 lp z := by kernel_rfl
theorem laws_eqClientS.t_e (lp : Nat) (x0 : List Client) (x1 : List Client) : evalF (laws_eqClientS.E lp) laws_eqClientS.an lp Tryz.f33 [.v (.sl TClient), .v (.sl TClient)] [.bool] (x0, x1, ()) = laws_eqClientS.e lp (fun x0 x1 x5 => loopK laws_eqClientS.la4 (fun σ K => codeK (laws_eqClientS.E lp) laws_eqClientS.an lp (loopAt 4 (codeOf Tryz.f33)) σ K) lp (laws_eqClientS.s4 x0 x1 x5) (kont (laws_eqClientS.E lp) laws_eqClientS.an lp (finK (laws_eqClientS.E lp) Tryz.f33 [.bool]) (stkAt 4 (codeOf Tryz.f33)))) x0 x1 := by kernel_rfl
theorem laws_eqClientS.eq0 (lp : Nat) (x0 : List Client) (x1 : List Client) : evalF (laws_eqClientS.E lp) laws_eqClientS.an lp Tryz.f33 [.v (.sl TClient), .v (.sl TClient)] [.bool] (x0, x1, ()) = laws_eqClientS lp x0 x1 := by
  rw [laws_eqClientS.t_e]; unfold laws_eqClientS
  simp only [leK_leF _ laws_eqClientS.sr4 laws_eqClientS.sx4, laws_eqClientS.k4, laws_eqClientS.t_a4, laws_eqClientS.t_q4]
theorem laws_eqClientS.eq (lp : Nat) (x : ADens [.v (.sl TClient), .v (.sl TClient)]) : evalF (laws_eqClientS.E lp) laws_eqClientS.an lp Tryz.f33 [.v (.sl TClient), .v (.sl TClient)] [.bool] x = (laws_eqClientS.S lp).F x := laws_eqClientS.eq0 lp x.1 x.2.1
theorem laws_eqClientS.ok (lp : Nat) : Sound Tryz.prog 33 (laws_eqClientS.S lp) := sound_of (E := laws_eqClientS.E lp) (env_ok tabFits tabEqs ⟨laws_eqClient.ok lp, trivial⟩ trivial) mixed Tryz.func33 (by kernel_rfl) (c := codeOf Tryz.f33) (by kernel_rfl) (by kernel_rfl) laws_eqClientS.an (fun x r h => ⟨lp, (laws_eqClientS.eq lp x).trans h⟩)
def laws_eqEvent.E : Env := { tab := tab, fns := [], ann := { own := [], ro := [2, 3] } }
def laws_eqEvent.an : An := { pre := [] }
def laws_eqEvent.S : Spec := { ats := [.v TEvent, .v TEvent], rts := [.bool], F := fun x => laws_eqEvent x.1 x.2.1 }
theorem laws_eqEvent.eq (lp : Nat) (x : ADens [.v TEvent, .v TEvent]) : evalF (laws_eqEvent.E) laws_eqEvent.an lp Tryz.f177 [.v TEvent, .v TEvent] [.bool] x = (laws_eqEvent.S).F x := by kernel_rfl
theorem laws_eqEvent.ok : Sound Tryz.prog 177 (laws_eqEvent.S) := sound_of (E := laws_eqEvent.E) (env_ok tabFits tabEqs trivial trivial) mixed Tryz.func177 (by kernel_rfl) (c := codeOf Tryz.f177) (by kernel_rfl) (by kernel_rfl) laws_eqEvent.an (fun x r h => ⟨0, (laws_eqEvent.eq 0 x).trans h⟩)
def laws_eqEventS.E (lp : Nat) : Env := { tab := tab, fns := [(177, laws_eqEvent.S)], ann := { own := [], ro := [] } }
def laws_eqEventS.la4 : LoopAn := { kn := { tms := [0, 1, 5] }, kx := {}, kr := { tms := [4] } }
def laws_eqEventS.an : An := { loops := [(4, laws_eqEventS.la4)] }
def laws_eqEventS.s4 (x0 : List Event) (x1 : List Event) (x5 : Int) : St := ⟨.v (.one (.b (.d (.sl TEvent) x0))) :: .v (.one (.b (.d (.sl TEvent) x1))) :: (sk 3 (.v (.one (.b (.d (.int .i64) x5))) :: (sk 21 ([])))), sko 27 ([])⟩
def laws_eqEventS.sx4 (y : Unit) : St := ⟨sk 27 ([]), sko 27 ([])⟩
def laws_eqEventS.sr4 (z : Bool) : St := ⟨sk 4 (.v (.one (.b (.d .bool z))) :: (sk 22 ([]))), sko 27 ([])⟩
def laws_eqEventS.S (lp : Nat) : Spec := { ats := [.v (.sl TEvent), .v (.sl TEvent)], rts := [.bool], F := fun x => laws_eqEventS lp x.1 x.2.1 }
theorem laws_eqEventS.t_b4 (lp : Nat) {R : Type} (N : St → Option R) (X : Out → St → Option R) (x0 : List Event) (x1 : List Event) (x5 : Int) : codeK (laws_eqEventS.E lp) laws_eqEventS.an lp (loopAt 4 (codeOf Tryz.f124)) (laws_eqEventS.s4 x0 x1 x5) (lpK laws_eqEventS.la4 N X) = laws_eqEventS.b4 lp (fun x0 x1 x5 => N (laws_eqEventS.s4 x0 x1 x5)) (fun y => X (.exit 0) (laws_eqEventS.sx4 y)) (fun z => X .ret (laws_eqEventS.sr4 z)) x0 x1 x5 := by kernel_rfl
theorem laws_eqEventS.n_b4 (lp : Nat) {R S : Type} (N : List Event → List Event → Int → Option R) (X : Unit → Option R) (Q : Bool → Option R) (x0 : List Event) (x1 : List Event) (x5 : Int) (k : R → Option S) : obind (laws_eqEventS.b4 lp N X Q x0 x1 x5) k = laws_eqEventS.b4 lp (fun x0 x1 x5 => obind (N x0 x1 x5) k) (fun y => obind (X y) k) (fun z => obind (Q z) k) x0 x1 x5 := by
  unfold laws_eqEventS.b4; simp only [obind_none, obind_some, obind_cond, obind_oif, obind_oget, obind_obind]
theorem laws_eqEventS.k4 (lp : Nat) {R : Type} (K : Out → St → Option R) : ∀ (n : Nat) (x0 : List Event) (x1 : List Event) (x5 : Int), loopK laws_eqEventS.la4 (fun σ K => codeK (laws_eqEventS.E lp) laws_eqEventS.an lp (loopAt 4 (codeOf Tryz.f124)) σ K) n (laws_eqEventS.s4 x0 x1 x5) K = obind (laws_eqEventS.l4 lp n x0 x1 x5) (leK 0 laws_eqEventS.sr4 laws_eqEventS.sx4 K) := by
  intro n
  induction n with
  | zero => intros; rfl
  | succ n ih =>
    intro x0 x1 x5
    rw [loopK_succ, laws_eqEventS.t_b4, laws_eqEventS.l4, laws_eqEventS.n_b4]
    simp only [ih, obind_some, leK_ret, leK_brk]
theorem laws_eqEventS.t_a4 (lp : Nat) (y : Unit) : kont (R := Bool) (laws_eqEventS.E lp) laws_eqEventS.an lp (finK (laws_eqEventS.E lp) Tryz.f124 [.bool]) (stkAt 4 (codeOf Tryz.f124)) (.exit 0) (laws_eqEventS.sx4 y) = laws_eqEventS.a4 lp y := by kernel_rfl
theorem laws_eqEventS.t_q4 (lp : Nat) (z : Bool) : kont (R := Bool) (laws_eqEventS.E lp) laws_eqEventS.an lp (finK (laws_eqEventS.E lp) Tryz.f124 [.bool]) (stkAt 4 (codeOf Tryz.f124)) .ret (laws_eqEventS.sr4 z) = laws_eqEventS.q4 lp z := by kernel_rfl
theorem laws_eqEventS.t_e (lp : Nat) (x0 : List Event) (x1 : List Event) : evalF (laws_eqEventS.E lp) laws_eqEventS.an lp Tryz.f124 [.v (.sl TEvent), .v (.sl TEvent)] [.bool] (x0, x1, ()) = laws_eqEventS.e lp (fun x0 x1 x5 => loopK laws_eqEventS.la4 (fun σ K => codeK (laws_eqEventS.E lp) laws_eqEventS.an lp (loopAt 4 (codeOf Tryz.f124)) σ K) lp (laws_eqEventS.s4 x0 x1 x5) (kont (laws_eqEventS.E lp) laws_eqEventS.an lp (finK (laws_eqEventS.E lp) Tryz.f124 [.bool]) (stkAt 4 (codeOf Tryz.f124)))) x0 x1 := by kernel_rfl
theorem laws_eqEventS.eq0 (lp : Nat) (x0 : List Event) (x1 : List Event) : evalF (laws_eqEventS.E lp) laws_eqEventS.an lp Tryz.f124 [.v (.sl TEvent), .v (.sl TEvent)] [.bool] (x0, x1, ()) = laws_eqEventS lp x0 x1 := by
  rw [laws_eqEventS.t_e]; unfold laws_eqEventS
  simp only [leK_leF _ laws_eqEventS.sr4 laws_eqEventS.sx4, laws_eqEventS.k4, laws_eqEventS.t_a4, laws_eqEventS.t_q4]
theorem laws_eqEventS.eq (lp : Nat) (x : ADens [.v (.sl TEvent), .v (.sl TEvent)]) : evalF (laws_eqEventS.E lp) laws_eqEventS.an lp Tryz.f124 [.v (.sl TEvent), .v (.sl TEvent)] [.bool] x = (laws_eqEventS.S lp).F x := laws_eqEventS.eq0 lp x.1 x.2.1
theorem laws_eqEventS.ok (lp : Nat) : Sound Tryz.prog 124 (laws_eqEventS.S lp) := sound_of (E := laws_eqEventS.E lp) (env_ok tabFits tabEqs ⟨laws_eqEvent.ok, trivial⟩ trivial) mixed Tryz.func124 (by kernel_rfl) (c := codeOf Tryz.f124) (by kernel_rfl) (by kernel_rfl) laws_eqEventS.an (fun x r h => ⟨lp, (laws_eqEventS.eq lp x).trans h⟩)
def laws_eqWatch.E (lp : Nat) : Env := { tab := tab, fns := [(124, laws_eqEventS.S lp)], ann := { own := [], ro := [2, 3] } }
def laws_eqWatch.an : An := { pre := [] }
def laws_eqWatch.S (lp : Nat) : Spec := { ats := [.v TWatch, .v TWatch], rts := [.bool], F := fun x => laws_eqWatch lp x.1 x.2.1 }
theorem laws_eqWatch.eq (lp : Nat) (x : ADens [.v TWatch, .v TWatch]) : evalF (laws_eqWatch.E lp) laws_eqWatch.an lp Tryz.f72 [.v TWatch, .v TWatch] [.bool] x = (laws_eqWatch.S lp).F x := by kernel_rfl
theorem laws_eqWatch.ok (lp : Nat) : Sound Tryz.prog 72 (laws_eqWatch.S lp) := sound_of (E := laws_eqWatch.E lp) (env_ok tabFits tabEqs ⟨laws_eqEventS.ok lp, trivial⟩ trivial) mixed Tryz.func72 (by kernel_rfl) (c := codeOf Tryz.f72) (by kernel_rfl) (by kernel_rfl) laws_eqWatch.an (fun x r h => ⟨lp, (laws_eqWatch.eq lp x).trans h⟩)
def laws_eqWatchS.E (lp : Nat) : Env := { tab := tab, fns := [(72, laws_eqWatch.S lp)], ann := { own := [], ro := [] } }
def laws_eqWatchS.la4 : LoopAn := { kn := { tms := [0, 1, 5] }, kx := {}, kr := { tms := [4] } }
def laws_eqWatchS.an : An := { loops := [(4, laws_eqWatchS.la4)] }
def laws_eqWatchS.s4 (x0 : List Watch) (x1 : List Watch) (x5 : Int) : St := ⟨.v (.one (.b (.d (.sl TWatch) x0))) :: .v (.one (.b (.d (.sl TWatch) x1))) :: (sk 3 (.v (.one (.b (.d (.int .i64) x5))) :: (sk 21 ([])))), sko 27 ([])⟩
def laws_eqWatchS.sx4 (y : Unit) : St := ⟨sk 27 ([]), sko 27 ([])⟩
def laws_eqWatchS.sr4 (z : Bool) : St := ⟨sk 4 (.v (.one (.b (.d .bool z))) :: (sk 22 ([]))), sko 27 ([])⟩
def laws_eqWatchS.S (lp : Nat) : Spec := { ats := [.v (.sl TWatch), .v (.sl TWatch)], rts := [.bool], F := fun x => laws_eqWatchS lp x.1 x.2.1 }
theorem laws_eqWatchS.t_b4 (lp : Nat) {R : Type} (N : St → Option R) (X : Out → St → Option R) (x0 : List Watch) (x1 : List Watch) (x5 : Int) : codeK (laws_eqWatchS.E lp) laws_eqWatchS.an lp (loopAt 4 (codeOf Tryz.f34)) (laws_eqWatchS.s4 x0 x1 x5) (lpK laws_eqWatchS.la4 N X) = laws_eqWatchS.b4 lp (fun x0 x1 x5 => N (laws_eqWatchS.s4 x0 x1 x5)) (fun y => X (.exit 0) (laws_eqWatchS.sx4 y)) (fun z => X .ret (laws_eqWatchS.sr4 z)) x0 x1 x5 := by kernel_rfl
theorem laws_eqWatchS.n_b4 (lp : Nat) {R S : Type} (N : List Watch → List Watch → Int → Option R) (X : Unit → Option R) (Q : Bool → Option R) (x0 : List Watch) (x1 : List Watch) (x5 : Int) (k : R → Option S) : obind (laws_eqWatchS.b4 lp N X Q x0 x1 x5) k = laws_eqWatchS.b4 lp (fun x0 x1 x5 => obind (N x0 x1 x5) k) (fun y => obind (X y) k) (fun z => obind (Q z) k) x0 x1 x5 := by
  unfold laws_eqWatchS.b4; simp only [obind_none, obind_some, obind_cond, obind_oif, obind_oget, obind_obind]
theorem laws_eqWatchS.k4 (lp : Nat) {R : Type} (K : Out → St → Option R) : ∀ (n : Nat) (x0 : List Watch) (x1 : List Watch) (x5 : Int), loopK laws_eqWatchS.la4 (fun σ K => codeK (laws_eqWatchS.E lp) laws_eqWatchS.an lp (loopAt 4 (codeOf Tryz.f34)) σ K) n (laws_eqWatchS.s4 x0 x1 x5) K = obind (laws_eqWatchS.l4 lp n x0 x1 x5) (leK 0 laws_eqWatchS.sr4 laws_eqWatchS.sx4 K) := by
  intro n
  induction n with
  | zero => intros; rfl
  | succ n ih =>
    intro x0 x1 x5
    rw [loopK_succ, laws_eqWatchS.t_b4, laws_eqWatchS.l4, laws_eqWatchS.n_b4]
    simp only [ih, obind_some, leK_ret, leK_brk]
theorem laws_eqWatchS.t_a4 (lp : Nat) (y : Unit) : kont (R := Bool) (laws_eqWatchS.E lp) laws_eqWatchS.an lp (finK (laws_eqWatchS.E lp) Tryz.f34 [.bool]) (stkAt 4 (codeOf Tryz.f34)) (.exit 0) (laws_eqWatchS.sx4 y) = laws_eqWatchS.a4 lp y := by kernel_rfl
theorem laws_eqWatchS.t_q4 (lp : Nat) (z : Bool) : kont (R := Bool) (laws_eqWatchS.E lp) laws_eqWatchS.an lp (finK (laws_eqWatchS.E lp) Tryz.f34 [.bool]) (stkAt 4 (codeOf Tryz.f34)) .ret (laws_eqWatchS.sr4 z) = laws_eqWatchS.q4 lp z := by kernel_rfl
theorem laws_eqWatchS.t_e (lp : Nat) (x0 : List Watch) (x1 : List Watch) : evalF (laws_eqWatchS.E lp) laws_eqWatchS.an lp Tryz.f34 [.v (.sl TWatch), .v (.sl TWatch)] [.bool] (x0, x1, ()) = laws_eqWatchS.e lp (fun x0 x1 x5 => loopK laws_eqWatchS.la4 (fun σ K => codeK (laws_eqWatchS.E lp) laws_eqWatchS.an lp (loopAt 4 (codeOf Tryz.f34)) σ K) lp (laws_eqWatchS.s4 x0 x1 x5) (kont (laws_eqWatchS.E lp) laws_eqWatchS.an lp (finK (laws_eqWatchS.E lp) Tryz.f34 [.bool]) (stkAt 4 (codeOf Tryz.f34)))) x0 x1 := by kernel_rfl
theorem laws_eqWatchS.eq0 (lp : Nat) (x0 : List Watch) (x1 : List Watch) : evalF (laws_eqWatchS.E lp) laws_eqWatchS.an lp Tryz.f34 [.v (.sl TWatch), .v (.sl TWatch)] [.bool] (x0, x1, ()) = laws_eqWatchS lp x0 x1 := by
  rw [laws_eqWatchS.t_e]; unfold laws_eqWatchS
  simp only [leK_leF _ laws_eqWatchS.sr4 laws_eqWatchS.sx4, laws_eqWatchS.k4, laws_eqWatchS.t_a4, laws_eqWatchS.t_q4]
theorem laws_eqWatchS.eq (lp : Nat) (x : ADens [.v (.sl TWatch), .v (.sl TWatch)]) : evalF (laws_eqWatchS.E lp) laws_eqWatchS.an lp Tryz.f34 [.v (.sl TWatch), .v (.sl TWatch)] [.bool] x = (laws_eqWatchS.S lp).F x := laws_eqWatchS.eq0 lp x.1 x.2.1
theorem laws_eqWatchS.ok (lp : Nat) : Sound Tryz.prog 34 (laws_eqWatchS.S lp) := sound_of (E := laws_eqWatchS.E lp) (env_ok tabFits tabEqs ⟨laws_eqWatch.ok lp, trivial⟩ trivial) mixed Tryz.func34 (by kernel_rfl) (c := codeOf Tryz.f34) (by kernel_rfl) (by kernel_rfl) laws_eqWatchS.an (fun x r h => ⟨lp, (laws_eqWatchS.eq lp x).trans h⟩)
def laws_eqOp.E (lp : Nat) : Env := { tab := tab, fns := [(178, laws_eqEditS.S lp)], ann := { own := [], ro := [2, 3] } }
def laws_eqOp.an : An := { pre := [] }
def laws_eqOp.S (lp : Nat) : Spec := { ats := [.v TOp, .v TOp], rts := [.bool], F := fun x => laws_eqOp lp x.1 x.2.1 }
theorem laws_eqOp.eq (lp : Nat) (x : ADens [.v TOp, .v TOp]) : evalF (laws_eqOp.E lp) laws_eqOp.an lp Tryz.f125 [.v TOp, .v TOp] [.bool] x = (laws_eqOp.S lp).F x := by kernel_rfl
theorem laws_eqOp.ok (lp : Nat) : Sound Tryz.prog 125 (laws_eqOp.S lp) := sound_of (E := laws_eqOp.E lp) (env_ok tabFits tabEqs ⟨laws_eqEditS.ok lp, trivial⟩ trivial) mixed Tryz.func125 (by kernel_rfl) (c := codeOf Tryz.f125) (by kernel_rfl) (by kernel_rfl) laws_eqOp.an (fun x r h => ⟨lp, (laws_eqOp.eq lp x).trans h⟩)
def laws_eqStringS.E (lp : Nat) : Env := { tab := tab, fns := [], ann := { own := [], ro := [] } }
def laws_eqStringS.la4 : LoopAn := { kn := { tms := [0, 1, 5] }, kx := {}, kr := { tms := [4] } }
def laws_eqStringS.an : An := { loops := [(4, laws_eqStringS.la4)] }
def laws_eqStringS.s4 (x0 : List ByteArray) (x1 : List ByteArray) (x5 : Int) : St := ⟨.v (.one (.b (.d (.sl .str) x0))) :: .v (.one (.b (.d (.sl .str) x1))) :: (sk 3 (.v (.one (.b (.d (.int .i64) x5))) :: (sk 20 ([])))), sko 26 ([])⟩
def laws_eqStringS.sx4 (y : Unit) : St := ⟨sk 26 ([]), sko 26 ([])⟩
def laws_eqStringS.sr4 (z : Bool) : St := ⟨sk 4 (.v (.one (.b (.d .bool z))) :: (sk 21 ([]))), sko 26 ([])⟩
def laws_eqStringS.S (lp : Nat) : Spec := { ats := [.v (.sl .str), .v (.sl .str)], rts := [.bool], F := fun x => laws_eqStringS lp x.1 x.2.1 }
theorem laws_eqStringS.t_b4 (lp : Nat) {R : Type} (N : St → Option R) (X : Out → St → Option R) (x0 : List ByteArray) (x1 : List ByteArray) (x5 : Int) : codeK (laws_eqStringS.E lp) laws_eqStringS.an lp (loopAt 4 (codeOf Tryz.f179)) (laws_eqStringS.s4 x0 x1 x5) (lpK laws_eqStringS.la4 N X) = laws_eqStringS.b4 lp (fun x0 x1 x5 => N (laws_eqStringS.s4 x0 x1 x5)) (fun y => X (.exit 0) (laws_eqStringS.sx4 y)) (fun z => X .ret (laws_eqStringS.sr4 z)) x0 x1 x5 := by kernel_rfl
theorem laws_eqStringS.n_b4 (lp : Nat) {R S : Type} (N : List ByteArray → List ByteArray → Int → Option R) (X : Unit → Option R) (Q : Bool → Option R) (x0 : List ByteArray) (x1 : List ByteArray) (x5 : Int) (k : R → Option S) : obind (laws_eqStringS.b4 lp N X Q x0 x1 x5) k = laws_eqStringS.b4 lp (fun x0 x1 x5 => obind (N x0 x1 x5) k) (fun y => obind (X y) k) (fun z => obind (Q z) k) x0 x1 x5 := by
  unfold laws_eqStringS.b4; simp only [obind_none, obind_some, obind_cond, obind_oif, obind_oget, obind_obind]
theorem laws_eqStringS.k4 (lp : Nat) {R : Type} (K : Out → St → Option R) : ∀ (n : Nat) (x0 : List ByteArray) (x1 : List ByteArray) (x5 : Int), loopK laws_eqStringS.la4 (fun σ K => codeK (laws_eqStringS.E lp) laws_eqStringS.an lp (loopAt 4 (codeOf Tryz.f179)) σ K) n (laws_eqStringS.s4 x0 x1 x5) K = obind (laws_eqStringS.l4 lp n x0 x1 x5) (leK 0 laws_eqStringS.sr4 laws_eqStringS.sx4 K) := by
  intro n
  induction n with
  | zero => intros; rfl
  | succ n ih =>
    intro x0 x1 x5
    rw [loopK_succ, laws_eqStringS.t_b4, laws_eqStringS.l4, laws_eqStringS.n_b4]
    simp only [ih, obind_some, leK_ret, leK_brk]
theorem laws_eqStringS.t_a4 (lp : Nat) (y : Unit) : kont (R := Bool) (laws_eqStringS.E lp) laws_eqStringS.an lp (finK (laws_eqStringS.E lp) Tryz.f179 [.bool]) (stkAt 4 (codeOf Tryz.f179)) (.exit 0) (laws_eqStringS.sx4 y) = laws_eqStringS.a4 lp y := by kernel_rfl
theorem laws_eqStringS.t_q4 (lp : Nat) (z : Bool) : kont (R := Bool) (laws_eqStringS.E lp) laws_eqStringS.an lp (finK (laws_eqStringS.E lp) Tryz.f179 [.bool]) (stkAt 4 (codeOf Tryz.f179)) .ret (laws_eqStringS.sr4 z) = laws_eqStringS.q4 lp z := by kernel_rfl
theorem laws_eqStringS.t_e (lp : Nat) (x0 : List ByteArray) (x1 : List ByteArray) : evalF (laws_eqStringS.E lp) laws_eqStringS.an lp Tryz.f179 [.v (.sl .str), .v (.sl .str)] [.bool] (x0, x1, ()) = laws_eqStringS.e lp (fun x0 x1 x5 => loopK laws_eqStringS.la4 (fun σ K => codeK (laws_eqStringS.E lp) laws_eqStringS.an lp (loopAt 4 (codeOf Tryz.f179)) σ K) lp (laws_eqStringS.s4 x0 x1 x5) (kont (laws_eqStringS.E lp) laws_eqStringS.an lp (finK (laws_eqStringS.E lp) Tryz.f179 [.bool]) (stkAt 4 (codeOf Tryz.f179)))) x0 x1 := by kernel_rfl
theorem laws_eqStringS.eq0 (lp : Nat) (x0 : List ByteArray) (x1 : List ByteArray) : evalF (laws_eqStringS.E lp) laws_eqStringS.an lp Tryz.f179 [.v (.sl .str), .v (.sl .str)] [.bool] (x0, x1, ()) = laws_eqStringS lp x0 x1 := by
  rw [laws_eqStringS.t_e]; unfold laws_eqStringS
  simp only [leK_leF _ laws_eqStringS.sr4 laws_eqStringS.sx4, laws_eqStringS.k4, laws_eqStringS.t_a4, laws_eqStringS.t_q4]
theorem laws_eqStringS.eq (lp : Nat) (x : ADens [.v (.sl .str), .v (.sl .str)]) : evalF (laws_eqStringS.E lp) laws_eqStringS.an lp Tryz.f179 [.v (.sl .str), .v (.sl .str)] [.bool] x = (laws_eqStringS.S lp).F x := laws_eqStringS.eq0 lp x.1 x.2.1
theorem laws_eqStringS.ok (lp : Nat) : Sound Tryz.prog 179 (laws_eqStringS.S lp) := sound_of (E := laws_eqStringS.E lp) (env_ok tabFits tabEqs trivial trivial) mixed Tryz.func179 (by kernel_rfl) (c := codeOf Tryz.f179) (by kernel_rfl) (by kernel_rfl) laws_eqStringS.an (fun x r h => ⟨lp, (laws_eqStringS.eq lp x).trans h⟩)
def laws_eqResult.E (lp : Nat) : Env := { tab := tab, fns := [(179, laws_eqStringS.S lp), (123, laws_eqEntryS.S lp)], ann := { own := [], ro := [2, 3] } }
def laws_eqResult.an : An := { pre := [] }
def laws_eqResult.S (lp : Nat) : Spec := { ats := [.v TResult, .v TResult], rts := [.bool], F := fun x => laws_eqResult lp x.1 x.2.1 }
theorem laws_eqResult.eq (lp : Nat) (x : ADens [.v TResult, .v TResult]) : evalF (laws_eqResult.E lp) laws_eqResult.an lp Tryz.f126 [.v TResult, .v TResult] [.bool] x = (laws_eqResult.S lp).F x := by kernel_rfl
theorem laws_eqResult.ok (lp : Nat) : Sound Tryz.prog 126 (laws_eqResult.S lp) := sound_of (E := laws_eqResult.E lp) (env_ok tabFits tabEqs ⟨laws_eqStringS.ok lp, laws_eqEntryS.ok lp, trivial⟩ trivial) mixed Tryz.func126 (by kernel_rfl) (c := codeOf Tryz.f126) (by kernel_rfl) (by kernel_rfl) laws_eqResult.an (fun x r h => ⟨lp, (laws_eqResult.eq lp x).trans h⟩)
def laws_eqMoment.E (lp : Nat) : Env := { tab := tab, fns := [(125, laws_eqOp.S lp), (126, laws_eqResult.S lp)], ann := { own := [], ro := [2, 3] } }
def laws_eqMoment.an : An := { pre := [] }
def laws_eqMoment.S (lp : Nat) : Spec := { ats := [.v TMoment, .v TMoment], rts := [.bool], F := fun x => laws_eqMoment lp x.1 x.2.1 }
theorem laws_eqMoment.eq (lp : Nat) (x : ADens [.v TMoment, .v TMoment]) : evalF (laws_eqMoment.E lp) laws_eqMoment.an lp Tryz.f73 [.v TMoment, .v TMoment] [.bool] x = (laws_eqMoment.S lp).F x := by kernel_rfl
theorem laws_eqMoment.ok (lp : Nat) : Sound Tryz.prog 73 (laws_eqMoment.S lp) := sound_of (E := laws_eqMoment.E lp) (env_ok tabFits tabEqs ⟨laws_eqOp.ok lp, laws_eqResult.ok lp, trivial⟩ trivial) mixed Tryz.func73 (by kernel_rfl) (c := codeOf Tryz.f73) (by kernel_rfl) (by kernel_rfl) laws_eqMoment.an (fun x r h => ⟨lp, (laws_eqMoment.eq lp x).trans h⟩)
def laws_eqMomentS.E (lp : Nat) : Env := { tab := tab, fns := [(73, laws_eqMoment.S lp)], ann := { own := [], ro := [] } }
def laws_eqMomentS.la4 : LoopAn := { kn := { tms := [0, 1, 5] }, kx := {}, kr := { tms := [4] } }
def laws_eqMomentS.an : An := { loops := [(4, laws_eqMomentS.la4)] }
def laws_eqMomentS.s4 (x0 : List Moment) (x1 : List Moment) (x5 : Int) : St := ⟨.v (.one (.b (.d (.sl TMoment) x0))) :: .v (.one (.b (.d (.sl TMoment) x1))) :: (sk 3 (.v (.one (.b (.d (.int .i64) x5))) :: (sk 21 ([])))), sko 27 ([])⟩
def laws_eqMomentS.sx4 (y : Unit) : St := ⟨sk 27 ([]), sko 27 ([])⟩
def laws_eqMomentS.sr4 (z : Bool) : St := ⟨sk 4 (.v (.one (.b (.d .bool z))) :: (sk 22 ([]))), sko 27 ([])⟩
def laws_eqMomentS.S (lp : Nat) : Spec := { ats := [.v (.sl TMoment), .v (.sl TMoment)], rts := [.bool], F := fun x => laws_eqMomentS lp x.1 x.2.1 }
theorem laws_eqMomentS.t_b4 (lp : Nat) {R : Type} (N : St → Option R) (X : Out → St → Option R) (x0 : List Moment) (x1 : List Moment) (x5 : Int) : codeK (laws_eqMomentS.E lp) laws_eqMomentS.an lp (loopAt 4 (codeOf Tryz.f35)) (laws_eqMomentS.s4 x0 x1 x5) (lpK laws_eqMomentS.la4 N X) = laws_eqMomentS.b4 lp (fun x0 x1 x5 => N (laws_eqMomentS.s4 x0 x1 x5)) (fun y => X (.exit 0) (laws_eqMomentS.sx4 y)) (fun z => X .ret (laws_eqMomentS.sr4 z)) x0 x1 x5 := by kernel_rfl
theorem laws_eqMomentS.n_b4 (lp : Nat) {R S : Type} (N : List Moment → List Moment → Int → Option R) (X : Unit → Option R) (Q : Bool → Option R) (x0 : List Moment) (x1 : List Moment) (x5 : Int) (k : R → Option S) : obind (laws_eqMomentS.b4 lp N X Q x0 x1 x5) k = laws_eqMomentS.b4 lp (fun x0 x1 x5 => obind (N x0 x1 x5) k) (fun y => obind (X y) k) (fun z => obind (Q z) k) x0 x1 x5 := by
  unfold laws_eqMomentS.b4; simp only [obind_none, obind_some, obind_cond, obind_oif, obind_oget, obind_obind]
theorem laws_eqMomentS.k4 (lp : Nat) {R : Type} (K : Out → St → Option R) : ∀ (n : Nat) (x0 : List Moment) (x1 : List Moment) (x5 : Int), loopK laws_eqMomentS.la4 (fun σ K => codeK (laws_eqMomentS.E lp) laws_eqMomentS.an lp (loopAt 4 (codeOf Tryz.f35)) σ K) n (laws_eqMomentS.s4 x0 x1 x5) K = obind (laws_eqMomentS.l4 lp n x0 x1 x5) (leK 0 laws_eqMomentS.sr4 laws_eqMomentS.sx4 K) := by
  intro n
  induction n with
  | zero => intros; rfl
  | succ n ih =>
    intro x0 x1 x5
    rw [loopK_succ, laws_eqMomentS.t_b4, laws_eqMomentS.l4, laws_eqMomentS.n_b4]
    simp only [ih, obind_some, leK_ret, leK_brk]
theorem laws_eqMomentS.t_a4 (lp : Nat) (y : Unit) : kont (R := Bool) (laws_eqMomentS.E lp) laws_eqMomentS.an lp (finK (laws_eqMomentS.E lp) Tryz.f35 [.bool]) (stkAt 4 (codeOf Tryz.f35)) (.exit 0) (laws_eqMomentS.sx4 y) = laws_eqMomentS.a4 lp y := by kernel_rfl
theorem laws_eqMomentS.t_q4 (lp : Nat) (z : Bool) : kont (R := Bool) (laws_eqMomentS.E lp) laws_eqMomentS.an lp (finK (laws_eqMomentS.E lp) Tryz.f35 [.bool]) (stkAt 4 (codeOf Tryz.f35)) .ret (laws_eqMomentS.sr4 z) = laws_eqMomentS.q4 lp z := by kernel_rfl
theorem laws_eqMomentS.t_e (lp : Nat) (x0 : List Moment) (x1 : List Moment) : evalF (laws_eqMomentS.E lp) laws_eqMomentS.an lp Tryz.f35 [.v (.sl TMoment), .v (.sl TMoment)] [.bool] (x0, x1, ()) = laws_eqMomentS.e lp (fun x0 x1 x5 => loopK laws_eqMomentS.la4 (fun σ K => codeK (laws_eqMomentS.E lp) laws_eqMomentS.an lp (loopAt 4 (codeOf Tryz.f35)) σ K) lp (laws_eqMomentS.s4 x0 x1 x5) (kont (laws_eqMomentS.E lp) laws_eqMomentS.an lp (finK (laws_eqMomentS.E lp) Tryz.f35 [.bool]) (stkAt 4 (codeOf Tryz.f35)))) x0 x1 := by kernel_rfl
theorem laws_eqMomentS.eq0 (lp : Nat) (x0 : List Moment) (x1 : List Moment) : evalF (laws_eqMomentS.E lp) laws_eqMomentS.an lp Tryz.f35 [.v (.sl TMoment), .v (.sl TMoment)] [.bool] (x0, x1, ()) = laws_eqMomentS lp x0 x1 := by
  rw [laws_eqMomentS.t_e]; unfold laws_eqMomentS
  simp only [leK_leF _ laws_eqMomentS.sr4 laws_eqMomentS.sx4, laws_eqMomentS.k4, laws_eqMomentS.t_a4, laws_eqMomentS.t_q4]
theorem laws_eqMomentS.eq (lp : Nat) (x : ADens [.v (.sl TMoment), .v (.sl TMoment)]) : evalF (laws_eqMomentS.E lp) laws_eqMomentS.an lp Tryz.f35 [.v (.sl TMoment), .v (.sl TMoment)] [.bool] x = (laws_eqMomentS.S lp).F x := laws_eqMomentS.eq0 lp x.1 x.2.1
theorem laws_eqMomentS.ok (lp : Nat) : Sound Tryz.prog 35 (laws_eqMomentS.S lp) := sound_of (E := laws_eqMomentS.E lp) (env_ok tabFits tabEqs ⟨laws_eqMoment.ok lp, trivial⟩ trivial) mixed Tryz.func35 (by kernel_rfl) (c := codeOf Tryz.f35) (by kernel_rfl) (by kernel_rfl) laws_eqMomentS.an (fun x r h => ⟨lp, (laws_eqMomentS.eq lp x).trans h⟩)
def laws_eqWorld.E (lp : Nat) : Env := { tab := tab, fns := [(32, laws_eqBase.S lp), (33, laws_eqClientS.S lp), (34, laws_eqWatchS.S lp), (35, laws_eqMomentS.S lp)], ann := { own := [], ro := [2, 3] } }
def laws_eqWorld.an : An := { pre := [] }
def laws_eqWorld.S (lp : Nat) : Spec := { ats := [.v TWorld, .v TWorld], rts := [.bool], F := fun x => laws_eqWorld lp x.1 x.2.1 }
theorem laws_eqWorld.eq (lp : Nat) (x : ADens [.v TWorld, .v TWorld]) : evalF (laws_eqWorld.E lp) laws_eqWorld.an lp Tryz.f12 [.v TWorld, .v TWorld] [.bool] x = (laws_eqWorld.S lp).F x := by kernel_rfl
theorem laws_eqWorld.ok (lp : Nat) : Sound Tryz.prog 12 (laws_eqWorld.S lp) := sound_of (E := laws_eqWorld.E lp) (env_ok tabFits tabEqs ⟨laws_eqBase.ok lp, laws_eqClientS.ok lp, laws_eqWatchS.ok lp, laws_eqMomentS.ok lp, trivial⟩ trivial) mixed Tryz.func12 (by kernel_rfl) (c := codeOf Tryz.f12) (by kernel_rfl) (by kernel_rfl) laws_eqWorld.an (fun x r h => ⟨lp, (laws_eqWorld.eq lp x).trans h⟩)
def spec_l01In.E : Env := { tab := tab, fns := [], ann := { own := [], ro := [] } }
def spec_l01In.an : An := { pre := [] }
def spec_l01In.S : Spec := { ats := [.v (.int .i64), .v (.int .i64), .v (.int .i64)], rts := [.bool], F := fun x => spec_l01In x.1 x.2.1 x.2.2.1 }
theorem spec_l01In.eq (lp : Nat) (x : ADens [.v (.int .i64), .v (.int .i64), .v (.int .i64)]) : evalF (spec_l01In.E) spec_l01In.an lp Tryz.f39 [.v (.int .i64), .v (.int .i64), .v (.int .i64)] [.bool] x = (spec_l01In.S).F x := by kernel_rfl
theorem spec_l01In.ok : Sound Tryz.prog 39 (spec_l01In.S) := sound_of (E := spec_l01In.E) (env_ok tabFits tabEqs trivial trivial) mixed Tryz.func39 (by kernel_rfl) (c := codeOf Tryz.f39) (by kernel_rfl) (by kernel_rfl) spec_l01In.an (fun x r h => ⟨0, (spec_l01In.eq 0 x).trans h⟩)
def spec_l00Letter.E : Env := { tab := tab, fns := [], ann := { own := [], ro := [] } }
def spec_l00Letter.an : An := { pre := [] }
def spec_l00Letter.S : Spec := { ats := [.v (.int .u8)], rts := [.bool], F := fun x => spec_l00Letter x.1 }
theorem spec_l00Letter.eq (lp : Nat) (x : ADens [.v (.int .u8)]) : evalF (spec_l00Letter.E) spec_l00Letter.an lp Tryz.f137 [.v (.int .u8)] [.bool] x = (spec_l00Letter.S).F x := by kernel_rfl
theorem spec_l00Letter.ok : Sound Tryz.prog 137 (spec_l00Letter.S) := sound_of (E := spec_l00Letter.E) (env_ok tabFits tabEqs trivial trivial) mixed Tryz.func137 (by kernel_rfl) (c := codeOf Tryz.f137) (by kernel_rfl) (by kernel_rfl) spec_l00Letter.an (fun x r h => ⟨0, (spec_l00Letter.eq 0 x).trans h⟩)
def spec_l00Digit.E : Env := { tab := tab, fns := [], ann := { own := [], ro := [] } }
def spec_l00Digit.an : An := { pre := [] }
def spec_l00Digit.S : Spec := { ats := [.v (.int .u8)], rts := [.bool], F := fun x => spec_l00Digit x.1 }
theorem spec_l00Digit.eq (lp : Nat) (x : ADens [.v (.int .u8)]) : evalF (spec_l00Digit.E) spec_l00Digit.an lp Tryz.f138 [.v (.int .u8)] [.bool] x = (spec_l00Digit.S).F x := by kernel_rfl
theorem spec_l00Digit.ok : Sound Tryz.prog 138 (spec_l00Digit.S) := sound_of (E := spec_l00Digit.E) (env_ok tabFits tabEqs trivial trivial) mixed Tryz.func138 (by kernel_rfl) (c := codeOf Tryz.f138) (by kernel_rfl) (by kernel_rfl) spec_l00Digit.an (fun x r h => ⟨0, (spec_l00Digit.eq 0 x).trans h⟩)
def spec_l00Word.E (lp : Nat) : Env := { tab := tab, fns := [(137, spec_l00Letter.S), (138, spec_l00Digit.S)], ann := { own := [], ro := [] } }
def spec_l00Word.la4 : LoopAn := { kn := { tms := [0, 3] }, kx := {}, kr := { tms := [2] } }
def spec_l00Word.an : An := { loops := [(4, spec_l00Word.la4)] }
def spec_l00Word.s4 (x0 : ByteArray) (x3 : Int) : St := ⟨.v (.one (.b (.d .str x0))) :: (sk 2 (.v (.one (.b (.d (.int .i64) x3))) :: (sk 32 ([])))), sko 36 ([])⟩
def spec_l00Word.sx4 (y : Unit) : St := ⟨sk 36 ([]), sko 36 ([])⟩
def spec_l00Word.sr4 (z : Bool) : St := ⟨sk 2 (.v (.one (.b (.d .bool z))) :: (sk 33 ([]))), sko 36 ([])⟩
def spec_l00Word.S (lp : Nat) : Spec := { ats := [.v .str], rts := [.bool], F := fun x => spec_l00Word lp x.1 }
theorem spec_l00Word.t_b4 (lp : Nat) {R : Type} (N : St → Option R) (X : Out → St → Option R) (x0 : ByteArray) (x3 : Int) : codeK (spec_l00Word.E lp) spec_l00Word.an lp (loopAt 4 (codeOf Tryz.f89)) (spec_l00Word.s4 x0 x3) (lpK spec_l00Word.la4 N X) = spec_l00Word.b4 lp (fun x0 x3 => N (spec_l00Word.s4 x0 x3)) (fun y => X (.exit 0) (spec_l00Word.sx4 y)) (fun z => X .ret (spec_l00Word.sr4 z)) x0 x3 := by kernel_rfl
theorem spec_l00Word.n_b4 (lp : Nat) {R S : Type} (N : ByteArray → Int → Option R) (X : Unit → Option R) (Q : Bool → Option R) (x0 : ByteArray) (x3 : Int) (k : R → Option S) : obind (spec_l00Word.b4 lp N X Q x0 x3) k = spec_l00Word.b4 lp (fun x0 x3 => obind (N x0 x3) k) (fun y => obind (X y) k) (fun z => obind (Q z) k) x0 x3 := by
  unfold spec_l00Word.b4; simp only [obind_none, obind_some, obind_cond, obind_oif, obind_oget, obind_obind]
theorem spec_l00Word.k4 (lp : Nat) {R : Type} (K : Out → St → Option R) : ∀ (n : Nat) (x0 : ByteArray) (x3 : Int), loopK spec_l00Word.la4 (fun σ K => codeK (spec_l00Word.E lp) spec_l00Word.an lp (loopAt 4 (codeOf Tryz.f89)) σ K) n (spec_l00Word.s4 x0 x3) K = obind (spec_l00Word.l4 lp n x0 x3) (leK 0 spec_l00Word.sr4 spec_l00Word.sx4 K) := by
  intro n
  induction n with
  | zero => intros; rfl
  | succ n ih =>
    intro x0 x3
    rw [loopK_succ, spec_l00Word.t_b4, spec_l00Word.l4, spec_l00Word.n_b4]
    simp only [ih, obind_some, leK_ret, leK_brk]
theorem spec_l00Word.t_a4 (lp : Nat) (y : Unit) : kont (R := Bool) (spec_l00Word.E lp) spec_l00Word.an lp (finK (spec_l00Word.E lp) Tryz.f89 [.bool]) (stkAt 4 (codeOf Tryz.f89)) (.exit 0) (spec_l00Word.sx4 y) = spec_l00Word.a4 lp y := by kernel_rfl
theorem spec_l00Word.t_q4 (lp : Nat) (z : Bool) : kont (R := Bool) (spec_l00Word.E lp) spec_l00Word.an lp (finK (spec_l00Word.E lp) Tryz.f89 [.bool]) (stkAt 4 (codeOf Tryz.f89)) .ret (spec_l00Word.sr4 z) = spec_l00Word.q4 lp z := by kernel_rfl
theorem spec_l00Word.t_e (lp : Nat) (x0 : ByteArray) : evalF (spec_l00Word.E lp) spec_l00Word.an lp Tryz.f89 [.v .str] [.bool] (x0, ()) = spec_l00Word.e lp (fun x0 x3 => loopK spec_l00Word.la4 (fun σ K => codeK (spec_l00Word.E lp) spec_l00Word.an lp (loopAt 4 (codeOf Tryz.f89)) σ K) lp (spec_l00Word.s4 x0 x3) (kont (spec_l00Word.E lp) spec_l00Word.an lp (finK (spec_l00Word.E lp) Tryz.f89 [.bool]) (stkAt 4 (codeOf Tryz.f89)))) x0 := by kernel_rfl
theorem spec_l00Word.eq0 (lp : Nat) (x0 : ByteArray) : evalF (spec_l00Word.E lp) spec_l00Word.an lp Tryz.f89 [.v .str] [.bool] (x0, ()) = spec_l00Word lp x0 := by
  rw [spec_l00Word.t_e]; unfold spec_l00Word
  simp only [leK_leF _ spec_l00Word.sr4 spec_l00Word.sx4, spec_l00Word.k4, spec_l00Word.t_a4, spec_l00Word.t_q4]
theorem spec_l00Word.eq (lp : Nat) (x : ADens [.v .str]) : evalF (spec_l00Word.E lp) spec_l00Word.an lp Tryz.f89 [.v .str] [.bool] x = (spec_l00Word.S lp).F x := spec_l00Word.eq0 lp x.1
theorem spec_l00Word.ok (lp : Nat) : Sound Tryz.prog 89 (spec_l00Word.S lp) := sound_of (E := spec_l00Word.E lp) (env_ok tabFits tabEqs ⟨spec_l00Letter.ok, spec_l00Digit.ok, trivial⟩ trivial) mixed Tryz.func89 (by kernel_rfl) (c := codeOf Tryz.f89) (by kernel_rfl) (by kernel_rfl) spec_l00Word.an (fun x r h => ⟨lp, (spec_l00Word.eq lp x).trans h⟩)
def spec_l01OK.E (lp : Nat) : Env := { tab := tab, fns := [(89, spec_l00Word.S lp), (39, spec_l01In.S)], ann := { own := [], ro := [] } }
def spec_l01OK.la4 : LoopAn := { kn := { tms := [0, 3] }, kx := {}, kr := { tms := [2] } }
def spec_l01OK.an : An := { loops := [(4, spec_l01OK.la4)] }
def spec_l01OK.s4 (x0 : List Entry) (x3 : Int) : St := ⟨.v (.one (.b (.d (.sl TEntry) x0))) :: (sk 2 (.v (.one (.b (.d (.int .i64) x3))) :: (sk 43 ([])))), sko 47 ([])⟩
def spec_l01OK.sx4 (y : Unit) : St := ⟨sk 47 ([]), sko 47 ([])⟩
def spec_l01OK.sr4 (z : Bool) : St := ⟨sk 2 (.v (.one (.b (.d .bool z))) :: (sk 44 ([]))), sko 47 ([])⟩
def spec_l01OK.S (lp : Nat) : Spec := { ats := [.v (.sl TEntry)], rts := [.bool], F := fun x => spec_l01OK lp x.1 }
theorem spec_l01OK.t_b4 (lp : Nat) {R : Type} (N : St → Option R) (X : Out → St → Option R) (x0 : List Entry) (x3 : Int) : codeK (spec_l01OK.E lp) spec_l01OK.an lp (loopAt 4 (codeOf Tryz.f93)) (spec_l01OK.s4 x0 x3) (lpK spec_l01OK.la4 N X) = spec_l01OK.b4 lp (fun x0 x3 => N (spec_l01OK.s4 x0 x3)) (fun y => X (.exit 0) (spec_l01OK.sx4 y)) (fun z => X .ret (spec_l01OK.sr4 z)) x0 x3 := by kernel_rfl
theorem spec_l01OK.n_b4 (lp : Nat) {R S : Type} (N : List Entry → Int → Option R) (X : Unit → Option R) (Q : Bool → Option R) (x0 : List Entry) (x3 : Int) (k : R → Option S) : obind (spec_l01OK.b4 lp N X Q x0 x3) k = spec_l01OK.b4 lp (fun x0 x3 => obind (N x0 x3) k) (fun y => obind (X y) k) (fun z => obind (Q z) k) x0 x3 := by
  unfold spec_l01OK.b4; simp only [obind_none, obind_some, obind_cond, obind_oif, obind_oget, obind_obind]
theorem spec_l01OK.k4 (lp : Nat) {R : Type} (K : Out → St → Option R) : ∀ (n : Nat) (x0 : List Entry) (x3 : Int), loopK spec_l01OK.la4 (fun σ K => codeK (spec_l01OK.E lp) spec_l01OK.an lp (loopAt 4 (codeOf Tryz.f93)) σ K) n (spec_l01OK.s4 x0 x3) K = obind (spec_l01OK.l4 lp n x0 x3) (leK 0 spec_l01OK.sr4 spec_l01OK.sx4 K) := by
  intro n
  induction n with
  | zero => intros; rfl
  | succ n ih =>
    intro x0 x3
    rw [loopK_succ, spec_l01OK.t_b4, spec_l01OK.l4, spec_l01OK.n_b4]
    simp only [ih, obind_some, leK_ret, leK_brk]
theorem spec_l01OK.t_a4 (lp : Nat) (y : Unit) : kont (R := Bool) (spec_l01OK.E lp) spec_l01OK.an lp (finK (spec_l01OK.E lp) Tryz.f93 [.bool]) (stkAt 4 (codeOf Tryz.f93)) (.exit 0) (spec_l01OK.sx4 y) = spec_l01OK.a4 lp y := by kernel_rfl
theorem spec_l01OK.t_q4 (lp : Nat) (z : Bool) : kont (R := Bool) (spec_l01OK.E lp) spec_l01OK.an lp (finK (spec_l01OK.E lp) Tryz.f93 [.bool]) (stkAt 4 (codeOf Tryz.f93)) .ret (spec_l01OK.sr4 z) = spec_l01OK.q4 lp z := by kernel_rfl
theorem spec_l01OK.t_e (lp : Nat) (x0 : List Entry) : evalF (spec_l01OK.E lp) spec_l01OK.an lp Tryz.f93 [.v (.sl TEntry)] [.bool] (x0, ()) = spec_l01OK.e lp (fun x0 x3 => loopK spec_l01OK.la4 (fun σ K => codeK (spec_l01OK.E lp) spec_l01OK.an lp (loopAt 4 (codeOf Tryz.f93)) σ K) lp (spec_l01OK.s4 x0 x3) (kont (spec_l01OK.E lp) spec_l01OK.an lp (finK (spec_l01OK.E lp) Tryz.f93 [.bool]) (stkAt 4 (codeOf Tryz.f93)))) x0 := by kernel_rfl
theorem spec_l01OK.eq0 (lp : Nat) (x0 : List Entry) : evalF (spec_l01OK.E lp) spec_l01OK.an lp Tryz.f93 [.v (.sl TEntry)] [.bool] (x0, ()) = spec_l01OK lp x0 := by
  rw [spec_l01OK.t_e]; unfold spec_l01OK
  simp only [leK_leF _ spec_l01OK.sr4 spec_l01OK.sx4, spec_l01OK.k4, spec_l01OK.t_a4, spec_l01OK.t_q4]
theorem spec_l01OK.eq (lp : Nat) (x : ADens [.v (.sl TEntry)]) : evalF (spec_l01OK.E lp) spec_l01OK.an lp Tryz.f93 [.v (.sl TEntry)] [.bool] x = (spec_l01OK.S lp).F x := spec_l01OK.eq0 lp x.1
theorem spec_l01OK.ok (lp : Nat) : Sound Tryz.prog 93 (spec_l01OK.S lp) := sound_of (E := spec_l01OK.E lp) (env_ok tabFits tabEqs ⟨spec_l00Word.ok lp, spec_l01In.ok, trivial⟩ trivial) mixed Tryz.func93 (by kernel_rfl) (c := codeOf Tryz.f93) (by kernel_rfl) (by kernel_rfl) spec_l01OK.an (fun x r h => ⟨lp, (spec_l01OK.eq lp x).trans h⟩)
def spec_l03Commit.E (lp : Nat) : Env := { tab := tab, fns := [(93, spec_l01OK.S lp), (39, spec_l01In.S)], ann := { own := [], ro := [3] } }
def spec_l03Commit.la5 : LoopAn := { kn := { tms := [0, 3, 5, 6] }, kx := {}, kr := { tms := [4] } }
def spec_l03Commit.an : An := { loops := [(5, spec_l03Commit.la5)] }
def spec_l03Commit.s5 (x0 : List Commit) (x3_0 : List Int) (x3_1 : List Entry) (x5 : Int) (x6 : Int) : St := ⟨.v (.one (.b (.d (.sl TCommit) x0))) :: (sk 2 (.v (.one (.rdp [.d (.sl (.int .i64)) x3_0, .d (.sl TEntry) x3_1])) :: (sk 1 (.v (.one (.b (.d (.int .i64) x5))) :: .v (.one (.b (.d (.int .i64) x6))) :: (sk 49 ([])))))), sko 56 ([])⟩
def spec_l03Commit.sx5 (y : Unit) : St := ⟨sk 56 ([]), sko 56 ([])⟩
def spec_l03Commit.sr5 (z : Bool) : St := ⟨sk 4 (.v (.one (.b (.d .bool z))) :: (sk 51 ([]))), sko 56 ([])⟩
def spec_l03Commit.S (lp : Nat) : Spec := { ats := [.v (.sl TCommit), .v TCommit], rts := [.bool], F := fun x => spec_l03Commit lp x.1 x.2.1 }
theorem spec_l03Commit.t_b5 (lp : Nat) {R : Type} (N : St → Option R) (X : Out → St → Option R) (x0 : List Commit) (x3_0 : List Int) (x3_1 : List Entry) (x5 : Int) (x6 : Int) : codeK (spec_l03Commit.E lp) spec_l03Commit.an lp (loopAt 5 (codeOf Tryz.f132)) (spec_l03Commit.s5 x0 x3_0 x3_1 x5 x6) (lpK spec_l03Commit.la5 N X) = spec_l03Commit.b5 lp (fun x0 x3_0 x3_1 x5 x6 => N (spec_l03Commit.s5 x0 x3_0 x3_1 x5 x6)) (fun y => X (.exit 0) (spec_l03Commit.sx5 y)) (fun z => X .ret (spec_l03Commit.sr5 z)) x0 x3_0 x3_1 x5 x6 := by kernel_rfl
theorem spec_l03Commit.n_b5 (lp : Nat) {R S : Type} (N : List Commit → List Int → List Entry → Int → Int → Option R) (X : Unit → Option R) (Q : Bool → Option R) (x0 : List Commit) (x3_0 : List Int) (x3_1 : List Entry) (x5 : Int) (x6 : Int) (k : R → Option S) : obind (spec_l03Commit.b5 lp N X Q x0 x3_0 x3_1 x5 x6) k = spec_l03Commit.b5 lp (fun x0 x3_0 x3_1 x5 x6 => obind (N x0 x3_0 x3_1 x5 x6) k) (fun y => obind (X y) k) (fun z => obind (Q z) k) x0 x3_0 x3_1 x5 x6 := by
  unfold spec_l03Commit.b5; simp only [obind_none, obind_some, obind_cond, obind_oif, obind_oget, obind_obind]
theorem spec_l03Commit.k5 (lp : Nat) {R : Type} (K : Out → St → Option R) : ∀ (n : Nat) (x0 : List Commit) (x3_0 : List Int) (x3_1 : List Entry) (x5 : Int) (x6 : Int), loopK spec_l03Commit.la5 (fun σ K => codeK (spec_l03Commit.E lp) spec_l03Commit.an lp (loopAt 5 (codeOf Tryz.f132)) σ K) n (spec_l03Commit.s5 x0 x3_0 x3_1 x5 x6) K = obind (spec_l03Commit.l5 lp n x0 x3_0 x3_1 x5 x6) (leK 0 spec_l03Commit.sr5 spec_l03Commit.sx5 K) := by
  intro n
  induction n with
  | zero => intros; rfl
  | succ n ih =>
    intro x0 x3_0 x3_1 x5 x6
    rw [loopK_succ, spec_l03Commit.t_b5, spec_l03Commit.l5, spec_l03Commit.n_b5]
    simp only [ih, obind_some, leK_ret, leK_brk]
theorem spec_l03Commit.t_a5 (lp : Nat) (y : Unit) : kont (R := Bool) (spec_l03Commit.E lp) spec_l03Commit.an lp (finK (spec_l03Commit.E lp) Tryz.f132 [.bool]) (stkAt 5 (codeOf Tryz.f132)) (.exit 0) (spec_l03Commit.sx5 y) = spec_l03Commit.a5 lp y := by kernel_rfl
theorem spec_l03Commit.t_q5 (lp : Nat) (z : Bool) : kont (R := Bool) (spec_l03Commit.E lp) spec_l03Commit.an lp (finK (spec_l03Commit.E lp) Tryz.f132 [.bool]) (stkAt 5 (codeOf Tryz.f132)) .ret (spec_l03Commit.sr5 z) = spec_l03Commit.q5 lp z := by kernel_rfl
theorem spec_l03Commit.t_e (lp : Nat) (x0 : List Commit) (x1 : Commit) : evalF (spec_l03Commit.E lp) spec_l03Commit.an lp Tryz.f132 [.v (.sl TCommit), .v TCommit] [.bool] (x0, x1, ()) = spec_l03Commit.e lp (fun x0 x3_0 x3_1 x5 x6 => loopK spec_l03Commit.la5 (fun σ K => codeK (spec_l03Commit.E lp) spec_l03Commit.an lp (loopAt 5 (codeOf Tryz.f132)) σ K) lp (spec_l03Commit.s5 x0 x3_0 x3_1 x5 x6) (kont (spec_l03Commit.E lp) spec_l03Commit.an lp (finK (spec_l03Commit.E lp) Tryz.f132 [.bool]) (stkAt 5 (codeOf Tryz.f132)))) x0 x1 := by kernel_rfl
theorem spec_l03Commit.eq0 (lp : Nat) (x0 : List Commit) (x1 : Commit) : evalF (spec_l03Commit.E lp) spec_l03Commit.an lp Tryz.f132 [.v (.sl TCommit), .v TCommit] [.bool] (x0, x1, ()) = spec_l03Commit lp x0 x1 := by
  rw [spec_l03Commit.t_e]; unfold spec_l03Commit
  simp only [leK_leF _ spec_l03Commit.sr5 spec_l03Commit.sx5, spec_l03Commit.k5, spec_l03Commit.t_a5, spec_l03Commit.t_q5]
theorem spec_l03Commit.eq (lp : Nat) (x : ADens [.v (.sl TCommit), .v TCommit]) : evalF (spec_l03Commit.E lp) spec_l03Commit.an lp Tryz.f132 [.v (.sl TCommit), .v TCommit] [.bool] x = (spec_l03Commit.S lp).F x := spec_l03Commit.eq0 lp x.1 x.2.1
theorem spec_l03Commit.ok (lp : Nat) : Sound Tryz.prog 132 (spec_l03Commit.S lp) := sound_of (E := spec_l03Commit.E lp) (env_ok tabFits tabEqs ⟨spec_l01OK.ok lp, spec_l01In.ok, trivial⟩ trivial) mixed Tryz.func132 (by kernel_rfl) (c := codeOf Tryz.f132) (by kernel_rfl) (by kernel_rfl) spec_l03Commit.an (fun x r h => ⟨lp, (spec_l03Commit.eq lp x).trans h⟩)
def spec_l03OK.E (lp : Nat) : Env := { tab := tab, fns := [(39, spec_l01In.S), (132, spec_l03Commit.S lp)], ann := { own := [], ro := [] } }
def spec_l03OK.la4 : LoopAn := { kn := { tms := [0, 3] }, kx := {}, kr := { tms := [2] } }
def spec_l03OK.an : An := { loops := [(4, spec_l03OK.la4)] }
def spec_l03OK.s4 (x0 : List Commit) (x3 : Int) : St := ⟨.v (.one (.b (.d (.sl TCommit) x0))) :: (sk 2 (.v (.one (.b (.d (.int .i64) x3))) :: (sk 19 ([])))), sko 23 ([])⟩
def spec_l03OK.sx4 (y : Unit) : St := ⟨sk 23 ([]), sko 23 ([])⟩
def spec_l03OK.sr4 (z : Bool) : St := ⟨sk 2 (.v (.one (.b (.d .bool z))) :: (sk 20 ([]))), sko 23 ([])⟩
def spec_l03OK.S (lp : Nat) : Spec := { ats := [.v (.sl TCommit)], rts := [.bool], F := fun x => spec_l03OK lp x.1 }
theorem spec_l03OK.t_b4 (lp : Nat) {R : Type} (N : St → Option R) (X : Out → St → Option R) (x0 : List Commit) (x3 : Int) : codeK (spec_l03OK.E lp) spec_l03OK.an lp (loopAt 4 (codeOf Tryz.f85)) (spec_l03OK.s4 x0 x3) (lpK spec_l03OK.la4 N X) = spec_l03OK.b4 lp (fun x0 x3 => N (spec_l03OK.s4 x0 x3)) (fun y => X (.exit 0) (spec_l03OK.sx4 y)) (fun z => X .ret (spec_l03OK.sr4 z)) x0 x3 := by kernel_rfl
theorem spec_l03OK.n_b4 (lp : Nat) {R S : Type} (N : List Commit → Int → Option R) (X : Unit → Option R) (Q : Bool → Option R) (x0 : List Commit) (x3 : Int) (k : R → Option S) : obind (spec_l03OK.b4 lp N X Q x0 x3) k = spec_l03OK.b4 lp (fun x0 x3 => obind (N x0 x3) k) (fun y => obind (X y) k) (fun z => obind (Q z) k) x0 x3 := by
  unfold spec_l03OK.b4; simp only [obind_none, obind_some, obind_cond, obind_oif, obind_oget, obind_obind]
theorem spec_l03OK.k4 (lp : Nat) {R : Type} (K : Out → St → Option R) : ∀ (n : Nat) (x0 : List Commit) (x3 : Int), loopK spec_l03OK.la4 (fun σ K => codeK (spec_l03OK.E lp) spec_l03OK.an lp (loopAt 4 (codeOf Tryz.f85)) σ K) n (spec_l03OK.s4 x0 x3) K = obind (spec_l03OK.l4 lp n x0 x3) (leK 0 spec_l03OK.sr4 spec_l03OK.sx4 K) := by
  intro n
  induction n with
  | zero => intros; rfl
  | succ n ih =>
    intro x0 x3
    rw [loopK_succ, spec_l03OK.t_b4, spec_l03OK.l4, spec_l03OK.n_b4]
    simp only [ih, obind_some, leK_ret, leK_brk]
theorem spec_l03OK.t_a4 (lp : Nat) (y : Unit) : kont (R := Bool) (spec_l03OK.E lp) spec_l03OK.an lp (finK (spec_l03OK.E lp) Tryz.f85 [.bool]) (stkAt 4 (codeOf Tryz.f85)) (.exit 0) (spec_l03OK.sx4 y) = spec_l03OK.a4 lp y := by kernel_rfl
theorem spec_l03OK.t_q4 (lp : Nat) (z : Bool) : kont (R := Bool) (spec_l03OK.E lp) spec_l03OK.an lp (finK (spec_l03OK.E lp) Tryz.f85 [.bool]) (stkAt 4 (codeOf Tryz.f85)) .ret (spec_l03OK.sr4 z) = spec_l03OK.q4 lp z := by kernel_rfl
theorem spec_l03OK.t_e (lp : Nat) (x0 : List Commit) : evalF (spec_l03OK.E lp) spec_l03OK.an lp Tryz.f85 [.v (.sl TCommit)] [.bool] (x0, ()) = spec_l03OK.e lp (fun x0 x3 => loopK spec_l03OK.la4 (fun σ K => codeK (spec_l03OK.E lp) spec_l03OK.an lp (loopAt 4 (codeOf Tryz.f85)) σ K) lp (spec_l03OK.s4 x0 x3) (kont (spec_l03OK.E lp) spec_l03OK.an lp (finK (spec_l03OK.E lp) Tryz.f85 [.bool]) (stkAt 4 (codeOf Tryz.f85)))) x0 := by kernel_rfl
theorem spec_l03OK.eq0 (lp : Nat) (x0 : List Commit) : evalF (spec_l03OK.E lp) spec_l03OK.an lp Tryz.f85 [.v (.sl TCommit)] [.bool] (x0, ()) = spec_l03OK lp x0 := by
  rw [spec_l03OK.t_e]; unfold spec_l03OK
  simp only [leK_leF _ spec_l03OK.sr4 spec_l03OK.sx4, spec_l03OK.k4, spec_l03OK.t_a4, spec_l03OK.t_q4]
theorem spec_l03OK.eq (lp : Nat) (x : ADens [.v (.sl TCommit)]) : evalF (spec_l03OK.E lp) spec_l03OK.an lp Tryz.f85 [.v (.sl TCommit)] [.bool] x = (spec_l03OK.S lp).F x := spec_l03OK.eq0 lp x.1
theorem spec_l03OK.ok (lp : Nat) : Sound Tryz.prog 85 (spec_l03OK.S lp) := sound_of (E := spec_l03OK.E lp) (env_ok tabFits tabEqs ⟨spec_l01In.ok, spec_l03Commit.ok lp, trivial⟩ trivial) mixed Tryz.func85 (by kernel_rfl) (c := codeOf Tryz.f85) (by kernel_rfl) (by kernel_rfl) spec_l03OK.an (fun x r h => ⟨lp, (spec_l03OK.eq lp x).trans h⟩)
def spec_l04At.E (lp : Nat) : Env := { tab := tab, fns := [], ann := { own := [], ro := [] } }
def spec_l04At.la2 : LoopAn := { kn := { tms := [0, 1, 5] }, kx := {}, kr := { tms := [4] } }
def spec_l04At.an : An := { loops := [(2, spec_l04At.la2)] }
def spec_l04At.s2 (x0 : List Ref) (x1 : ByteArray) (x5 : Int) : St := ⟨.v (.one (.b (.d (.sl TRef) x0))) :: .v (.one (.b (.d .str x1))) :: (sk 3 (.v (.one (.b (.d (.int .i64) x5))) :: (sk 14 ([])))), sko 20 ([])⟩
def spec_l04At.sx2 (y : Unit) : St := ⟨sk 20 ([]), sko 20 ([])⟩
def spec_l04At.sr2 (z : Int) : St := ⟨sk 4 (.v (.one (.b (.d (.int .i64) z))) :: (sk 15 ([]))), sko 20 ([])⟩
def spec_l04At.S (lp : Nat) : Spec := { ats := [.v (.sl TRef), .v .str], rts := [(.int .i64)], F := fun x => spec_l04At lp x.1 x.2.1 }
theorem spec_l04At.t_b2 (lp : Nat) {R : Type} (N : St → Option R) (X : Out → St → Option R) (x0 : List Ref) (x1 : ByteArray) (x5 : Int) : codeK (spec_l04At.E lp) spec_l04At.an lp (loopAt 2 (codeOf Tryz.f91)) (spec_l04At.s2 x0 x1 x5) (lpK spec_l04At.la2 N X) = spec_l04At.b2 lp (fun x0 x1 x5 => N (spec_l04At.s2 x0 x1 x5)) (fun y => X (.exit 0) (spec_l04At.sx2 y)) (fun z => X .ret (spec_l04At.sr2 z)) x0 x1 x5 := by kernel_rfl
theorem spec_l04At.n_b2 (lp : Nat) {R S : Type} (N : List Ref → ByteArray → Int → Option R) (X : Unit → Option R) (Q : Int → Option R) (x0 : List Ref) (x1 : ByteArray) (x5 : Int) (k : R → Option S) : obind (spec_l04At.b2 lp N X Q x0 x1 x5) k = spec_l04At.b2 lp (fun x0 x1 x5 => obind (N x0 x1 x5) k) (fun y => obind (X y) k) (fun z => obind (Q z) k) x0 x1 x5 := by
  unfold spec_l04At.b2; simp only [obind_none, obind_some, obind_cond, obind_oif, obind_oget, obind_obind]
theorem spec_l04At.k2 (lp : Nat) {R : Type} (K : Out → St → Option R) : ∀ (n : Nat) (x0 : List Ref) (x1 : ByteArray) (x5 : Int), loopK spec_l04At.la2 (fun σ K => codeK (spec_l04At.E lp) spec_l04At.an lp (loopAt 2 (codeOf Tryz.f91)) σ K) n (spec_l04At.s2 x0 x1 x5) K = obind (spec_l04At.l2 lp n x0 x1 x5) (leK 0 spec_l04At.sr2 spec_l04At.sx2 K) := by
  intro n
  induction n with
  | zero => intros; rfl
  | succ n ih =>
    intro x0 x1 x5
    rw [loopK_succ, spec_l04At.t_b2, spec_l04At.l2, spec_l04At.n_b2]
    simp only [ih, obind_some, leK_ret, leK_brk]
theorem spec_l04At.t_a2 (lp : Nat) (y : Unit) : kont (R := Int) (spec_l04At.E lp) spec_l04At.an lp (finK (spec_l04At.E lp) Tryz.f91 [(.int .i64)]) (stkAt 2 (codeOf Tryz.f91)) (.exit 0) (spec_l04At.sx2 y) = spec_l04At.a2 lp y := by kernel_rfl
theorem spec_l04At.t_q2 (lp : Nat) (z : Int) : kont (R := Int) (spec_l04At.E lp) spec_l04At.an lp (finK (spec_l04At.E lp) Tryz.f91 [(.int .i64)]) (stkAt 2 (codeOf Tryz.f91)) .ret (spec_l04At.sr2 z) = spec_l04At.q2 lp z := by kernel_rfl
theorem spec_l04At.t_e (lp : Nat) (x0 : List Ref) (x1 : ByteArray) : evalF (spec_l04At.E lp) spec_l04At.an lp Tryz.f91 [.v (.sl TRef), .v .str] [(.int .i64)] (x0, x1, ()) = spec_l04At.e lp (fun x0 x1 x5 => loopK spec_l04At.la2 (fun σ K => codeK (spec_l04At.E lp) spec_l04At.an lp (loopAt 2 (codeOf Tryz.f91)) σ K) lp (spec_l04At.s2 x0 x1 x5) (kont (spec_l04At.E lp) spec_l04At.an lp (finK (spec_l04At.E lp) Tryz.f91 [(.int .i64)]) (stkAt 2 (codeOf Tryz.f91)))) x0 x1 := by kernel_rfl
theorem spec_l04At.eq0 (lp : Nat) (x0 : List Ref) (x1 : ByteArray) : evalF (spec_l04At.E lp) spec_l04At.an lp Tryz.f91 [.v (.sl TRef), .v .str] [(.int .i64)] (x0, x1, ()) = spec_l04At lp x0 x1 := by
  rw [spec_l04At.t_e]; unfold spec_l04At
  simp only [leK_leF _ spec_l04At.sr2 spec_l04At.sx2, spec_l04At.k2, spec_l04At.t_a2, spec_l04At.t_q2]
theorem spec_l04At.eq (lp : Nat) (x : ADens [.v (.sl TRef), .v .str]) : evalF (spec_l04At.E lp) spec_l04At.an lp Tryz.f91 [.v (.sl TRef), .v .str] [(.int .i64)] x = (spec_l04At.S lp).F x := spec_l04At.eq0 lp x.1 x.2.1
theorem spec_l04At.ok (lp : Nat) : Sound Tryz.prog 91 (spec_l04At.S lp) := sound_of (E := spec_l04At.E lp) (env_ok tabFits tabEqs trivial trivial) mixed Tryz.func91 (by kernel_rfl) (c := codeOf Tryz.f91) (by kernel_rfl) (by kernel_rfl) spec_l04At.an (fun x r h => ⟨lp, (spec_l04At.eq lp x).trans h⟩)
def spec_l04OK.E (lp : Nat) : Env := { tab := tab, fns := [(89, spec_l00Word.S lp), (39, spec_l01In.S), (91, spec_l04At.S lp)], ann := { own := [], ro := [] } }
def spec_l04OK.la4 : LoopAn := { kn := { tms := [0, 3] }, kx := {}, kr := { tms := [2] } }
def spec_l04OK.an : An := { loops := [(4, spec_l04OK.la4)] }
def spec_l04OK.s4 (x0 : List Ref) (x3 : Int) : St := ⟨.v (.one (.b (.d (.sl TRef) x0))) :: (sk 2 (.v (.one (.b (.d (.int .i64) x3))) :: (sk 52 ([])))), sko 56 ([])⟩
def spec_l04OK.sx4 (y : Unit) : St := ⟨sk 56 ([]), sko 56 ([])⟩
def spec_l04OK.sr4 (z : Bool) : St := ⟨sk 2 (.v (.one (.b (.d .bool z))) :: (sk 53 ([]))), sko 56 ([])⟩
def spec_l04OK.S (lp : Nat) : Spec := { ats := [.v (.sl TRef)], rts := [.bool], F := fun x => spec_l04OK lp x.1 }
theorem spec_l04OK.t_b4 (lp : Nat) {R : Type} (N : St → Option R) (X : Out → St → Option R) (x0 : List Ref) (x3 : Int) : codeK (spec_l04OK.E lp) spec_l04OK.an lp (loopAt 4 (codeOf Tryz.f86)) (spec_l04OK.s4 x0 x3) (lpK spec_l04OK.la4 N X) = spec_l04OK.b4 lp (fun x0 x3 => N (spec_l04OK.s4 x0 x3)) (fun y => X (.exit 0) (spec_l04OK.sx4 y)) (fun z => X .ret (spec_l04OK.sr4 z)) x0 x3 := by kernel_rfl
theorem spec_l04OK.n_b4 (lp : Nat) {R S : Type} (N : List Ref → Int → Option R) (X : Unit → Option R) (Q : Bool → Option R) (x0 : List Ref) (x3 : Int) (k : R → Option S) : obind (spec_l04OK.b4 lp N X Q x0 x3) k = spec_l04OK.b4 lp (fun x0 x3 => obind (N x0 x3) k) (fun y => obind (X y) k) (fun z => obind (Q z) k) x0 x3 := by
  unfold spec_l04OK.b4; simp only [obind_none, obind_some, obind_cond, obind_oif, obind_oget, obind_obind]
theorem spec_l04OK.k4 (lp : Nat) {R : Type} (K : Out → St → Option R) : ∀ (n : Nat) (x0 : List Ref) (x3 : Int), loopK spec_l04OK.la4 (fun σ K => codeK (spec_l04OK.E lp) spec_l04OK.an lp (loopAt 4 (codeOf Tryz.f86)) σ K) n (spec_l04OK.s4 x0 x3) K = obind (spec_l04OK.l4 lp n x0 x3) (leK 0 spec_l04OK.sr4 spec_l04OK.sx4 K) := by
  intro n
  induction n with
  | zero => intros; rfl
  | succ n ih =>
    intro x0 x3
    rw [loopK_succ, spec_l04OK.t_b4, spec_l04OK.l4, spec_l04OK.n_b4]
    simp only [ih, obind_some, leK_ret, leK_brk]
theorem spec_l04OK.t_a4 (lp : Nat) (y : Unit) : kont (R := Bool) (spec_l04OK.E lp) spec_l04OK.an lp (finK (spec_l04OK.E lp) Tryz.f86 [.bool]) (stkAt 4 (codeOf Tryz.f86)) (.exit 0) (spec_l04OK.sx4 y) = spec_l04OK.a4 lp y := by kernel_rfl
theorem spec_l04OK.t_q4 (lp : Nat) (z : Bool) : kont (R := Bool) (spec_l04OK.E lp) spec_l04OK.an lp (finK (spec_l04OK.E lp) Tryz.f86 [.bool]) (stkAt 4 (codeOf Tryz.f86)) .ret (spec_l04OK.sr4 z) = spec_l04OK.q4 lp z := by kernel_rfl
theorem spec_l04OK.t_e (lp : Nat) (x0 : List Ref) : evalF (spec_l04OK.E lp) spec_l04OK.an lp Tryz.f86 [.v (.sl TRef)] [.bool] (x0, ()) = spec_l04OK.e lp (fun x0 x3 => loopK spec_l04OK.la4 (fun σ K => codeK (spec_l04OK.E lp) spec_l04OK.an lp (loopAt 4 (codeOf Tryz.f86)) σ K) lp (spec_l04OK.s4 x0 x3) (kont (spec_l04OK.E lp) spec_l04OK.an lp (finK (spec_l04OK.E lp) Tryz.f86 [.bool]) (stkAt 4 (codeOf Tryz.f86)))) x0 := by kernel_rfl
theorem spec_l04OK.eq0 (lp : Nat) (x0 : List Ref) : evalF (spec_l04OK.E lp) spec_l04OK.an lp Tryz.f86 [.v (.sl TRef)] [.bool] (x0, ()) = spec_l04OK lp x0 := by
  rw [spec_l04OK.t_e]; unfold spec_l04OK
  simp only [leK_leF _ spec_l04OK.sr4 spec_l04OK.sx4, spec_l04OK.k4, spec_l04OK.t_a4, spec_l04OK.t_q4]
theorem spec_l04OK.eq (lp : Nat) (x : ADens [.v (.sl TRef)]) : evalF (spec_l04OK.E lp) spec_l04OK.an lp Tryz.f86 [.v (.sl TRef)] [.bool] x = (spec_l04OK.S lp).F x := spec_l04OK.eq0 lp x.1
theorem spec_l04OK.ok (lp : Nat) : Sound Tryz.prog 86 (spec_l04OK.S lp) := sound_of (E := spec_l04OK.E lp) (env_ok tabFits tabEqs ⟨spec_l00Word.ok lp, spec_l01In.ok, spec_l04At.ok lp, trivial⟩ trivial) mixed Tryz.func86 (by kernel_rfl) (c := codeOf Tryz.f86) (by kernel_rfl) (by kernel_rfl) spec_l04OK.an (fun x r h => ⟨lp, (spec_l04OK.eq lp x).trans h⟩)
def spec_l05OK.E (lp : Nat) : Env := { tab := tab, fns := [(85, spec_l03OK.S lp), (86, spec_l04OK.S lp)], ann := { own := [], ro := [1] } }
def spec_l05OK.la4 : LoopAn := { kn := { tms := [1, 3] }, kx := {}, kr := { tms := [2] } }
def spec_l05OK.an : An := { loops := [(4, spec_l05OK.la4)] }
def spec_l05OK.s4 (x1_0 : List Commit) (x1_1 : List Ref) (x3 : Int) : St := ⟨sk 1 (.v (.one (.rdp [.d (.sl TCommit) x1_0, .d (.sl TRef) x1_1])) :: (sk 1 (.v (.one (.b (.d (.int .i64) x3))) :: (sk 27 ([]))))), sko 31 ([])⟩
def spec_l05OK.sx4 (y : Unit) : St := ⟨sk 31 ([]), sko 31 ([])⟩
def spec_l05OK.sr4 (z : Bool) : St := ⟨sk 2 (.v (.one (.b (.d .bool z))) :: (sk 28 ([]))), sko 31 ([])⟩
def spec_l05OK.S (lp : Nat) : Spec := { ats := [.v TBase], rts := [.bool], F := fun x => spec_l05OK lp x.1 }
theorem spec_l05OK.t_b4 (lp : Nat) {R : Type} (N : St → Option R) (X : Out → St → Option R) (x1_0 : List Commit) (x1_1 : List Ref) (x3 : Int) : codeK (spec_l05OK.E lp) spec_l05OK.an lp (loopAt 4 (codeOf Tryz.f50)) (spec_l05OK.s4 x1_0 x1_1 x3) (lpK spec_l05OK.la4 N X) = spec_l05OK.b4 lp (fun x1_0 x1_1 x3 => N (spec_l05OK.s4 x1_0 x1_1 x3)) (fun y => X (.exit 0) (spec_l05OK.sx4 y)) (fun z => X .ret (spec_l05OK.sr4 z)) x1_0 x1_1 x3 := by kernel_rfl
theorem spec_l05OK.n_b4 (lp : Nat) {R S : Type} (N : List Commit → List Ref → Int → Option R) (X : Unit → Option R) (Q : Bool → Option R) (x1_0 : List Commit) (x1_1 : List Ref) (x3 : Int) (k : R → Option S) : obind (spec_l05OK.b4 lp N X Q x1_0 x1_1 x3) k = spec_l05OK.b4 lp (fun x1_0 x1_1 x3 => obind (N x1_0 x1_1 x3) k) (fun y => obind (X y) k) (fun z => obind (Q z) k) x1_0 x1_1 x3 := by
  unfold spec_l05OK.b4; simp only [obind_none, obind_some, obind_cond, obind_oif, obind_oget, obind_obind]
theorem spec_l05OK.k4 (lp : Nat) {R : Type} (K : Out → St → Option R) : ∀ (n : Nat) (x1_0 : List Commit) (x1_1 : List Ref) (x3 : Int), loopK spec_l05OK.la4 (fun σ K => codeK (spec_l05OK.E lp) spec_l05OK.an lp (loopAt 4 (codeOf Tryz.f50)) σ K) n (spec_l05OK.s4 x1_0 x1_1 x3) K = obind (spec_l05OK.l4 lp n x1_0 x1_1 x3) (leK 0 spec_l05OK.sr4 spec_l05OK.sx4 K) := by
  intro n
  induction n with
  | zero => intros; rfl
  | succ n ih =>
    intro x1_0 x1_1 x3
    rw [loopK_succ, spec_l05OK.t_b4, spec_l05OK.l4, spec_l05OK.n_b4]
    simp only [ih, obind_some, leK_ret, leK_brk]
theorem spec_l05OK.t_a4 (lp : Nat) (y : Unit) : kont (R := Bool) (spec_l05OK.E lp) spec_l05OK.an lp (finK (spec_l05OK.E lp) Tryz.f50 [.bool]) (stkAt 4 (codeOf Tryz.f50)) (.exit 0) (spec_l05OK.sx4 y) = spec_l05OK.a4 lp y := by kernel_rfl
theorem spec_l05OK.t_q4 (lp : Nat) (z : Bool) : kont (R := Bool) (spec_l05OK.E lp) spec_l05OK.an lp (finK (spec_l05OK.E lp) Tryz.f50 [.bool]) (stkAt 4 (codeOf Tryz.f50)) .ret (spec_l05OK.sr4 z) = spec_l05OK.q4 lp z := by kernel_rfl
theorem spec_l05OK.t_e (lp : Nat) (x0 : Base) : evalF (spec_l05OK.E lp) spec_l05OK.an lp Tryz.f50 [.v TBase] [.bool] (x0, ()) = spec_l05OK.e lp (fun x1_0 x1_1 x3 => loopK spec_l05OK.la4 (fun σ K => codeK (spec_l05OK.E lp) spec_l05OK.an lp (loopAt 4 (codeOf Tryz.f50)) σ K) lp (spec_l05OK.s4 x1_0 x1_1 x3) (kont (spec_l05OK.E lp) spec_l05OK.an lp (finK (spec_l05OK.E lp) Tryz.f50 [.bool]) (stkAt 4 (codeOf Tryz.f50)))) x0 := by kernel_rfl
theorem spec_l05OK.eq0 (lp : Nat) (x0 : Base) : evalF (spec_l05OK.E lp) spec_l05OK.an lp Tryz.f50 [.v TBase] [.bool] (x0, ()) = spec_l05OK lp x0 := by
  rw [spec_l05OK.t_e]; unfold spec_l05OK
  simp only [leK_leF _ spec_l05OK.sr4 spec_l05OK.sx4, spec_l05OK.k4, spec_l05OK.t_a4, spec_l05OK.t_q4]
theorem spec_l05OK.eq (lp : Nat) (x : ADens [.v TBase]) : evalF (spec_l05OK.E lp) spec_l05OK.an lp Tryz.f50 [.v TBase] [.bool] x = (spec_l05OK.S lp).F x := spec_l05OK.eq0 lp x.1
theorem spec_l05OK.ok (lp : Nat) : Sound Tryz.prog 50 (spec_l05OK.S lp) := sound_of (E := spec_l05OK.E lp) (env_ok tabFits tabEqs ⟨spec_l03OK.ok lp, spec_l04OK.ok lp, trivial⟩ trivial) mixed Tryz.func50 (by kernel_rfl) (c := codeOf Tryz.f50) (by kernel_rfl) (by kernel_rfl) spec_l05OK.an (fun x r h => ⟨lp, (spec_l05OK.eq lp x).trans h⟩)
def spec_l01Edits.E (lp : Nat) : Env := { tab := tab, fns := [(89, spec_l00Word.S lp), (39, spec_l01In.S)], ann := { own := [], ro := [] } }
def spec_l01Edits.la4 : LoopAn := { kn := { tms := [0, 3] }, kx := {}, kr := { tms := [2] } }
def spec_l01Edits.an : An := { loops := [(4, spec_l01Edits.la4)] }
def spec_l01Edits.s4 (x0 : List Edit) (x3 : Int) : St := ⟨.v (.one (.b (.d (.sl TEdit) x0))) :: (sk 2 (.v (.one (.b (.d (.int .i64) x3))) :: (sk 48 ([])))), sko 52 ([])⟩
def spec_l01Edits.sx4 (y : Unit) : St := ⟨sk 52 ([]), sko 52 ([])⟩
def spec_l01Edits.sr4 (z : Bool) : St := ⟨sk 2 (.v (.one (.b (.d .bool z))) :: (sk 49 ([]))), sko 52 ([])⟩
def spec_l01Edits.S (lp : Nat) : Spec := { ats := [.v (.sl TEdit)], rts := [.bool], F := fun x => spec_l01Edits lp x.1 }
theorem spec_l01Edits.t_b4 (lp : Nat) {R : Type} (N : St → Option R) (X : Out → St → Option R) (x0 : List Edit) (x3 : Int) : codeK (spec_l01Edits.E lp) spec_l01Edits.an lp (loopAt 4 (codeOf Tryz.f139)) (spec_l01Edits.s4 x0 x3) (lpK spec_l01Edits.la4 N X) = spec_l01Edits.b4 lp (fun x0 x3 => N (spec_l01Edits.s4 x0 x3)) (fun y => X (.exit 0) (spec_l01Edits.sx4 y)) (fun z => X .ret (spec_l01Edits.sr4 z)) x0 x3 := by kernel_rfl
theorem spec_l01Edits.n_b4 (lp : Nat) {R S : Type} (N : List Edit → Int → Option R) (X : Unit → Option R) (Q : Bool → Option R) (x0 : List Edit) (x3 : Int) (k : R → Option S) : obind (spec_l01Edits.b4 lp N X Q x0 x3) k = spec_l01Edits.b4 lp (fun x0 x3 => obind (N x0 x3) k) (fun y => obind (X y) k) (fun z => obind (Q z) k) x0 x3 := by
  unfold spec_l01Edits.b4; simp only [obind_none, obind_some, obind_cond, obind_oif, obind_oget, obind_obind]
theorem spec_l01Edits.k4 (lp : Nat) {R : Type} (K : Out → St → Option R) : ∀ (n : Nat) (x0 : List Edit) (x3 : Int), loopK spec_l01Edits.la4 (fun σ K => codeK (spec_l01Edits.E lp) spec_l01Edits.an lp (loopAt 4 (codeOf Tryz.f139)) σ K) n (spec_l01Edits.s4 x0 x3) K = obind (spec_l01Edits.l4 lp n x0 x3) (leK 0 spec_l01Edits.sr4 spec_l01Edits.sx4 K) := by
  intro n
  induction n with
  | zero => intros; rfl
  | succ n ih =>
    intro x0 x3
    rw [loopK_succ, spec_l01Edits.t_b4, spec_l01Edits.l4, spec_l01Edits.n_b4]
    simp only [ih, obind_some, leK_ret, leK_brk]
theorem spec_l01Edits.t_a4 (lp : Nat) (y : Unit) : kont (R := Bool) (spec_l01Edits.E lp) spec_l01Edits.an lp (finK (spec_l01Edits.E lp) Tryz.f139 [.bool]) (stkAt 4 (codeOf Tryz.f139)) (.exit 0) (spec_l01Edits.sx4 y) = spec_l01Edits.a4 lp y := by kernel_rfl
theorem spec_l01Edits.t_q4 (lp : Nat) (z : Bool) : kont (R := Bool) (spec_l01Edits.E lp) spec_l01Edits.an lp (finK (spec_l01Edits.E lp) Tryz.f139 [.bool]) (stkAt 4 (codeOf Tryz.f139)) .ret (spec_l01Edits.sr4 z) = spec_l01Edits.q4 lp z := by kernel_rfl
theorem spec_l01Edits.t_e (lp : Nat) (x0 : List Edit) : evalF (spec_l01Edits.E lp) spec_l01Edits.an lp Tryz.f139 [.v (.sl TEdit)] [.bool] (x0, ()) = spec_l01Edits.e lp (fun x0 x3 => loopK spec_l01Edits.la4 (fun σ K => codeK (spec_l01Edits.E lp) spec_l01Edits.an lp (loopAt 4 (codeOf Tryz.f139)) σ K) lp (spec_l01Edits.s4 x0 x3) (kont (spec_l01Edits.E lp) spec_l01Edits.an lp (finK (spec_l01Edits.E lp) Tryz.f139 [.bool]) (stkAt 4 (codeOf Tryz.f139)))) x0 := by kernel_rfl
theorem spec_l01Edits.eq0 (lp : Nat) (x0 : List Edit) : evalF (spec_l01Edits.E lp) spec_l01Edits.an lp Tryz.f139 [.v (.sl TEdit)] [.bool] (x0, ()) = spec_l01Edits lp x0 := by
  rw [spec_l01Edits.t_e]; unfold spec_l01Edits
  simp only [leK_leF _ spec_l01Edits.sr4 spec_l01Edits.sx4, spec_l01Edits.k4, spec_l01Edits.t_a4, spec_l01Edits.t_q4]
theorem spec_l01Edits.eq (lp : Nat) (x : ADens [.v (.sl TEdit)]) : evalF (spec_l01Edits.E lp) spec_l01Edits.an lp Tryz.f139 [.v (.sl TEdit)] [.bool] x = (spec_l01Edits.S lp).F x := spec_l01Edits.eq0 lp x.1
theorem spec_l01Edits.ok (lp : Nat) : Sound Tryz.prog 139 (spec_l01Edits.S lp) := sound_of (E := spec_l01Edits.E lp) (env_ok tabFits tabEqs ⟨spec_l00Word.ok lp, spec_l01In.ok, trivial⟩ trivial) mixed Tryz.func139 (by kernel_rfl) (c := codeOf Tryz.f139) (by kernel_rfl) (by kernel_rfl) spec_l01Edits.an (fun x r h => ⟨lp, (spec_l01Edits.eq lp x).trans h⟩)
def spec_l07Wish.E (lp : Nat) : Env := { tab := tab, fns := [(89, spec_l00Word.S lp), (39, spec_l01In.S), (139, spec_l01Edits.S lp)], ann := { own := [], ro := [1] } }
def spec_l07Wish.an : An := { pre := [] }
def spec_l07Wish.S (lp : Nat) : Spec := { ats := [.v TWish], rts := [.bool], F := fun x => spec_l07Wish lp x.1 }
theorem spec_l07Wish.eq (lp : Nat) (x : ADens [.v TWish]) : evalF (spec_l07Wish.E lp) spec_l07Wish.an lp Tryz.f133 [.v TWish] [.bool] x = (spec_l07Wish.S lp).F x := by kernel_rfl
theorem spec_l07Wish.ok (lp : Nat) : Sound Tryz.prog 133 (spec_l07Wish.S lp) := sound_of (E := spec_l07Wish.E lp) (env_ok tabFits tabEqs ⟨spec_l00Word.ok lp, spec_l01In.ok, spec_l01Edits.ok lp, trivial⟩ trivial) mixed Tryz.func133 (by kernel_rfl) (c := codeOf Tryz.f133) (by kernel_rfl) (by kernel_rfl) spec_l07Wish.an (fun x r h => ⟨lp, (spec_l07Wish.eq lp x).trans h⟩)
def spec_l07Wishes.E (lp : Nat) : Env := { tab := tab, fns := [(133, spec_l07Wish.S lp)], ann := { own := [], ro := [] } }
def spec_l07Wishes.la4 : LoopAn := { kn := { tms := [0, 3] }, kx := {}, kr := { tms := [2] } }
def spec_l07Wishes.an : An := { loops := [(4, spec_l07Wishes.la4)] }
def spec_l07Wishes.s4 (x0 : List Wish) (x3 : Int) : St := ⟨.v (.one (.b (.d (.sl TWish) x0))) :: (sk 2 (.v (.one (.b (.d (.int .i64) x3))) :: (sk 15 ([])))), sko 19 ([])⟩
def spec_l07Wishes.sx4 (y : Unit) : St := ⟨sk 19 ([]), sko 19 ([])⟩
def spec_l07Wishes.sr4 (z : Bool) : St := ⟨sk 2 (.v (.one (.b (.d .bool z))) :: (sk 16 ([]))), sko 19 ([])⟩
def spec_l07Wishes.S (lp : Nat) : Spec := { ats := [.v (.sl TWish)], rts := [.bool], F := fun x => spec_l07Wishes lp x.1 }
theorem spec_l07Wishes.t_b4 (lp : Nat) {R : Type} (N : St → Option R) (X : Out → St → Option R) (x0 : List Wish) (x3 : Int) : codeK (spec_l07Wishes.E lp) spec_l07Wishes.an lp (loopAt 4 (codeOf Tryz.f87)) (spec_l07Wishes.s4 x0 x3) (lpK spec_l07Wishes.la4 N X) = spec_l07Wishes.b4 lp (fun x0 x3 => N (spec_l07Wishes.s4 x0 x3)) (fun y => X (.exit 0) (spec_l07Wishes.sx4 y)) (fun z => X .ret (spec_l07Wishes.sr4 z)) x0 x3 := by kernel_rfl
theorem spec_l07Wishes.n_b4 (lp : Nat) {R S : Type} (N : List Wish → Int → Option R) (X : Unit → Option R) (Q : Bool → Option R) (x0 : List Wish) (x3 : Int) (k : R → Option S) : obind (spec_l07Wishes.b4 lp N X Q x0 x3) k = spec_l07Wishes.b4 lp (fun x0 x3 => obind (N x0 x3) k) (fun y => obind (X y) k) (fun z => obind (Q z) k) x0 x3 := by
  unfold spec_l07Wishes.b4; simp only [obind_none, obind_some, obind_cond, obind_oif, obind_oget, obind_obind]
theorem spec_l07Wishes.k4 (lp : Nat) {R : Type} (K : Out → St → Option R) : ∀ (n : Nat) (x0 : List Wish) (x3 : Int), loopK spec_l07Wishes.la4 (fun σ K => codeK (spec_l07Wishes.E lp) spec_l07Wishes.an lp (loopAt 4 (codeOf Tryz.f87)) σ K) n (spec_l07Wishes.s4 x0 x3) K = obind (spec_l07Wishes.l4 lp n x0 x3) (leK 0 spec_l07Wishes.sr4 spec_l07Wishes.sx4 K) := by
  intro n
  induction n with
  | zero => intros; rfl
  | succ n ih =>
    intro x0 x3
    rw [loopK_succ, spec_l07Wishes.t_b4, spec_l07Wishes.l4, spec_l07Wishes.n_b4]
    simp only [ih, obind_some, leK_ret, leK_brk]
theorem spec_l07Wishes.t_a4 (lp : Nat) (y : Unit) : kont (R := Bool) (spec_l07Wishes.E lp) spec_l07Wishes.an lp (finK (spec_l07Wishes.E lp) Tryz.f87 [.bool]) (stkAt 4 (codeOf Tryz.f87)) (.exit 0) (spec_l07Wishes.sx4 y) = spec_l07Wishes.a4 lp y := by kernel_rfl
theorem spec_l07Wishes.t_q4 (lp : Nat) (z : Bool) : kont (R := Bool) (spec_l07Wishes.E lp) spec_l07Wishes.an lp (finK (spec_l07Wishes.E lp) Tryz.f87 [.bool]) (stkAt 4 (codeOf Tryz.f87)) .ret (spec_l07Wishes.sr4 z) = spec_l07Wishes.q4 lp z := by kernel_rfl
theorem spec_l07Wishes.t_e (lp : Nat) (x0 : List Wish) : evalF (spec_l07Wishes.E lp) spec_l07Wishes.an lp Tryz.f87 [.v (.sl TWish)] [.bool] (x0, ()) = spec_l07Wishes.e lp (fun x0 x3 => loopK spec_l07Wishes.la4 (fun σ K => codeK (spec_l07Wishes.E lp) spec_l07Wishes.an lp (loopAt 4 (codeOf Tryz.f87)) σ K) lp (spec_l07Wishes.s4 x0 x3) (kont (spec_l07Wishes.E lp) spec_l07Wishes.an lp (finK (spec_l07Wishes.E lp) Tryz.f87 [.bool]) (stkAt 4 (codeOf Tryz.f87)))) x0 := by kernel_rfl
theorem spec_l07Wishes.eq0 (lp : Nat) (x0 : List Wish) : evalF (spec_l07Wishes.E lp) spec_l07Wishes.an lp Tryz.f87 [.v (.sl TWish)] [.bool] (x0, ()) = spec_l07Wishes lp x0 := by
  rw [spec_l07Wishes.t_e]; unfold spec_l07Wishes
  simp only [leK_leF _ spec_l07Wishes.sr4 spec_l07Wishes.sx4, spec_l07Wishes.k4, spec_l07Wishes.t_a4, spec_l07Wishes.t_q4]
theorem spec_l07Wishes.eq (lp : Nat) (x : ADens [.v (.sl TWish)]) : evalF (spec_l07Wishes.E lp) spec_l07Wishes.an lp Tryz.f87 [.v (.sl TWish)] [.bool] x = (spec_l07Wishes.S lp).F x := spec_l07Wishes.eq0 lp x.1
theorem spec_l07Wishes.ok (lp : Nat) : Sound Tryz.prog 87 (spec_l07Wishes.S lp) := sound_of (E := spec_l07Wishes.E lp) (env_ok tabFits tabEqs ⟨spec_l07Wish.ok lp, trivial⟩ trivial) mixed Tryz.func87 (by kernel_rfl) (c := codeOf Tryz.f87) (by kernel_rfl) (by kernel_rfl) spec_l07Wishes.an (fun x r h => ⟨lp, (spec_l07Wishes.eq lp x).trans h⟩)
def spec_l03Reach.E (lp : Nat) : Env := { tab := tab, fns := [], ann := { own := [], ro := [] } }
def spec_l03Reach.la4 : LoopAn := { kn := { tms := [0, 5, 6], obs := [11] }, kx := { tms := [5], obs := [11] }, kr := {} }
def spec_l03Reach.la8 : LoopAn := { kn := { tms := [0, 5, 6, 7], obs := [11] }, kx := { tms := [0, 5, 6], obs := [11] }, kr := {} }
def spec_l03Reach.an : An := { loops := [(4, spec_l03Reach.la4), (8, spec_l03Reach.la8)] }
def spec_l03Reach.s4 (x0 : List Commit) (x6 : Int) (xo11 : List Bool) : St := ⟨.v (.one (.b (.d (.sl TCommit) x0))) :: (sk 4 (.v (.one (.row 11 0)) :: .v (.one (.b (.d (.int .i64) x6))) :: (sk 41 ([])))), sko 11 (some (.row 4 .bool xo11 0) :: (sko 36 ([])))⟩
def spec_l03Reach.sx4 (y : (List Bool)) : St := ⟨sk 5 (.v (.one (.row 11 0)) :: (sk 42 ([]))), sko 11 (some (.row 4 .bool y 0) :: (sko 36 ([])))⟩
def spec_l03Reach.sr4 (z : Empty) : St := z.elim
def spec_l03Reach.s8 (x0 : List Commit) (x6 : Int) (x7 : Int) (xo11 : List Bool) : St := ⟨.v (.one (.b (.d (.sl TCommit) x0))) :: (sk 4 (.v (.one (.row 11 0)) :: .v (.one (.b (.d (.int .i64) x6))) :: .v (.one (.b (.d (.int .i64) x7))) :: (sk 40 ([])))), sko 11 (some (.row 4 .bool xo11 0) :: (sko 36 ([])))⟩
def spec_l03Reach.sx8 (y : (List Commit) × Int × (List Bool)) : St := ⟨.v (.one (.b (.d (.sl TCommit) y.1))) :: (sk 4 (.v (.one (.row 11 0)) :: .v (.one (.b (.d (.int .i64) y.2.1))) :: (sk 41 ([])))), sko 11 (some (.row 4 .bool y.2.2 0) :: (sko 36 ([])))⟩
def spec_l03Reach.sr8 (z : Empty) : St := z.elim
def spec_l03Reach.S (lp : Nat) : Spec := { ats := [.v (.sl TCommit), .v (.int .i64)], rts := [(.sl .bool)], F := fun x => spec_l03Reach lp x.1 x.2.1 }
theorem spec_l03Reach.t_b8 (lp : Nat) {R : Type} (N : St → Option R) (X : Out → St → Option R) (x0 : List Commit) (x6 : Int) (x7 : Int) (xo11 : List Bool) : codeK (spec_l03Reach.E lp) spec_l03Reach.an lp (loopAt 8 (codeOf Tryz.f207)) (spec_l03Reach.s8 x0 x6 x7 xo11) (lpK spec_l03Reach.la8 N X) = spec_l03Reach.b8 lp (fun x0 x6 x7 xo11 => N (spec_l03Reach.s8 x0 x6 x7 xo11)) (fun y => X (.exit 2) (spec_l03Reach.sx8 y)) (fun z => X .ret (spec_l03Reach.sr8 z)) x0 x6 x7 xo11 := by kernel_rfl
theorem spec_l03Reach.n_b8 (lp : Nat) {R S : Type} (N : List Commit → Int → Int → List Bool → Option R) (X : ((List Commit) × Int × (List Bool)) → Option R) (Q : Empty → Option R) (x0 : List Commit) (x6 : Int) (x7 : Int) (xo11 : List Bool) (k : R → Option S) : obind (spec_l03Reach.b8 lp N X Q x0 x6 x7 xo11) k = spec_l03Reach.b8 lp (fun x0 x6 x7 xo11 => obind (N x0 x6 x7 xo11) k) (fun y => obind (X y) k) (fun z => obind (Q z) k) x0 x6 x7 xo11 := by
  unfold spec_l03Reach.b8; simp only [obind_none, obind_some, obind_cond, obind_oif, obind_oget, obind_obind]
theorem spec_l03Reach.k8 (lp : Nat) {R : Type} (K : Out → St → Option R) : ∀ (n : Nat) (x0 : List Commit) (x6 : Int) (x7 : Int) (xo11 : List Bool), loopK spec_l03Reach.la8 (fun σ K => codeK (spec_l03Reach.E lp) spec_l03Reach.an lp (loopAt 8 (codeOf Tryz.f207)) σ K) n (spec_l03Reach.s8 x0 x6 x7 xo11) K = obind (spec_l03Reach.l8 lp n x0 x6 x7 xo11) (leK 2 spec_l03Reach.sr8 spec_l03Reach.sx8 K) := by
  intro n
  induction n with
  | zero => intros; rfl
  | succ n ih =>
    intro x0 x6 x7 xo11
    rw [loopK_succ, spec_l03Reach.t_b8, spec_l03Reach.l8, spec_l03Reach.n_b8]
    simp only [ih, obind_some, leK_ret, leK_brk]
theorem spec_l03Reach.t_a8 (lp : Nat) {R : Type} (N : St → Option R) (X : Out → St → Option R) (y : (List Commit) × Int × (List Bool)) : kont (spec_l03Reach.E lp) spec_l03Reach.an lp (lpK spec_l03Reach.la4 N X) (stkAt 8 (loopAt 4 (codeOf Tryz.f207))) (.exit 2) (spec_l03Reach.sx8 y) = spec_l03Reach.a8 lp (fun x0 x6 xo11 => N (spec_l03Reach.s4 x0 x6 xo11)) (fun y => X (.exit 0) (spec_l03Reach.sx4 y)) (fun z => X .ret (spec_l03Reach.sr4 z)) y := by kernel_rfl
theorem spec_l03Reach.n_a8 (lp : Nat) {R S : Type} (N : List Commit → Int → List Bool → Option R) (X : ((List Bool)) → Option R) (Q : Empty → Option R) (y : (List Commit) × Int × (List Bool)) (k : R → Option S) : obind (spec_l03Reach.a8 lp N X Q y) k = spec_l03Reach.a8 lp (fun x0 x6 xo11 => obind (N x0 x6 xo11) k) (fun y => obind (X y) k) (fun z => obind (Q z) k) y := by
  unfold spec_l03Reach.a8; simp only [obind_none, obind_some, obind_cond, obind_oif, obind_oget, obind_obind]
theorem spec_l03Reach.t_b4 (lp : Nat) {R : Type} (N : St → Option R) (X : Out → St → Option R) (x0 : List Commit) (x6 : Int) (xo11 : List Bool) : codeK (spec_l03Reach.E lp) spec_l03Reach.an lp (loopAt 4 (codeOf Tryz.f207)) (spec_l03Reach.s4 x0 x6 xo11) (lpK spec_l03Reach.la4 N X) = spec_l03Reach.b4 lp (fun x0 x6 xo11 => N (spec_l03Reach.s4 x0 x6 xo11)) (fun y => X (.exit 0) (spec_l03Reach.sx4 y)) (fun z => X .ret (spec_l03Reach.sr4 z)) (fun x0 x6 x7 xo11 => loopK spec_l03Reach.la8 (fun σ K => codeK (spec_l03Reach.E lp) spec_l03Reach.an lp (loopAt 8 (codeOf Tryz.f207)) σ K) lp (spec_l03Reach.s8 x0 x6 x7 xo11) (kont (spec_l03Reach.E lp) spec_l03Reach.an lp (lpK spec_l03Reach.la4 N X) (stkAt 8 (loopAt 4 (codeOf Tryz.f207))))) x0 x6 xo11 := by kernel_rfl
theorem spec_l03Reach.n_b4 (lp : Nat) {R S : Type} (N : List Commit → Int → List Bool → Option R) (X : ((List Bool)) → Option R) (Q : Empty → Option R) (L8 : List Commit → Int → Int → List Bool → Option R) (x0 : List Commit) (x6 : Int) (xo11 : List Bool) (k : R → Option S) : obind (spec_l03Reach.b4 lp N X Q L8 x0 x6 xo11) k = spec_l03Reach.b4 lp (fun x0 x6 xo11 => obind (N x0 x6 xo11) k) (fun y => obind (X y) k) (fun z => obind (Q z) k) (fun x0 x6 x7 xo11 => obind (L8 x0 x6 x7 xo11) k) x0 x6 xo11 := by
  unfold spec_l03Reach.b4; simp only [obind_none, obind_some, obind_cond, obind_oif, obind_oget, obind_obind]
theorem spec_l03Reach.k4 (lp : Nat) {R : Type} (K : Out → St → Option R) : ∀ (n : Nat) (x0 : List Commit) (x6 : Int) (xo11 : List Bool), loopK spec_l03Reach.la4 (fun σ K => codeK (spec_l03Reach.E lp) spec_l03Reach.an lp (loopAt 4 (codeOf Tryz.f207)) σ K) n (spec_l03Reach.s4 x0 x6 xo11) K = obind (spec_l03Reach.l4 lp n x0 x6 xo11) (leK 0 spec_l03Reach.sr4 spec_l03Reach.sx4 K) := by
  intro n
  induction n with
  | zero => intros; rfl
  | succ n ih =>
    intro x0 x6 xo11
    rw [loopK_succ, spec_l03Reach.t_b4, spec_l03Reach.l4, spec_l03Reach.n_b4]
    simp only [ih, obind_some, leK_ret, leK_brk, leF_ret, leF_brk, obind_obind, obind_leF, obind_elim, leK_ret0 _ spec_l03Reach.sr8 spec_l03Reach.sx8, spec_l03Reach.k8, spec_l03Reach.t_a8, spec_l03Reach.n_a8]
theorem spec_l03Reach.t_a4 (lp : Nat) (y : (List Bool)) : kont (R := (List Bool)) (spec_l03Reach.E lp) spec_l03Reach.an lp (finK (spec_l03Reach.E lp) Tryz.f207 [(.sl .bool)]) (stkAt 4 (codeOf Tryz.f207)) (.exit 0) (spec_l03Reach.sx4 y) = spec_l03Reach.a4 lp y := by kernel_rfl
theorem spec_l03Reach.t_e (lp : Nat) (x0 : List Commit) (x1 : Int) : evalF (spec_l03Reach.E lp) spec_l03Reach.an lp Tryz.f207 [.v (.sl TCommit), .v (.int .i64)] [(.sl .bool)] (x0, x1, ()) = spec_l03Reach.e lp (fun x0 x6 xo11 => loopK spec_l03Reach.la4 (fun σ K => codeK (spec_l03Reach.E lp) spec_l03Reach.an lp (loopAt 4 (codeOf Tryz.f207)) σ K) lp (spec_l03Reach.s4 x0 x6 xo11) (kont (spec_l03Reach.E lp) spec_l03Reach.an lp (finK (spec_l03Reach.E lp) Tryz.f207 [(.sl .bool)]) (stkAt 4 (codeOf Tryz.f207)))) x0 x1 := by kernel_rfl
theorem spec_l03Reach.eq0 (lp : Nat) (x0 : List Commit) (x1 : Int) : evalF (spec_l03Reach.E lp) spec_l03Reach.an lp Tryz.f207 [.v (.sl TCommit), .v (.int .i64)] [(.sl .bool)] (x0, x1, ()) = spec_l03Reach lp x0 x1 := by
  rw [spec_l03Reach.t_e]; unfold spec_l03Reach
  simp only [leK_ret0 _ spec_l03Reach.sr4 spec_l03Reach.sx4, spec_l03Reach.k4, spec_l03Reach.t_a4]
theorem spec_l03Reach.eq (lp : Nat) (x : ADens [.v (.sl TCommit), .v (.int .i64)]) : evalF (spec_l03Reach.E lp) spec_l03Reach.an lp Tryz.f207 [.v (.sl TCommit), .v (.int .i64)] [(.sl .bool)] x = (spec_l03Reach.S lp).F x := spec_l03Reach.eq0 lp x.1 x.2.1
theorem spec_l03Reach.ok (lp : Nat) : Sound Tryz.prog 207 (spec_l03Reach.S lp) := sound_of (E := spec_l03Reach.E lp) (env_ok tabFits tabEqs trivial trivial) mixed Tryz.func207 (by kernel_rfl) (c := codeOf Tryz.f207) (by kernel_rfl) (by kernel_rfl) spec_l03Reach.an (fun x r h => ⟨lp, (spec_l03Reach.eq lp x).trans h⟩)
def spec_l03Base.E (lp : Nat) : Env := { tab := tab, fns := [(207, spec_l03Reach.S lp)], ann := { own := [], ro := [] } }
def spec_l03Base.la4 : LoopAn := { kn := { tms := [7, 8, 9] }, kx := { tms := [9] }, kr := {} }
def spec_l03Base.an : An := { loops := [(4, spec_l03Base.la4)] }
def spec_l03Base.s4 (x7 : List Bool) (x8 : List Bool) (x9 : Int) : St := ⟨sk 7 (.v (.one (.b (.d (.sl .bool) x7))) :: .v (.one (.b (.d (.sl .bool) x8))) :: .v (.one (.b (.d (.int .i64) x9))) :: (sk 24 ([]))), sko 34 ([])⟩
def spec_l03Base.sx4 (y : Int) : St := ⟨sk 9 (.v (.one (.b (.d (.int .i64) y))) :: (sk 24 ([]))), sko 34 ([])⟩
def spec_l03Base.sr4 (z : Empty) : St := z.elim
def spec_l03Base.S (lp : Nat) : Spec := { ats := [.v (.sl TCommit), .v (.int .i64), .v (.int .i64)], rts := [(.int .i64)], F := fun x => spec_l03Base lp x.1 x.2.1 x.2.2.1 }
theorem spec_l03Base.t_b4 (lp : Nat) {R : Type} (N : St → Option R) (X : Out → St → Option R) (x7 : List Bool) (x8 : List Bool) (x9 : Int) : codeK (spec_l03Base.E lp) spec_l03Base.an lp (loopAt 4 (codeOf Tryz.f195)) (spec_l03Base.s4 x7 x8 x9) (lpK spec_l03Base.la4 N X) = spec_l03Base.b4 lp (fun x7 x8 x9 => N (spec_l03Base.s4 x7 x8 x9)) (fun y => X (.exit 0) (spec_l03Base.sx4 y)) (fun z => X .ret (spec_l03Base.sr4 z)) x7 x8 x9 := by kernel_rfl
theorem spec_l03Base.n_b4 (lp : Nat) {R S : Type} (N : List Bool → List Bool → Int → Option R) (X : Int → Option R) (Q : Empty → Option R) (x7 : List Bool) (x8 : List Bool) (x9 : Int) (k : R → Option S) : obind (spec_l03Base.b4 lp N X Q x7 x8 x9) k = spec_l03Base.b4 lp (fun x7 x8 x9 => obind (N x7 x8 x9) k) (fun y => obind (X y) k) (fun z => obind (Q z) k) x7 x8 x9 := by
  unfold spec_l03Base.b4; simp only [obind_none, obind_some, obind_cond, obind_oif, obind_oget, obind_obind]
theorem spec_l03Base.k4 (lp : Nat) {R : Type} (K : Out → St → Option R) : ∀ (n : Nat) (x7 : List Bool) (x8 : List Bool) (x9 : Int), loopK spec_l03Base.la4 (fun σ K => codeK (spec_l03Base.E lp) spec_l03Base.an lp (loopAt 4 (codeOf Tryz.f195)) σ K) n (spec_l03Base.s4 x7 x8 x9) K = obind (spec_l03Base.l4 lp n x7 x8 x9) (leK 0 spec_l03Base.sr4 spec_l03Base.sx4 K) := by
  intro n
  induction n with
  | zero => intros; rfl
  | succ n ih =>
    intro x7 x8 x9
    rw [loopK_succ, spec_l03Base.t_b4, spec_l03Base.l4, spec_l03Base.n_b4]
    simp only [ih, obind_some, leK_ret, leK_brk]
theorem spec_l03Base.t_a4 (lp : Nat) (y : Int) : kont (R := Int) (spec_l03Base.E lp) spec_l03Base.an lp (finK (spec_l03Base.E lp) Tryz.f195 [(.int .i64)]) (stkAt 4 (codeOf Tryz.f195)) (.exit 0) (spec_l03Base.sx4 y) = spec_l03Base.a4 lp y := by kernel_rfl
theorem spec_l03Base.t_e (lp : Nat) (x0 : List Commit) (x1 : Int) (x2 : Int) : evalF (spec_l03Base.E lp) spec_l03Base.an lp Tryz.f195 [.v (.sl TCommit), .v (.int .i64), .v (.int .i64)] [(.int .i64)] (x0, x1, x2, ()) = spec_l03Base.e lp (fun x7 x8 x9 => loopK spec_l03Base.la4 (fun σ K => codeK (spec_l03Base.E lp) spec_l03Base.an lp (loopAt 4 (codeOf Tryz.f195)) σ K) lp (spec_l03Base.s4 x7 x8 x9) (kont (spec_l03Base.E lp) spec_l03Base.an lp (finK (spec_l03Base.E lp) Tryz.f195 [(.int .i64)]) (stkAt 4 (codeOf Tryz.f195)))) x0 x1 x2 := by kernel_rfl
theorem spec_l03Base.eq0 (lp : Nat) (x0 : List Commit) (x1 : Int) (x2 : Int) : evalF (spec_l03Base.E lp) spec_l03Base.an lp Tryz.f195 [.v (.sl TCommit), .v (.int .i64), .v (.int .i64)] [(.int .i64)] (x0, x1, x2, ()) = spec_l03Base lp x0 x1 x2 := by
  rw [spec_l03Base.t_e]; unfold spec_l03Base
  simp only [leK_ret0 _ spec_l03Base.sr4 spec_l03Base.sx4, spec_l03Base.k4, spec_l03Base.t_a4]
theorem spec_l03Base.eq (lp : Nat) (x : ADens [.v (.sl TCommit), .v (.int .i64), .v (.int .i64)]) : evalF (spec_l03Base.E lp) spec_l03Base.an lp Tryz.f195 [.v (.sl TCommit), .v (.int .i64), .v (.int .i64)] [(.int .i64)] x = (spec_l03Base.S lp).F x := spec_l03Base.eq0 lp x.1 x.2.1 x.2.2.1
theorem spec_l03Base.ok (lp : Nat) : Sound Tryz.prog 195 (spec_l03Base.S lp) := sound_of (E := spec_l03Base.E lp) (env_ok tabFits tabEqs ⟨spec_l03Reach.ok lp, trivial⟩ trivial) mixed Tryz.func195 (by kernel_rfl) (c := codeOf Tryz.f195) (by kernel_rfl) (by kernel_rfl) spec_l03Base.an (fun x r h => ⟨lp, (spec_l03Base.eq lp x).trans h⟩)
def spec_l05Fail.E : Env := { tab := tab, fns := [], ann := { own := [], ro := [] } }
def spec_l05Fail.an : An := { pre := [] }
def spec_l05Fail.S : Spec := { ats := [.v (.int .i64), .v (.sl .str)], rts := [TResult], F := fun x => spec_l05Fail x.1 x.2.1 }
theorem spec_l05Fail.eq (lp : Nat) (x : ADens [.v (.int .i64), .v (.sl .str)]) : evalF (spec_l05Fail.E) spec_l05Fail.an lp Tryz.f196 [.v (.int .i64), .v (.sl .str)] [TResult] x = (spec_l05Fail.S).F x := by kernel_rfl
theorem spec_l05Fail.ok : Sound Tryz.prog 196 (spec_l05Fail.S) := sound_of (E := spec_l05Fail.E) (env_ok tabFits tabEqs trivial trivial) mixed Tryz.func196 (by kernel_rfl) (c := codeOf Tryz.f196) (by kernel_rfl) (by kernel_rfl) spec_l05Fail.an (fun x r h => ⟨0, (spec_l05Fail.eq 0 x).trans h⟩)
def spec_l02Told.E : Env := { tab := tab, fns := [], ann := { own := [], ro := [] } }
def spec_l02Told.an : An := { pre := [] }
def spec_l02Told.S : Spec := { ats := [.v (.sl TEntry), .v (.sl .str)], rts := [(.sl TEntry), (.sl .str), (.int .i64)], F := fun x => spec_l02Told x.1 x.2.1 }
theorem spec_l02Told.eq (lp : Nat) (x : ADens [.v (.sl TEntry), .v (.sl .str)]) : evalF (spec_l02Told.E) spec_l02Told.an lp Tryz.f197 [.v (.sl TEntry), .v (.sl .str)] [(.sl TEntry), (.sl .str), (.int .i64)] x = (spec_l02Told.S).F x := by kernel_rfl
theorem spec_l02Told.ok : Sound Tryz.prog 197 (spec_l02Told.S) := sound_of (E := spec_l02Told.E) (env_ok tabFits tabEqs trivial trivial) mixed Tryz.func197 (by kernel_rfl) (c := codeOf Tryz.f197) (by kernel_rfl) (by kernel_rfl) spec_l02Told.an (fun x r h => ⟨0, (spec_l02Told.eq 0 x).trans h⟩)
def spec_l01Remove.E (lp : Nat) : Env := { tab := tab, fns := [], ann := { own := [7], ro := [] } }
def spec_l01Remove.la3 : LoopAn := { kn := { tms := [0, 1, 5, 6], obs := [7] }, kx := { tms := [5], obs := [7] }, kr := {} }
def spec_l01Remove.an : An := { loops := [(3, spec_l01Remove.la3)] }
def spec_l01Remove.s3 (x0 : List Entry) (x1 : ByteArray) (x6 : Int) (xo7 : List Entry) : St := ⟨.v (.one (.b (.d (.sl TEntry) x0))) :: .v (.one (.b (.d .str x1))) :: (sk 3 (.v (.one (.row 7 0)) :: .v (.one (.b (.d (.int .i64) x6))) :: (sk 22 ([])))), sko 7 (some (.row 196 TEntry xo7 0) :: (sko 21 ([])))⟩
def spec_l01Remove.sx3 (y : (List Entry)) : St := ⟨sk 5 (.v (.one (.row 7 0)) :: (sk 23 ([]))), sko 7 (some (.row 196 TEntry y 0) :: (sko 21 ([])))⟩
def spec_l01Remove.sr3 (z : Empty) : St := z.elim
def spec_l01Remove.S (lp : Nat) : Spec := { ats := [.v (.sl TEntry), .v .str], rts := [(.sl TEntry)], F := fun x => spec_l01Remove lp x.1 x.2.1 }
theorem spec_l01Remove.t_b3 (lp : Nat) {R : Type} (N : St → Option R) (X : Out → St → Option R) (x0 : List Entry) (x1 : ByteArray) (x6 : Int) (xo7 : List Entry) : codeK (spec_l01Remove.E lp) spec_l01Remove.an lp (loopAt 3 (codeOf Tryz.f210)) (spec_l01Remove.s3 x0 x1 x6 xo7) (lpK spec_l01Remove.la3 N X) = spec_l01Remove.b3 lp (fun x0 x1 x6 xo7 => N (spec_l01Remove.s3 x0 x1 x6 xo7)) (fun y => X (.exit 0) (spec_l01Remove.sx3 y)) (fun z => X .ret (spec_l01Remove.sr3 z)) x0 x1 x6 xo7 := by kernel_rfl
theorem spec_l01Remove.n_b3 (lp : Nat) {R S : Type} (N : List Entry → ByteArray → Int → List Entry → Option R) (X : ((List Entry)) → Option R) (Q : Empty → Option R) (x0 : List Entry) (x1 : ByteArray) (x6 : Int) (xo7 : List Entry) (k : R → Option S) : obind (spec_l01Remove.b3 lp N X Q x0 x1 x6 xo7) k = spec_l01Remove.b3 lp (fun x0 x1 x6 xo7 => obind (N x0 x1 x6 xo7) k) (fun y => obind (X y) k) (fun z => obind (Q z) k) x0 x1 x6 xo7 := by
  unfold spec_l01Remove.b3; simp only [obind_none, obind_some, obind_cond, obind_oif, obind_oget, obind_obind]
theorem spec_l01Remove.k3 (lp : Nat) {R : Type} (K : Out → St → Option R) : ∀ (n : Nat) (x0 : List Entry) (x1 : ByteArray) (x6 : Int) (xo7 : List Entry), loopK spec_l01Remove.la3 (fun σ K => codeK (spec_l01Remove.E lp) spec_l01Remove.an lp (loopAt 3 (codeOf Tryz.f210)) σ K) n (spec_l01Remove.s3 x0 x1 x6 xo7) K = obind (spec_l01Remove.l3 lp n x0 x1 x6 xo7) (leK 0 spec_l01Remove.sr3 spec_l01Remove.sx3 K) := by
  intro n
  induction n with
  | zero => intros; rfl
  | succ n ih =>
    intro x0 x1 x6 xo7
    rw [loopK_succ, spec_l01Remove.t_b3, spec_l01Remove.l3, spec_l01Remove.n_b3]
    simp only [ih, obind_some, leK_ret, leK_brk]
theorem spec_l01Remove.t_a3 (lp : Nat) (y : (List Entry)) : kont (R := (List Entry)) (spec_l01Remove.E lp) spec_l01Remove.an lp (finK (spec_l01Remove.E lp) Tryz.f210 [(.sl TEntry)]) (stkAt 3 (codeOf Tryz.f210)) (.exit 0) (spec_l01Remove.sx3 y) = spec_l01Remove.a3 lp y := by kernel_rfl
theorem spec_l01Remove.t_e (lp : Nat) (x0 : List Entry) (x1 : ByteArray) : evalF (spec_l01Remove.E lp) spec_l01Remove.an lp Tryz.f210 [.v (.sl TEntry), .v .str] [(.sl TEntry)] (x0, x1, ()) = spec_l01Remove.e lp (fun x0 x1 x6 xo7 => loopK spec_l01Remove.la3 (fun σ K => codeK (spec_l01Remove.E lp) spec_l01Remove.an lp (loopAt 3 (codeOf Tryz.f210)) σ K) lp (spec_l01Remove.s3 x0 x1 x6 xo7) (kont (spec_l01Remove.E lp) spec_l01Remove.an lp (finK (spec_l01Remove.E lp) Tryz.f210 [(.sl TEntry)]) (stkAt 3 (codeOf Tryz.f210)))) x0 x1 := by kernel_rfl
theorem spec_l01Remove.eq0 (lp : Nat) (x0 : List Entry) (x1 : ByteArray) : evalF (spec_l01Remove.E lp) spec_l01Remove.an lp Tryz.f210 [.v (.sl TEntry), .v .str] [(.sl TEntry)] (x0, x1, ()) = spec_l01Remove lp x0 x1 := by
  rw [spec_l01Remove.t_e]; unfold spec_l01Remove
  simp only [leK_ret0 _ spec_l01Remove.sr3 spec_l01Remove.sx3, spec_l01Remove.k3, spec_l01Remove.t_a3]
theorem spec_l01Remove.eq (lp : Nat) (x : ADens [.v (.sl TEntry), .v .str]) : evalF (spec_l01Remove.E lp) spec_l01Remove.an lp Tryz.f210 [.v (.sl TEntry), .v .str] [(.sl TEntry)] x = (spec_l01Remove.S lp).F x := spec_l01Remove.eq0 lp x.1 x.2.1
theorem spec_l01Remove.ok (lp : Nat) : Sound Tryz.prog 210 (spec_l01Remove.S lp) := sound_of (E := spec_l01Remove.E lp) (env_ok tabFits tabEqs trivial trivial) mixed Tryz.func210 (by kernel_rfl) (c := codeOf Tryz.f210) (by kernel_rfl) (by kernel_rfl) spec_l01Remove.an (fun x r h => ⟨lp, (spec_l01Remove.eq lp x).trans h⟩)
def spec_l01Put.E (lp : Nat) : Env := { tab := tab, fns := [], ann := { own := [10], ro := [] } }
def spec_l01Put.la4 : LoopAn := { kn := { tms := [0, 1, 2, 7, 8, 9], obs := [10] }, kx := { tms := [1, 2, 7, 8], obs := [10] }, kr := {} }
def spec_l01Put.an : An := { loops := [(4, spec_l01Put.la4)] }
def spec_l01Put.s4 (x0 : List Entry) (x1 : ByteArray) (x2 : Int) (x8 : Bool) (x9 : Int) (xo10 : List Entry) : St := ⟨.v (.one (.b (.d (.sl TEntry) x0))) :: .v (.one (.b (.d .str x1))) :: .v (.one (.b (.d (.int .i64) x2))) :: (sk 4 (.v (.one (.row 10 0)) :: .v (.one (.b (.d .bool x8))) :: .v (.one (.b (.d (.int .i64) x9))) :: (sk 47 ([])))), sko 10 (some (.row 196 TEntry xo10 0) :: (sko 46 ([])))⟩
def spec_l01Put.sx4 (y : ByteArray × Int × Bool × (List Entry)) : St := ⟨sk 1 (.v (.one (.b (.d .str y.1))) :: .v (.one (.b (.d (.int .i64) y.2.1))) :: (sk 4 (.v (.one (.row 10 0)) :: .v (.one (.b (.d .bool y.2.2.1))) :: (sk 48 ([]))))), sko 10 (some (.row 196 TEntry y.2.2.2 0) :: (sko 46 ([])))⟩
def spec_l01Put.sr4 (z : Empty) : St := z.elim
def spec_l01Put.S (lp : Nat) : Spec := { ats := [.v (.sl TEntry), .v .str, .v (.int .i64)], rts := [(.sl TEntry)], F := fun x => spec_l01Put lp x.1 x.2.1 x.2.2.1 }
theorem spec_l01Put.t_b4 (lp : Nat) {R : Type} (N : St → Option R) (X : Out → St → Option R) (x0 : List Entry) (x1 : ByteArray) (x2 : Int) (x8 : Bool) (x9 : Int) (xo10 : List Entry) : codeK (spec_l01Put.E lp) spec_l01Put.an lp (loopAt 4 (codeOf Tryz.f211)) (spec_l01Put.s4 x0 x1 x2 x8 x9 xo10) (lpK spec_l01Put.la4 N X) = spec_l01Put.b4 lp (fun x0 x1 x2 x8 x9 xo10 => N (spec_l01Put.s4 x0 x1 x2 x8 x9 xo10)) (fun y => X (.exit 0) (spec_l01Put.sx4 y)) (fun z => X .ret (spec_l01Put.sr4 z)) x0 x1 x2 x8 x9 xo10 := by kernel_rfl
theorem spec_l01Put.n_b4 (lp : Nat) {R S : Type} (N : List Entry → ByteArray → Int → Bool → Int → List Entry → Option R) (X : (ByteArray × Int × Bool × (List Entry)) → Option R) (Q : Empty → Option R) (x0 : List Entry) (x1 : ByteArray) (x2 : Int) (x8 : Bool) (x9 : Int) (xo10 : List Entry) (k : R → Option S) : obind (spec_l01Put.b4 lp N X Q x0 x1 x2 x8 x9 xo10) k = spec_l01Put.b4 lp (fun x0 x1 x2 x8 x9 xo10 => obind (N x0 x1 x2 x8 x9 xo10) k) (fun y => obind (X y) k) (fun z => obind (Q z) k) x0 x1 x2 x8 x9 xo10 := by
  unfold spec_l01Put.b4; simp only [obind_none, obind_some, obind_cond, obind_oif, obind_oget, obind_obind]
theorem spec_l01Put.k4 (lp : Nat) {R : Type} (K : Out → St → Option R) : ∀ (n : Nat) (x0 : List Entry) (x1 : ByteArray) (x2 : Int) (x8 : Bool) (x9 : Int) (xo10 : List Entry), loopK spec_l01Put.la4 (fun σ K => codeK (spec_l01Put.E lp) spec_l01Put.an lp (loopAt 4 (codeOf Tryz.f211)) σ K) n (spec_l01Put.s4 x0 x1 x2 x8 x9 xo10) K = obind (spec_l01Put.l4 lp n x0 x1 x2 x8 x9 xo10) (leK 0 spec_l01Put.sr4 spec_l01Put.sx4 K) := by
  intro n
  induction n with
  | zero => intros; rfl
  | succ n ih =>
    intro x0 x1 x2 x8 x9 xo10
    rw [loopK_succ, spec_l01Put.t_b4, spec_l01Put.l4, spec_l01Put.n_b4]
    simp only [ih, obind_some, leK_ret, leK_brk]
theorem spec_l01Put.t_a4 (lp : Nat) (y : ByteArray × Int × Bool × (List Entry)) : kont (R := (List Entry)) (spec_l01Put.E lp) spec_l01Put.an lp (finK (spec_l01Put.E lp) Tryz.f211 [(.sl TEntry)]) (stkAt 4 (codeOf Tryz.f211)) (.exit 0) (spec_l01Put.sx4 y) = spec_l01Put.a4 lp y := by kernel_rfl
theorem spec_l01Put.t_e (lp : Nat) (x0 : List Entry) (x1 : ByteArray) (x2 : Int) : evalF (spec_l01Put.E lp) spec_l01Put.an lp Tryz.f211 [.v (.sl TEntry), .v .str, .v (.int .i64)] [(.sl TEntry)] (x0, x1, x2, ()) = spec_l01Put.e lp (fun x0 x1 x2 x8 x9 xo10 => loopK spec_l01Put.la4 (fun σ K => codeK (spec_l01Put.E lp) spec_l01Put.an lp (loopAt 4 (codeOf Tryz.f211)) σ K) lp (spec_l01Put.s4 x0 x1 x2 x8 x9 xo10) (kont (spec_l01Put.E lp) spec_l01Put.an lp (finK (spec_l01Put.E lp) Tryz.f211 [(.sl TEntry)]) (stkAt 4 (codeOf Tryz.f211)))) x0 x1 x2 := by kernel_rfl
theorem spec_l01Put.eq0 (lp : Nat) (x0 : List Entry) (x1 : ByteArray) (x2 : Int) : evalF (spec_l01Put.E lp) spec_l01Put.an lp Tryz.f211 [.v (.sl TEntry), .v .str, .v (.int .i64)] [(.sl TEntry)] (x0, x1, x2, ()) = spec_l01Put lp x0 x1 x2 := by
  rw [spec_l01Put.t_e]; unfold spec_l01Put
  simp only [leK_ret0 _ spec_l01Put.sr4 spec_l01Put.sx4, spec_l01Put.k4, spec_l01Put.t_a4]
theorem spec_l01Put.eq (lp : Nat) (x : ADens [.v (.sl TEntry), .v .str, .v (.int .i64)]) : evalF (spec_l01Put.E lp) spec_l01Put.an lp Tryz.f211 [.v (.sl TEntry), .v .str, .v (.int .i64)] [(.sl TEntry)] x = (spec_l01Put.S lp).F x := spec_l01Put.eq0 lp x.1 x.2.1 x.2.2.1
theorem spec_l01Put.ok (lp : Nat) : Sound Tryz.prog 211 (spec_l01Put.S lp) := sound_of (E := spec_l01Put.E lp) (env_ok tabFits tabEqs trivial trivial) mixed Tryz.func211 (by kernel_rfl) (c := codeOf Tryz.f211) (by kernel_rfl) (by kernel_rfl) spec_l01Put.an (fun x r h => ⟨lp, (spec_l01Put.eq lp x).trans h⟩)
def spec_l01Apply.E (lp : Nat) : Env := { tab := tab, fns := [(210, spec_l01Remove.S lp), (211, spec_l01Put.S lp)], ann := { own := [6], ro := [] } }
def spec_l01Apply.la3 : LoopAn := { kn := { freeze := [6], tms := [0, 1, 5], obs := [6] }, kx := { tms := [0] }, kr := {} }
def spec_l01Apply.an : An := { loops := [(3, spec_l01Apply.la3)], pre := [(6, [6])] }
def spec_l01Apply.s3 (x0 : List Entry) (x1 : List Edit) (x5 : Int) : St := ⟨.v (.one (.b (.d (.sl TEntry) x0))) :: .v (.one (.b (.d (.sl TEdit) x1))) :: (sk 3 (.v (.one (.b (.d (.int .i64) x5))) :: (sk 34 ([])))), sko 40 ([])⟩
def spec_l01Apply.sx3 (y : (List Entry)) : St := ⟨.v (.one (.b (.d (.sl TEntry) y))) :: (sk 39 ([])), sko 40 ([])⟩
def spec_l01Apply.sr3 (z : Empty) : St := z.elim
def spec_l01Apply.S (lp : Nat) : Spec := { ats := [.v (.sl TEntry), .v (.sl TEdit)], rts := [(.sl TEntry)], F := fun x => spec_l01Apply lp x.1 x.2.1 }
theorem spec_l01Apply.t_b3 (lp : Nat) {R : Type} (N : St → Option R) (X : Out → St → Option R) (x0 : List Entry) (x1 : List Edit) (x5 : Int) : codeK (spec_l01Apply.E lp) spec_l01Apply.an lp (loopAt 3 (codeOf Tryz.f199)) (spec_l01Apply.s3 x0 x1 x5) (lpK spec_l01Apply.la3 N X) = spec_l01Apply.b3 lp (fun x0 x1 x5 => N (spec_l01Apply.s3 x0 x1 x5)) (fun y => X (.exit 0) (spec_l01Apply.sx3 y)) (fun z => X .ret (spec_l01Apply.sr3 z)) x0 x1 x5 := by kernel_rfl
theorem spec_l01Apply.n_b3 (lp : Nat) {R S : Type} (N : List Entry → List Edit → Int → Option R) (X : ((List Entry)) → Option R) (Q : Empty → Option R) (x0 : List Entry) (x1 : List Edit) (x5 : Int) (k : R → Option S) : obind (spec_l01Apply.b3 lp N X Q x0 x1 x5) k = spec_l01Apply.b3 lp (fun x0 x1 x5 => obind (N x0 x1 x5) k) (fun y => obind (X y) k) (fun z => obind (Q z) k) x0 x1 x5 := by
  unfold spec_l01Apply.b3; simp only [obind_none, obind_some, obind_cond, obind_oif, obind_oget, obind_obind]
theorem spec_l01Apply.k3 (lp : Nat) {R : Type} (K : Out → St → Option R) : ∀ (n : Nat) (x0 : List Entry) (x1 : List Edit) (x5 : Int), loopK spec_l01Apply.la3 (fun σ K => codeK (spec_l01Apply.E lp) spec_l01Apply.an lp (loopAt 3 (codeOf Tryz.f199)) σ K) n (spec_l01Apply.s3 x0 x1 x5) K = obind (spec_l01Apply.l3 lp n x0 x1 x5) (leK 0 spec_l01Apply.sr3 spec_l01Apply.sx3 K) := by
  intro n
  induction n with
  | zero => intros; rfl
  | succ n ih =>
    intro x0 x1 x5
    rw [loopK_succ, spec_l01Apply.t_b3, spec_l01Apply.l3, spec_l01Apply.n_b3]
    simp only [ih, obind_some, leK_ret, leK_brk]
theorem spec_l01Apply.t_a3 (lp : Nat) (y : (List Entry)) : kont (R := (List Entry)) (spec_l01Apply.E lp) spec_l01Apply.an lp (finK (spec_l01Apply.E lp) Tryz.f199 [(.sl TEntry)]) (stkAt 3 (codeOf Tryz.f199)) (.exit 0) (spec_l01Apply.sx3 y) = spec_l01Apply.a3 lp y := by kernel_rfl
theorem spec_l01Apply.t_e (lp : Nat) (x0 : List Entry) (x1 : List Edit) : evalF (spec_l01Apply.E lp) spec_l01Apply.an lp Tryz.f199 [.v (.sl TEntry), .v (.sl TEdit)] [(.sl TEntry)] (x0, x1, ()) = spec_l01Apply.e lp (fun x0 x1 x5 => loopK spec_l01Apply.la3 (fun σ K => codeK (spec_l01Apply.E lp) spec_l01Apply.an lp (loopAt 3 (codeOf Tryz.f199)) σ K) lp (spec_l01Apply.s3 x0 x1 x5) (kont (spec_l01Apply.E lp) spec_l01Apply.an lp (finK (spec_l01Apply.E lp) Tryz.f199 [(.sl TEntry)]) (stkAt 3 (codeOf Tryz.f199)))) x0 x1 := by kernel_rfl
theorem spec_l01Apply.eq0 (lp : Nat) (x0 : List Entry) (x1 : List Edit) : evalF (spec_l01Apply.E lp) spec_l01Apply.an lp Tryz.f199 [.v (.sl TEntry), .v (.sl TEdit)] [(.sl TEntry)] (x0, x1, ()) = spec_l01Apply lp x0 x1 := by
  rw [spec_l01Apply.t_e]; unfold spec_l01Apply
  simp only [leK_ret0 _ spec_l01Apply.sr3 spec_l01Apply.sx3, spec_l01Apply.k3, spec_l01Apply.t_a3]
theorem spec_l01Apply.eq (lp : Nat) (x : ADens [.v (.sl TEntry), .v (.sl TEdit)]) : evalF (spec_l01Apply.E lp) spec_l01Apply.an lp Tryz.f199 [.v (.sl TEntry), .v (.sl TEdit)] [(.sl TEntry)] x = (spec_l01Apply.S lp).F x := spec_l01Apply.eq0 lp x.1 x.2.1
theorem spec_l01Apply.ok (lp : Nat) : Sound Tryz.prog 199 (spec_l01Apply.S lp) := sound_of (E := spec_l01Apply.E lp) (env_ok tabFits tabEqs ⟨spec_l01Remove.ok lp, spec_l01Put.ok lp, trivial⟩ trivial) mixed Tryz.func199 (by kernel_rfl) (c := codeOf Tryz.f199) (by kernel_rfl) (by kernel_rfl) spec_l01Apply.an (fun x r h => ⟨lp, (spec_l01Apply.eq lp x).trans h⟩)
def spec_l01Diff.E (lp : Nat) : Env := { tab := tab, fns := [], ann := { own := [8], ro := [] } }
def spec_l01Diff.la4 : LoopAn := { kn := { tms := [0, 1, 5, 6, 7], obs := [8] }, kx := { tms := [5], obs := [8] }, kr := {} }
def spec_l01Diff.an : An := { loops := [(4, spec_l01Diff.la4)] }
def spec_l01Diff.s4 (x0 : List Entry) (x1 : List Entry) (x6 : Int) (x7 : Int) (xo8 : List Edit) : St := ⟨.v (.one (.b (.d (.sl TEntry) x0))) :: .v (.one (.b (.d (.sl TEntry) x1))) :: (sk 3 (.v (.one (.row 8 0)) :: .v (.one (.b (.d (.int .i64) x6))) :: .v (.one (.b (.d (.int .i64) x7))) :: (sk 110 ([])))), sko 8 (some (.row 226 TEdit xo8 0) :: (sko 109 ([])))⟩
def spec_l01Diff.sx4 (y : (List Edit)) : St := ⟨sk 5 (.v (.one (.row 8 0)) :: (sk 112 ([]))), sko 8 (some (.row 226 TEdit y 0) :: (sko 109 ([])))⟩
def spec_l01Diff.sr4 (z : Empty) : St := z.elim
def spec_l01Diff.S (lp : Nat) : Spec := { ats := [.v (.sl TEntry), .v (.sl TEntry)], rts := [(.sl TEdit)], F := fun x => spec_l01Diff lp x.1 x.2.1 }
theorem spec_l01Diff.t_b4 (lp : Nat) {R : Type} (N : St → Option R) (X : Out → St → Option R) (x0 : List Entry) (x1 : List Entry) (x6 : Int) (x7 : Int) (xo8 : List Edit) : codeK (spec_l01Diff.E lp) spec_l01Diff.an lp (loopAt 4 (codeOf Tryz.f208)) (spec_l01Diff.s4 x0 x1 x6 x7 xo8) (lpK spec_l01Diff.la4 N X) = spec_l01Diff.b4 lp (fun x0 x1 x6 x7 xo8 => N (spec_l01Diff.s4 x0 x1 x6 x7 xo8)) (fun y => X (.exit 0) (spec_l01Diff.sx4 y)) (fun z => X .ret (spec_l01Diff.sr4 z)) x0 x1 x6 x7 xo8 := by kernel_rfl
theorem spec_l01Diff.n_b4 (lp : Nat) {R S : Type} (N : List Entry → List Entry → Int → Int → List Edit → Option R) (X : ((List Edit)) → Option R) (Q : Empty → Option R) (x0 : List Entry) (x1 : List Entry) (x6 : Int) (x7 : Int) (xo8 : List Edit) (k : R → Option S) : obind (spec_l01Diff.b4 lp N X Q x0 x1 x6 x7 xo8) k = spec_l01Diff.b4 lp (fun x0 x1 x6 x7 xo8 => obind (N x0 x1 x6 x7 xo8) k) (fun y => obind (X y) k) (fun z => obind (Q z) k) x0 x1 x6 x7 xo8 := by
  unfold spec_l01Diff.b4; simp only [obind_none, obind_some, obind_cond, obind_oif, obind_oget, obind_obind]
theorem spec_l01Diff.k4 (lp : Nat) {R : Type} (K : Out → St → Option R) : ∀ (n : Nat) (x0 : List Entry) (x1 : List Entry) (x6 : Int) (x7 : Int) (xo8 : List Edit), loopK spec_l01Diff.la4 (fun σ K => codeK (spec_l01Diff.E lp) spec_l01Diff.an lp (loopAt 4 (codeOf Tryz.f208)) σ K) n (spec_l01Diff.s4 x0 x1 x6 x7 xo8) K = obind (spec_l01Diff.l4 lp n x0 x1 x6 x7 xo8) (leK 0 spec_l01Diff.sr4 spec_l01Diff.sx4 K) := by
  intro n
  induction n with
  | zero => intros; rfl
  | succ n ih =>
    intro x0 x1 x6 x7 xo8
    rw [loopK_succ, spec_l01Diff.t_b4, spec_l01Diff.l4, spec_l01Diff.n_b4]
    simp only [ih, obind_some, leK_ret, leK_brk]
theorem spec_l01Diff.t_a4 (lp : Nat) (y : (List Edit)) : kont (R := (List Edit)) (spec_l01Diff.E lp) spec_l01Diff.an lp (finK (spec_l01Diff.E lp) Tryz.f208 [(.sl TEdit)]) (stkAt 4 (codeOf Tryz.f208)) (.exit 0) (spec_l01Diff.sx4 y) = spec_l01Diff.a4 lp y := by kernel_rfl
theorem spec_l01Diff.t_e (lp : Nat) (x0 : List Entry) (x1 : List Entry) : evalF (spec_l01Diff.E lp) spec_l01Diff.an lp Tryz.f208 [.v (.sl TEntry), .v (.sl TEntry)] [(.sl TEdit)] (x0, x1, ()) = spec_l01Diff.e lp (fun x0 x1 x6 x7 xo8 => loopK spec_l01Diff.la4 (fun σ K => codeK (spec_l01Diff.E lp) spec_l01Diff.an lp (loopAt 4 (codeOf Tryz.f208)) σ K) lp (spec_l01Diff.s4 x0 x1 x6 x7 xo8) (kont (spec_l01Diff.E lp) spec_l01Diff.an lp (finK (spec_l01Diff.E lp) Tryz.f208 [(.sl TEdit)]) (stkAt 4 (codeOf Tryz.f208)))) x0 x1 := by kernel_rfl
theorem spec_l01Diff.eq0 (lp : Nat) (x0 : List Entry) (x1 : List Entry) : evalF (spec_l01Diff.E lp) spec_l01Diff.an lp Tryz.f208 [.v (.sl TEntry), .v (.sl TEntry)] [(.sl TEdit)] (x0, x1, ()) = spec_l01Diff lp x0 x1 := by
  rw [spec_l01Diff.t_e]; unfold spec_l01Diff
  simp only [leK_ret0 _ spec_l01Diff.sr4 spec_l01Diff.sx4, spec_l01Diff.k4, spec_l01Diff.t_a4]
theorem spec_l01Diff.eq (lp : Nat) (x : ADens [.v (.sl TEntry), .v (.sl TEntry)]) : evalF (spec_l01Diff.E lp) spec_l01Diff.an lp Tryz.f208 [.v (.sl TEntry), .v (.sl TEntry)] [(.sl TEdit)] x = (spec_l01Diff.S lp).F x := spec_l01Diff.eq0 lp x.1 x.2.1
theorem spec_l01Diff.ok (lp : Nat) : Sound Tryz.prog 208 (spec_l01Diff.S lp) := sound_of (E := spec_l01Diff.E lp) (env_ok tabFits tabEqs trivial trivial) mixed Tryz.func208 (by kernel_rfl) (c := codeOf Tryz.f208) (by kernel_rfl) (by kernel_rfl) spec_l01Diff.an (fun x r h => ⟨lp, (spec_l01Diff.eq lp x).trans h⟩)
def spec_l02Find.E (lp : Nat) : Env := { tab := tab, fns := [], ann := { own := [], ro := [] } }
def spec_l02Find.la2 : LoopAn := { kn := { tms := [0, 1, 4, 6], obs := [4] }, kx := { tms := [4], obs := [4] }, kr := { tms := [4, 5], obs := [4] } }
def spec_l02Find.an : An := { loops := [(2, spec_l02Find.la2)] }
def spec_l02Find.s2 (x0 : List Edit) (x1 : ByteArray) (x6 : Int) (xb4_0 : ByteArray) (xb4_1 : Int) (xb4_2 : Bool) : St := ⟨.v (.one (.b (.d (.sl TEdit) x0))) :: .v (.one (.b (.d .str x1))) :: (sk 2 (.v (.one (.ptr 4 0)) :: (sk 1 (.v (.one (.b (.d (.int .i64) x6))) :: (sk 18 ([])))))), sko 4 (some (.box [.b (.d .str xb4_0), .b (.d (.int .i64) xb4_1), .b (.d .bool xb4_2)]) :: (sko 20 ([])))⟩
def spec_l02Find.sx2 (y : ByteArray × Int × Bool) : St := ⟨sk 4 (.v (.one (.ptr 4 0)) :: (sk 20 ([]))), sko 4 (some (.box [.b (.d .str y.1), .b (.d (.int .i64) y.2.1), .b (.d .bool y.2.2)]) :: (sko 20 ([])))⟩
def spec_l02Find.sr2 (z : Bool × ByteArray × Int × Bool) : St := ⟨sk 4 (.v (.one (.ptr 4 0)) :: .v (.one (.b (.d .bool z.1))) :: (sk 19 ([]))), sko 4 (some (.box [.b (.d .str z.2.1), .b (.d (.int .i64) z.2.2.1), .b (.d .bool z.2.2.2)]) :: (sko 20 ([])))⟩
def spec_l02Find.S (lp : Nat) : Spec := { ats := [.v (.sl TEdit), .v .str], rts := [TEdit, .bool], F := fun x => spec_l02Find lp x.1 x.2.1 }
theorem spec_l02Find.t_b2 (lp : Nat) {R : Type} (N : St → Option R) (X : Out → St → Option R) (x0 : List Edit) (x1 : ByteArray) (x6 : Int) (xb4_0 : ByteArray) (xb4_1 : Int) (xb4_2 : Bool) : codeK (spec_l02Find.E lp) spec_l02Find.an lp (loopAt 2 (codeOf Tryz.f209)) (spec_l02Find.s2 x0 x1 x6 xb4_0 xb4_1 xb4_2) (lpK spec_l02Find.la2 N X) = spec_l02Find.b2 lp (fun x0 x1 x6 xb4_0 xb4_1 xb4_2 => N (spec_l02Find.s2 x0 x1 x6 xb4_0 xb4_1 xb4_2)) (fun y => X (.exit 0) (spec_l02Find.sx2 y)) (fun z => X .ret (spec_l02Find.sr2 z)) x0 x1 x6 xb4_0 xb4_1 xb4_2 := by kernel_rfl
theorem spec_l02Find.n_b2 (lp : Nat) {R S : Type} (N : List Edit → ByteArray → Int → ByteArray → Int → Bool → Option R) (X : (ByteArray × Int × Bool) → Option R) (Q : (Bool × ByteArray × Int × Bool) → Option R) (x0 : List Edit) (x1 : ByteArray) (x6 : Int) (xb4_0 : ByteArray) (xb4_1 : Int) (xb4_2 : Bool) (k : R → Option S) : obind (spec_l02Find.b2 lp N X Q x0 x1 x6 xb4_0 xb4_1 xb4_2) k = spec_l02Find.b2 lp (fun x0 x1 x6 xb4_0 xb4_1 xb4_2 => obind (N x0 x1 x6 xb4_0 xb4_1 xb4_2) k) (fun y => obind (X y) k) (fun z => obind (Q z) k) x0 x1 x6 xb4_0 xb4_1 xb4_2 := by
  unfold spec_l02Find.b2; simp only [obind_none, obind_some, obind_cond, obind_oif, obind_oget, obind_obind]
theorem spec_l02Find.k2 (lp : Nat) {R : Type} (K : Out → St → Option R) : ∀ (n : Nat) (x0 : List Edit) (x1 : ByteArray) (x6 : Int) (xb4_0 : ByteArray) (xb4_1 : Int) (xb4_2 : Bool), loopK spec_l02Find.la2 (fun σ K => codeK (spec_l02Find.E lp) spec_l02Find.an lp (loopAt 2 (codeOf Tryz.f209)) σ K) n (spec_l02Find.s2 x0 x1 x6 xb4_0 xb4_1 xb4_2) K = obind (spec_l02Find.l2 lp n x0 x1 x6 xb4_0 xb4_1 xb4_2) (leK 0 spec_l02Find.sr2 spec_l02Find.sx2 K) := by
  intro n
  induction n with
  | zero => intros; rfl
  | succ n ih =>
    intro x0 x1 x6 xb4_0 xb4_1 xb4_2
    rw [loopK_succ, spec_l02Find.t_b2, spec_l02Find.l2, spec_l02Find.n_b2]
    simp only [ih, obind_some, leK_ret, leK_brk]
theorem spec_l02Find.t_a2 (lp : Nat) (y : ByteArray × Int × Bool) : kont (R := Edit × Bool) (spec_l02Find.E lp) spec_l02Find.an lp (finK (spec_l02Find.E lp) Tryz.f209 [TEdit, .bool]) (stkAt 2 (codeOf Tryz.f209)) (.exit 0) (spec_l02Find.sx2 y) = spec_l02Find.a2 lp y := by kernel_rfl
theorem spec_l02Find.t_q2 (lp : Nat) (z : Bool × ByteArray × Int × Bool) : kont (R := Edit × Bool) (spec_l02Find.E lp) spec_l02Find.an lp (finK (spec_l02Find.E lp) Tryz.f209 [TEdit, .bool]) (stkAt 2 (codeOf Tryz.f209)) .ret (spec_l02Find.sr2 z) = spec_l02Find.q2 lp z := by kernel_rfl
theorem spec_l02Find.t_e (lp : Nat) (x0 : List Edit) (x1 : ByteArray) : evalF (spec_l02Find.E lp) spec_l02Find.an lp Tryz.f209 [.v (.sl TEdit), .v .str] [TEdit, .bool] (x0, x1, ()) = spec_l02Find.e lp (fun x0 x1 x6 xb4_0 xb4_1 xb4_2 => loopK spec_l02Find.la2 (fun σ K => codeK (spec_l02Find.E lp) spec_l02Find.an lp (loopAt 2 (codeOf Tryz.f209)) σ K) lp (spec_l02Find.s2 x0 x1 x6 xb4_0 xb4_1 xb4_2) (kont (spec_l02Find.E lp) spec_l02Find.an lp (finK (spec_l02Find.E lp) Tryz.f209 [TEdit, .bool]) (stkAt 2 (codeOf Tryz.f209)))) x0 x1 := by kernel_rfl
theorem spec_l02Find.eq0 (lp : Nat) (x0 : List Edit) (x1 : ByteArray) : evalF (spec_l02Find.E lp) spec_l02Find.an lp Tryz.f209 [.v (.sl TEdit), .v .str] [TEdit, .bool] (x0, x1, ()) = spec_l02Find lp x0 x1 := by
  rw [spec_l02Find.t_e]; unfold spec_l02Find
  simp only [leK_leF _ spec_l02Find.sr2 spec_l02Find.sx2, spec_l02Find.k2, spec_l02Find.t_a2, spec_l02Find.t_q2]
theorem spec_l02Find.eq (lp : Nat) (x : ADens [.v (.sl TEdit), .v .str]) : evalF (spec_l02Find.E lp) spec_l02Find.an lp Tryz.f209 [.v (.sl TEdit), .v .str] [TEdit, .bool] x = (spec_l02Find.S lp).F x := spec_l02Find.eq0 lp x.1 x.2.1
theorem spec_l02Find.ok (lp : Nat) : Sound Tryz.prog 209 (spec_l02Find.S lp) := sound_of (E := spec_l02Find.E lp) (env_ok tabFits tabEqs trivial trivial) mixed Tryz.func209 (by kernel_rfl) (c := codeOf Tryz.f209) (by kernel_rfl) (by kernel_rfl) spec_l02Find.an (fun x r h => ⟨lp, (spec_l02Find.eq lp x).trans h⟩)
end Go.Vx

end
