/- Closed facts of the row of EngineNil. By an AI agent. -/
import Derived.Test.YtonkcdnpmemheaaGreatRows
import Derived.WalkKit
import Derived.ProofKit
import Derived.OpenShut
set_option linter.all false
namespace Go.Proofs.YtonkcdnpmemheaaGreat.engineNil
open Go.ChangeShapes Go.WideShapes Go.ChangeAt Go.RowKit

theorem own : ownKnob Tryz.prog.godebug = none := by kernel_rfl
theorem range_all {f : Nat → Bool} {a b : Nat} (h1 : (List.range' 0 a).all f = true) (h2 : (List.range' a b).all f = true) : (List.range' 0 (a + b)).all f = true := by
  rw [List.all_eq_true] at *
  intro x hx
  rw [List.mem_range'_1] at hx
  rcases Nat.lt_or_ge x a with q | q
  · exact h1 x (by rw [List.mem_range'_1]; omega)
  · exact h2 x (by rw [List.mem_range'_1]; omega)
theorem types_size : Tryz.prog.types.size = 231 + 231 + 233 := by kernel_rfl
theorem rows1 : (List.range' 0 231).all (rowFine Tryz.prog) = true := by kernel_rfl
theorem rows2 : (List.range' 231 231).all (rowFine Tryz.prog) = true := by kernel_rfl
theorem rows3 : (List.range' (231 + 231) 233).all (rowFine Tryz.prog) = true := by kernel_rfl
theorem globs : Tryz.prog.globals.all (fun g => decide (g.type < Tryz.prog.types.size)) = true := by kernel_rfl
theorem pars : Tryz.prog.funcs.all (fun f => f.params.all fun t => decide (t < Tryz.prog.types.size)) = true := by kernel_rfl
theorem k2 : laidOutB Tryz.prog = true := by
  unfold laidOutB
  rw [globs, pars, types_size, List.range_eq_range', range_all (range_all rows1 rows2) rows3]
  rfl
theorem k3 : mapsRowed Tryz.prog = true := by kernel_rfl
noncomputable def road : List FuncId := [3, 5, 15, 16, 39, 17, 23, 45, 46, 40, 18, 20, 21, 42, 44, 84, 157, 158, 85, 159, 86, 160, 238, 161, 239, 87, 88, 89, 43, 8, 33, 69, 68, 70, 137, 71, 91, 72, 138, 139, 226, 73, 140, 141, 74, 142, 227, 291, 228, 143, 229, 235, 296, 295, 347, 144, 145, 49, 95, 6, 24, 25, 47, 90, 37, 79, 149, 92, 162, 93, 163, 94, 48, 26, 27, 28, 50, 96, 97, 165, 164, 240, 98, 166, 167, 168, 241, 298, 100, 102, 101, 174, 175, 244, 300, 99, 169, 170, 171, 172, 64, 242, 299, 66, 133, 134, 173, 202, 275, 130, 216, 217, 218, 219, 220, 285, 221, 330, 331, 332, 276, 255, 213, 333, 104, 124, 80, 150, 232, 292, 210, 152, 156, 237, 297, 233, 293, 234, 294, 283, 282, 176, 334, 375, 374, 417, 376, 277, 335, 336, 337, 208, 377, 418, 419, 281, 420, 243, 51, 103, 105, 52, 106, 177, 245, 111, 184, 258, 259, 317, 318, 319, 260, 185, 261, 186, 246, 301, 247, 189, 265, 107, 108, 131, 178, 248, 121, 207, 280, 339, 155, 236, 340, 379, 60, 122, 123, 209, 114, 193, 267, 222, 223, 286, 341, 380, 342, 381, 421, 382, 62, 125, 211, 212, 224, 287, 288, 343, 344, 386, 430, 431, 432, 433, 434, 487, 508, 521, 447, 509, 510, 511, 422, 483, 504, 520, 505, 522, 512, 523, 492, 416, 442, 484, 424, 493, 513, 425, 485, 506, 486, 507, 488, 489, 394, 456, 435, 436, 491, 490, 426, 387, 437, 438, 439, 440, 441, 443, 388, 444, 445, 446, 448, 449, 494, 514, 311, 356, 524, 515, 495, 516, 525, 527, 272, 327, 371, 328, 373, 415, 372, 406, 412, 482, 407, 477, 408, 478, 479, 409, 480, 481, 503, 410, 411, 413, 414, 517, 526, 450, 451, 496, 497, 383, 423, 390, 452, 427, 453, 384, 385, 428, 429, 395, 457, 393, 345, 346, 389, 391, 455, 454, 289, 290, 132, 225, 179, 249, 274, 250, 303, 304, 350, 351, 354, 352, 392, 349, 302, 348, 305, 180, 251, 252, 306, 307, 308, 353, 253, 309, 355, 396, 397, 398, 399, 458, 401, 460, 461, 462, 498, 518, 463, 459, 402, 464, 465, 466, 499, 467, 400, 254, 310, 314, 312, 256, 313, 357, 358, 181, 182, 257, 316, 315, 183, 53, 109, 32, 67, 136, 135, 30, 59, 61, 63, 126, 214, 127, 128, 215, 284, 129, 110, 112, 187, 188, 262, 263, 264, 320, 359, 360, 403, 361, 362, 321, 363, 404, 468, 474, 469, 500, 470, 471, 501, 502, 519, 472, 473, 475, 476, 364, 322, 323, 366, 367, 368, 369, 405, 365, 324, 271, 54, 113, 191, 192, 190, 266, 115, 194, 268, 195, 196, 197, 269, 198, 270, 325, 370, 326, 199, 200, 273, 329, 55, 116, 117, 201, 203, 278, 279, 338, 378, 56, 118, 119, 204, 57, 58, 120, 205, 206, 29, 22, 7, 31, 65, 9, 34, 75, 146, 147, 10, 35, 11, 36, 76, 148, 230, 231, 78, 77, 12, 13, 38]
theorem closure_eq : Tryz.prog.closure 3 = road := by kernel_rfl
theorem k10 : (Rows.engineNilRow.inPlace == Tryz.prog.inPlace 3) = true := by
  unfold Program.inPlace
  rw [closure_eq]
  kernel_rfl
theorem k11 : (Rows.engineNilRow.unfollowed == Tryz.prog.unfollowed 3) = true := by
  unfold Program.unfollowed
  rw [closure_eq]
  kernel_rfl
theorem k12 : (Rows.engineNilRow.recurses == Tryz.prog.recurses 3) = true := by
  unfold Program.recurses Program.unfollowed
  rw [closure_eq]
  kernel_rfl
theorem k13 : (Rows.engineNilRow.named == Tryz.prog.varsNamed 3) = true := by
  unfold Program.varsNamed
  rw [closure_eq]
  kernel_rfl
theorem k17 : (Rows.engineNilRow.loops == (Tryz.f3.params.toList ++ Rows.engineNilSpec.plain.varTypes Tryz.prog).any (Tryz.prog.loopsFrom ·)) = true := by kernel_rfl
theorem k22 : (Rows.engineNilRow.plainKeys == Tryz.prog.plainKeys) = true := by kernel_rfl
theorem k23 : Tryz.prog.stopsHeard = true := by kernel_rfl
theorem k24 : Tryz.prog.mayEnter = true := by kernel_rfl
theorem closed : joinedFacts Tryz.prog 3 Tryz.f3 Rows.engineNilSpec Rows.engineNilRow = true := by
  unfold joinedFacts
  rw [k2, k3, k10, k11, k12, k13, k17, k22, k23, k24]
  kernel_rfl
end Go.Proofs.YtonkcdnpmemheaaGreat.engineNil

