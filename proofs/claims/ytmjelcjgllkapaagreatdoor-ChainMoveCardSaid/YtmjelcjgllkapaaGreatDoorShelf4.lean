import Derived.Test.YtmjelcjgllkapaaGreatDoorProg
import Derived.Ground.GgsProg
import Derived.Shelf.GgSortFunc.Slice
namespace Go.Proofs
open Go.Shelf
def Tryz.lays6_ren : Go.Shelf.Ren := ⟨fun | 6 => 114 | 10 => 128 | 11 => 129 | 12 => 130 | 13 => 131 | 14 => 132 | 24 => 152 | 25 => 153 | 26 => 154 | 27 => 155 | 28 => 156 | 29 => 157 | 30 => 158 | 31 => 159 | 32 => 160 | 33 => 161 | 34 => 169 | 35 => 170 | 36 => 171 | 37 => 172 | 38 => 173 | 39 => 191 | n => n, fun | 20 => 20 | 26 => 179 | 35 => 194 | 0 => 0 | 37 => 196 | 3 => 3 | 41 => 184 | 44 => 202 | 49 => 221 | 51 => 207 | 4 => 4 | 54 => 224 | 53 => 223 | 58 => 61 | 5 => 5 | 9 => 9 | 60 => 242 | 64 => 246 | 66 => 261 | 67 => 262 | 17 => 17 | 32 => 185 | 33 => 192 | 82 => 279 | 12 => 12 | 75 => 273 | 76 => 274 | 77 => 275 | 78 => 168 | 79 => 276 | 80 => 277 | n => n, fun | n => n⟩
theorem Tryz.lays6 : Go.Proofs.LaysGg.n6 Tryz.prog Tryz.lays6_ren := by repeat' first | kernel_rfl | (intro w; kernel_rfl) | decide | constructor
end Go.Proofs
