import Derived.Test.YtmjelcjgllkapaaGreatDoorProg
import Derived.Ground.NamesProg
import Derived.Shelf.Strconv.Itoa4
import Derived.Shelf.Strings.OnBuilder
import Derived.Shelf.Strings.SplitShaped
import Derived.Shelf.Strings.BuilderK
namespace Go.Proofs
open Go.Shelf
def Tryz.lays171_ren : Go.Shelf.Ren := ⟨fun | 171 => 76 | 243 => 105 | 246 => 122 | 283 => 135 | 284 => 136 | 285 => 137 | 286 => 138 | 129 => 153 | 317 => 163 | 318 => 164 | 319 => 165 | 320 => 166 | 337 => 187 | 338 => 188 | n => n, fun | 3 => 3 | 9 => 9 | 2 => 2 | 4 => 4 | 171 => 206 | 0 => 0 | 53 => 207 | 37 => 133 | 5 => 5 | 173 => 210 | 212 => 234 | 51 => 221 | 20 => 20 | 213 => 235 | 46 => 184 | 232 => 264 | 233 => 265 | n => n, fun | 17 => 1 | 18 => 4 | 19 => 5 | n => n⟩
theorem Tryz.lays171 : Go.Proofs.LaysM.n171 Tryz.prog Tryz.lays171_ren := by repeat' first | kernel_rfl | (intro w; kernel_rfl) | decide | constructor
def Tryz.lays156_ren : Go.Shelf.Ren := ⟨fun | 156 => 107 | 165 => 123 | 166 => 75 | 169 => 77 | 240 => 104 | 241 => 139 | 276 => 121 | 277 => 167 | n => n, fun | 31 => 22 | 9 => 9 | 3 => 3 | 4 => 4 | 0 => 0 | 20 => 20 | 72 => 135 | 76 => 138 | 70 => 132 | 37 => 133 | 75 => 137 | 127 => 168 | 164 => 185 | 5 => 5 | 80 => 141 | n => n, fun | n => n⟩
theorem Tryz.lays156 : Go.Proofs.Lays.n156 Tryz.prog Tryz.lays156_ren := by repeat' first | kernel_rfl | (intro w; kernel_rfl) | decide | constructor
theorem Tryz.Builder_Extra_156 : Builder.Extra Tryz.prog Tryz.lays156_ren := by repeat' first | kernel_rfl | (intro w; kernel_rfl) | decide | constructor
def Tryz.lays157_ren : Go.Shelf.Ren := ⟨fun | 157 => 124 | 229 => 140 | 199 => 141 | 261 => 168 | 311 => 189 | 312 => 190 | n => n, fun | 9 => 9 | 31 => 22 | 3 => 3 | 5 => 5 | 4 => 4 | 119 => 212 | 0 => 0 | 40 => 214 | 152 => 237 | 21 => 21 | 154 => 239 | 51 => 221 | 141 => 241 | 196 => 253 | 193 => 250 | 198 => 256 | 49 => 254 | 194 => 251 | 201 => 259 | 226 => 266 | 46 => 184 | 227 => 267 | n => n, fun | 0 => 0 | 6 => 2 | n => n⟩
theorem Tryz.lays157 : Go.Proofs.LaysM.n157 Tryz.prog Tryz.lays157_ren := by repeat' first | kernel_rfl | (intro w; kernel_rfl) | decide | constructor
def Tryz.lays169_ren : Go.Shelf.Ren := ⟨fun | 169 => 77 | n => n, fun | 70 => 132 | 9 => 9 | 0 => 0 | 72 => 135 | 37 => 133 | 127 => 168 | 3 => 3 | 5 => 5 | n => n, fun | n => n⟩
theorem Tryz.lays169 : Go.Proofs.Lays.n169 Tryz.prog Tryz.lays169_ren := by repeat' first | kernel_rfl | (intro w; kernel_rfl) | decide | constructor
theorem Tryz.Builder_Extra_169 : Builder.Extra Tryz.prog Tryz.lays169_ren := by repeat' first | kernel_rfl | (intro w; kernel_rfl) | decide | constructor
end Go.Proofs
