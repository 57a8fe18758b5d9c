/- The shelf's contracts of Go's library at this translation, numbers found by name (made by a program of ours). No condition of its own. -/
import Derived.Shelf.Strings.OnBuilder
import Derived.Shelf.Small.Strs
import Derived.Shelf.Small.Wraps
import Derived.Shelf.Utf8.RuneCount
import Derived.Shelf.Strconv.Itoa3
import Derived.Shelf.Strconv.ErrVar
import Derived.Shelf.Strconv.ErrVarAll
import Derived.Shelf.Strconv.ParseInt10All
import Derived.Shelf.Strings.Shaped
import Derived.Shelf.Strings.SplitShaped
import Derived.Shelf.Strings.Explode
import Derived.Shelf.Unicode.DecodeAny
import Derived.Shelf.Strings.BuilderCap
import Derived.Shelf.Slices.Turned
import Derived.Test.YtieppmppdmcleaaGreatDoorProg
set_option linter.unusedVariables false
namespace Go.Shelf
end Go.Shelf
namespace Go.Proofs
open Go.Shelf
open Go.RowKit in
def Tryz.lays167_ren : Go.Shelf.Ren := ⟨fun | 167 => 91 | 240 => 110 | 276 => 136 | n => n, fun | 0 => 0 | 1 => 1 | 2 => 2 | 3 => 3 | 4 => 4 | 5 => 5 | 6 => 6 | 7 => 7 | 8 => 8 | 9 => 9 | 10 => 10 | 11 => 11 | 12 => 12 | 13 => 13 | 14 => 14 | 15 => 15 | 16 => 16 | 17 => 17 | 18 => 18 | 19 => 19 | 20 => 20 | 21 => 21 | 22 => 159 | 27 => 99 | 28 => 22 | 29 => 48 | 31 => 23 | 32 => 173 | 33 => 154 | 37 => 31 | 41 => 115 | 42 => 144 | 43 => 30 | 46 => 143 | 47 => 196 | 48 => 84 | 51 => 169 | 52 => 201 | 53 => 183 | 54 => 184 | 55 => 133 | 57 => 100 | 61 => 38 | 67 => 83 | 69 => 93 | 70 => 109 | 71 => 110 | 72 => 111 | 73 => 112 | 74 => 69 | 75 => 70 | 76 => 113 | 77 => 114 | 78 => 123 | 80 => 58 | 81 => 118 | 83 => 92 | 84 => 175 | 85 => 177 | 86 => 178 | 103 => 130 | 104 => 94 | 105 => 131 | 106 => 132 | 108 => 192 | 111 => 52 | 113 => 82 | 114 => 76 | 119 => 165 | 127 => 139 | 128 => 174 | 137 => 166 | 138 => 167 | 139 => 168 | 143 => 198 | 144 => 199 | 145 => 200 | 146 => 170 | 150 => 98 | 151 => 171 | 164 => 161 | 165 => 162 | 166 => 163 | 167 => 176 | 168 => 179 | 169 => 180 | 170 => 181 | 171 => 182 | 172 => 185 | 173 => 186 | 174 => 187 | 175 => 188 | 176 => 189 | 209 => 190 | 210 => 191 | 211 => 193 | 212 => 194 | 213 => 195 | 214 => 197 | 229 => 126 | 232 => 202 | 233 => 203 | 239 => 205 | 240 => 206 | 241 => 207 | 242 => 208 | 243 => 209 | 244 => 210 | 245 => 211 | 246 => 212 | 247 => 213 | 249 => 215 | n => n, fun | 1 => 0 | 3 => 1 | 4 => 2 | 15 => 3 | 16 => 4 | 17 => 5 | 18 => 6 | 19 => 7 | n => n⟩
theorem Tryz.lays167 : Lays.n167 Tryz.prog Tryz.lays167_ren := {
  mixed := by kernel_rfl
  f167 := Tryz.func91.trans (congrArg some (by kernel_rfl))
  f240 := Tryz.func110.trans (congrArg some (by kernel_rfl))
  f276 := Tryz.func136.trans (congrArg some (by kernel_rfl))
  t0 := Tryz.underlying0
  a0 := Tryz.isAgg0
  z0 := Tryz.sizeOf0
  v0 := Tryz.zeroValue0
  t4 := Tryz.underlying4
  a4 := Tryz.isAgg4
  z4 := Tryz.sizeOf4
  v4 := Tryz.zeroValue4
  t5 := Tryz.underlying5
  a5 := Tryz.isAgg5
  z5 := Tryz.sizeOf5
  v5 := Tryz.zeroValue5
  t9 := Tryz.underlying9
  a9 := Tryz.isAgg9
  z9 := Tryz.sizeOf9
  v9 := Tryz.zeroValue9
  t20 := Tryz.underlying20
  a20 := Tryz.isAgg20
  z20 := Tryz.sizeOf20
  v20 := Tryz.zeroValue20
  t37 := Tryz.underlying31
  a37 := Tryz.isAgg31
  z37 := Tryz.sizeOf31
  v37 := Tryz.zeroValue31
  t70 := Tryz.underlying109
  a70 := Tryz.isAgg109
  z70 := Tryz.sizeOf109
  v70 := Tryz.zeroValue109
  t72 := Tryz.underlying111
  a72 := Tryz.isAgg111
  z72 := Tryz.sizeOf111
  v72 := Tryz.zeroValue111
  t75 := Tryz.underlying70
  a75 := Tryz.isAgg70
  z75 := Tryz.sizeOf70
  v75 := Tryz.zeroValue70
  t164 := Tryz.underlying161
  a164 := Tryz.isAgg161
  z164 := Tryz.sizeOf161
  v164 := Tryz.zeroValue161 }
theorem Tryz.Builder_Extra_167 : Builder.Extra Tryz.prog Tryz.lays167_ren := {
  sizeBuilder := by kernel_rfl
  liesBuilder := by kernel_rfl
  t5 := Tryz.underlying5
  a5 := Tryz.isAgg5
  z5 := Tryz.sizeOf5
  v5 := Tryz.zeroValue5
  infoByte := by kernel_rfl
  cellsByte := by kernel_rfl
  sizeByte := by kernel_rfl
  neB5 := by decide }
open Go.RowKit in
def Tryz.lays166_ren : Go.Shelf.Ren := ⟨fun | 166 => 78 | 240 => 110 | 276 => 136 | n => n, fun | 0 => 0 | 1 => 1 | 2 => 2 | 3 => 3 | 4 => 4 | 5 => 5 | 6 => 6 | 7 => 7 | 8 => 8 | 9 => 9 | 10 => 10 | 11 => 11 | 12 => 12 | 13 => 13 | 14 => 14 | 15 => 15 | 16 => 16 | 17 => 17 | 18 => 18 | 19 => 19 | 20 => 20 | 21 => 21 | 22 => 159 | 27 => 99 | 28 => 22 | 29 => 48 | 31 => 23 | 32 => 173 | 33 => 154 | 37 => 31 | 41 => 115 | 42 => 144 | 43 => 30 | 46 => 143 | 47 => 196 | 48 => 84 | 51 => 169 | 52 => 201 | 53 => 183 | 54 => 184 | 55 => 133 | 57 => 100 | 61 => 38 | 67 => 83 | 69 => 93 | 70 => 109 | 71 => 110 | 72 => 111 | 73 => 112 | 74 => 69 | 75 => 70 | 76 => 113 | 77 => 114 | 78 => 123 | 80 => 58 | 81 => 118 | 83 => 92 | 84 => 175 | 85 => 177 | 86 => 178 | 103 => 130 | 104 => 94 | 105 => 131 | 106 => 132 | 108 => 192 | 111 => 52 | 113 => 82 | 114 => 76 | 119 => 165 | 127 => 139 | 128 => 174 | 137 => 166 | 138 => 167 | 139 => 168 | 143 => 198 | 144 => 199 | 145 => 200 | 146 => 170 | 150 => 98 | 151 => 171 | 164 => 161 | 165 => 162 | 166 => 163 | 167 => 176 | 168 => 179 | 169 => 180 | 170 => 181 | 171 => 182 | 172 => 185 | 173 => 186 | 174 => 187 | 175 => 188 | 176 => 189 | 209 => 190 | 210 => 191 | 211 => 193 | 212 => 194 | 213 => 195 | 214 => 197 | 229 => 126 | 232 => 202 | 233 => 203 | 239 => 205 | 240 => 206 | 241 => 207 | 242 => 208 | 243 => 209 | 244 => 210 | 245 => 211 | 246 => 212 | 247 => 213 | 249 => 215 | n => n, fun | 1 => 0 | 3 => 1 | 4 => 2 | 15 => 3 | 16 => 4 | 17 => 5 | 18 => 6 | 19 => 7 | n => n⟩
theorem Tryz.lays166 : Lays.n166 Tryz.prog Tryz.lays166_ren := {
  mixed := by kernel_rfl
  f166 := Tryz.func78.trans (congrArg some (by kernel_rfl))
  f240 := Tryz.func110.trans (congrArg some (by kernel_rfl))
  f276 := Tryz.func136.trans (congrArg some (by kernel_rfl))
  t0 := Tryz.underlying0
  a0 := Tryz.isAgg0
  z0 := Tryz.sizeOf0
  v0 := Tryz.zeroValue0
  t3 := Tryz.underlying3
  a3 := Tryz.isAgg3
  z3 := Tryz.sizeOf3
  v3 := Tryz.zeroValue3
  t4 := Tryz.underlying4
  a4 := Tryz.isAgg4
  z4 := Tryz.sizeOf4
  v4 := Tryz.zeroValue4
  t9 := Tryz.underlying9
  a9 := Tryz.isAgg9
  z9 := Tryz.sizeOf9
  v9 := Tryz.zeroValue9
  t20 := Tryz.underlying20
  a20 := Tryz.isAgg20
  z20 := Tryz.sizeOf20
  v20 := Tryz.zeroValue20
  t37 := Tryz.underlying31
  a37 := Tryz.isAgg31
  z37 := Tryz.sizeOf31
  v37 := Tryz.zeroValue31
  t70 := Tryz.underlying109
  a70 := Tryz.isAgg109
  z70 := Tryz.sizeOf109
  v70 := Tryz.zeroValue109
  t72 := Tryz.underlying111
  a72 := Tryz.isAgg111
  z72 := Tryz.sizeOf111
  v72 := Tryz.zeroValue111
  t75 := Tryz.underlying70
  a75 := Tryz.isAgg70
  z75 := Tryz.sizeOf70
  v75 := Tryz.zeroValue70
  t164 := Tryz.underlying161
  a164 := Tryz.isAgg161
  z164 := Tryz.sizeOf161
  v164 := Tryz.zeroValue161 }
theorem Tryz.Builder_Extra_166 : Builder.Extra Tryz.prog Tryz.lays166_ren := {
  sizeBuilder := by kernel_rfl
  liesBuilder := by kernel_rfl
  t5 := Tryz.underlying5
  a5 := Tryz.isAgg5
  z5 := Tryz.sizeOf5
  v5 := Tryz.zeroValue5
  infoByte := by kernel_rfl
  cellsByte := by kernel_rfl
  sizeByte := by kernel_rfl
  neB5 := by decide }
open Go.RowKit in
def Tryz.lays169_ren : Go.Shelf.Ren := ⟨fun | 169 => 79 | n => n, fun | 0 => 0 | 1 => 1 | 2 => 2 | 3 => 3 | 4 => 4 | 5 => 5 | 6 => 6 | 7 => 7 | 8 => 8 | 9 => 9 | 10 => 10 | 11 => 11 | 12 => 12 | 13 => 13 | 14 => 14 | 15 => 15 | 16 => 16 | 17 => 17 | 18 => 18 | 19 => 19 | 20 => 20 | 21 => 21 | 22 => 159 | 27 => 99 | 28 => 22 | 29 => 48 | 31 => 23 | 32 => 173 | 33 => 154 | 37 => 31 | 41 => 115 | 42 => 144 | 43 => 30 | 46 => 143 | 47 => 196 | 48 => 84 | 51 => 169 | 52 => 201 | 53 => 183 | 54 => 184 | 55 => 133 | 57 => 100 | 61 => 38 | 67 => 83 | 69 => 93 | 70 => 109 | 71 => 110 | 72 => 111 | 73 => 112 | 74 => 69 | 75 => 70 | 76 => 113 | 77 => 114 | 78 => 123 | 80 => 58 | 81 => 118 | 83 => 92 | 84 => 175 | 85 => 177 | 86 => 178 | 103 => 130 | 104 => 94 | 105 => 131 | 106 => 132 | 108 => 192 | 111 => 52 | 113 => 82 | 114 => 76 | 119 => 165 | 127 => 139 | 128 => 174 | 137 => 166 | 138 => 167 | 139 => 168 | 143 => 198 | 144 => 199 | 145 => 200 | 146 => 170 | 150 => 98 | 151 => 171 | 164 => 161 | 165 => 162 | 166 => 163 | 167 => 176 | 168 => 179 | 169 => 180 | 170 => 181 | 171 => 182 | 172 => 185 | 173 => 186 | 174 => 187 | 175 => 188 | 176 => 189 | 209 => 190 | 210 => 191 | 211 => 193 | 212 => 194 | 213 => 195 | 214 => 197 | 229 => 126 | 232 => 202 | 233 => 203 | 239 => 205 | 240 => 206 | 241 => 207 | 242 => 208 | 243 => 209 | 244 => 210 | 245 => 211 | 246 => 212 | 247 => 213 | 249 => 215 | n => n, fun | 1 => 0 | 3 => 1 | 4 => 2 | 15 => 3 | 16 => 4 | 17 => 5 | 18 => 6 | 19 => 7 | n => n⟩
theorem Tryz.lays169 : Lays.n169 Tryz.prog Tryz.lays169_ren := {
  mixed := by kernel_rfl
  f169 := Tryz.func79.trans (congrArg some (by kernel_rfl))
  t0 := Tryz.underlying0
  a0 := Tryz.isAgg0
  z0 := Tryz.sizeOf0
  v0 := Tryz.zeroValue0
  t3 := Tryz.underlying3
  a3 := Tryz.isAgg3
  z3 := Tryz.sizeOf3
  v3 := Tryz.zeroValue3
  t9 := Tryz.underlying9
  a9 := Tryz.isAgg9
  z9 := Tryz.sizeOf9
  v9 := Tryz.zeroValue9
  t37 := Tryz.underlying31
  a37 := Tryz.isAgg31
  z37 := Tryz.sizeOf31
  v37 := Tryz.zeroValue31
  t70 := Tryz.underlying109
  a70 := Tryz.isAgg109
  z70 := Tryz.sizeOf109
  v70 := Tryz.zeroValue109
  t72 := Tryz.underlying111
  a72 := Tryz.isAgg111
  z72 := Tryz.sizeOf111
  v72 := Tryz.zeroValue111
  t127 := Tryz.underlying139
  a127 := Tryz.isAgg139
  z127 := Tryz.sizeOf139
  v127 := Tryz.zeroValue139 }
theorem Tryz.Builder_Extra_169 : Builder.Extra Tryz.prog Tryz.lays169_ren := {
  sizeBuilder := by kernel_rfl
  liesBuilder := by kernel_rfl
  t5 := Tryz.underlying5
  a5 := Tryz.isAgg5
  z5 := Tryz.sizeOf5
  v5 := Tryz.zeroValue5
  infoByte := by kernel_rfl
  cellsByte := by kernel_rfl
  sizeByte := by kernel_rfl
  neB5 := by decide }
open Go.RowKit in
open Go.RowKit in
open Go.RowKit in
open Go.RowKit in
open Go.RowKit in
def Tryz.lays156_ren : Go.Shelf.Ren := ⟨fun | 156 => 51 | 165 => 77 | 166 => 78 | 169 => 79 | 240 => 110 | 241 => 111 | 276 => 136 | 277 => 137 | n => n, fun | 0 => 0 | 1 => 1 | 2 => 2 | 3 => 3 | 4 => 4 | 5 => 5 | 6 => 6 | 7 => 7 | 8 => 8 | 9 => 9 | 10 => 10 | 11 => 11 | 12 => 12 | 13 => 13 | 14 => 14 | 15 => 15 | 16 => 16 | 17 => 17 | 18 => 18 | 19 => 19 | 20 => 20 | 21 => 21 | 22 => 159 | 27 => 99 | 28 => 22 | 29 => 48 | 31 => 23 | 32 => 173 | 33 => 154 | 37 => 31 | 41 => 115 | 42 => 144 | 43 => 30 | 46 => 143 | 47 => 196 | 48 => 84 | 51 => 169 | 52 => 201 | 53 => 183 | 54 => 184 | 55 => 133 | 57 => 100 | 61 => 38 | 67 => 83 | 69 => 93 | 70 => 109 | 71 => 110 | 72 => 111 | 73 => 112 | 74 => 69 | 75 => 70 | 76 => 113 | 77 => 114 | 78 => 123 | 80 => 58 | 81 => 118 | 83 => 92 | 84 => 175 | 85 => 177 | 86 => 178 | 103 => 130 | 104 => 94 | 105 => 131 | 106 => 132 | 108 => 192 | 111 => 52 | 113 => 82 | 114 => 76 | 119 => 165 | 127 => 139 | 128 => 174 | 137 => 166 | 138 => 167 | 139 => 168 | 143 => 198 | 144 => 199 | 145 => 200 | 146 => 170 | 150 => 98 | 151 => 171 | 164 => 161 | 165 => 162 | 166 => 163 | 167 => 176 | 168 => 179 | 169 => 180 | 170 => 181 | 171 => 182 | 172 => 185 | 173 => 186 | 174 => 187 | 175 => 188 | 176 => 189 | 209 => 190 | 210 => 191 | 211 => 193 | 212 => 194 | 213 => 195 | 214 => 197 | 229 => 126 | 232 => 202 | 233 => 203 | 239 => 205 | 240 => 206 | 241 => 207 | 242 => 208 | 243 => 209 | 244 => 210 | 245 => 211 | 246 => 212 | 247 => 213 | 249 => 215 | n => n, fun | 1 => 0 | 3 => 1 | 4 => 2 | 15 => 3 | 16 => 4 | 17 => 5 | 18 => 6 | 19 => 7 | n => n⟩
theorem Tryz.lays156 : Lays.n156 Tryz.prog Tryz.lays156_ren := {
  mixed := by kernel_rfl
  f156 := Tryz.func51.trans (congrArg some (by kernel_rfl))
  f165 := Tryz.func77.trans (congrArg some (by kernel_rfl))
  f166 := Tryz.func78.trans (congrArg some (by kernel_rfl))
  f169 := Tryz.func79.trans (congrArg some (by kernel_rfl))
  f240 := Tryz.func110.trans (congrArg some (by kernel_rfl))
  f241 := Tryz.func111.trans (congrArg some (by kernel_rfl))
  f276 := Tryz.func136.trans (congrArg some (by kernel_rfl))
  f277 := Tryz.func137.trans (congrArg some (by kernel_rfl))
  t0 := Tryz.underlying0
  a0 := Tryz.isAgg0
  z0 := Tryz.sizeOf0
  v0 := Tryz.zeroValue0
  t3 := Tryz.underlying3
  a3 := Tryz.isAgg3
  z3 := Tryz.sizeOf3
  v3 := Tryz.zeroValue3
  t4 := Tryz.underlying4
  a4 := Tryz.isAgg4
  z4 := Tryz.sizeOf4
  v4 := Tryz.zeroValue4
  t9 := Tryz.underlying9
  a9 := Tryz.isAgg9
  z9 := Tryz.sizeOf9
  v9 := Tryz.zeroValue9
  t20 := Tryz.underlying20
  a20 := Tryz.isAgg20
  z20 := Tryz.sizeOf20
  v20 := Tryz.zeroValue20
  t31 := Tryz.underlying23
  a31 := Tryz.isAgg23
  z31 := Tryz.sizeOf23
  v31 := Tryz.zeroValue23
  t37 := Tryz.underlying31
  a37 := Tryz.isAgg31
  z37 := Tryz.sizeOf31
  v37 := Tryz.zeroValue31
  t70 := Tryz.underlying109
  a70 := Tryz.isAgg109
  z70 := Tryz.sizeOf109
  v70 := Tryz.zeroValue109
  t72 := Tryz.underlying111
  a72 := Tryz.isAgg111
  z72 := Tryz.sizeOf111
  v72 := Tryz.zeroValue111
  t75 := Tryz.underlying70
  a75 := Tryz.isAgg70
  z75 := Tryz.sizeOf70
  v75 := Tryz.zeroValue70
  t76 := Tryz.underlying113
  a76 := Tryz.isAgg113
  z76 := Tryz.sizeOf113
  v76 := Tryz.zeroValue113
  t127 := Tryz.underlying139
  a127 := Tryz.isAgg139
  z127 := Tryz.sizeOf139
  v127 := Tryz.zeroValue139
  t164 := Tryz.underlying161
  a164 := Tryz.isAgg161
  z164 := Tryz.sizeOf161
  v164 := Tryz.zeroValue161 }
theorem Tryz.Builder_Extra_156 : Builder.Extra Tryz.prog Tryz.lays156_ren := {
  sizeBuilder := by kernel_rfl
  liesBuilder := by kernel_rfl
  t5 := Tryz.underlying5
  a5 := Tryz.isAgg5
  z5 := Tryz.sizeOf5
  v5 := Tryz.zeroValue5
  infoByte := by kernel_rfl
  cellsByte := by kernel_rfl
  sizeByte := by kernel_rfl
  neB5 := by decide }
open Go.RowKit in
theorem Tryz.strings_Join_none (a : Option Addr) (c : Nat) (sep : ByteArray) (w : World) :
    Calls Tryz.prog 51 #[.slice a 0 c, .string sep] w fun e w' => e = .returned (.string ⟨#[]⟩) ∧ w' = w := Any.strings_Join_none Tryz.lays156 Tryz.Builder_Extra_156 a c sep w
open Go.RowKit in
theorem Tryz.strings_Join (bk o c : Nat) (xs : List ByteArray) (sep : ByteArray) (w : World) (hcells : ∀ (j : Nat) x, xs[j]? = some x → w.cell? ⟨bk, o + j, none⟩ = some (.string x)) (hbk : bk < w.heap.size) (hN : xs.length ≤ 140737488355328) (hcap : xs.length ≤ c) (hlen : (Lib.join (xs.map (·.data.toList)) sep.data.toList).length ≤ 140737488355328) :
    Calls Tryz.prog 51 #[.slice (some ⟨bk, o, none⟩) xs.length c, .string sep] w fun e w' => e = .returned (.string ⟨(Lib.join (xs.map (·.data.toList)) sep.data.toList).toArray⟩) ∧ Below w.heap.size w w' := Any.strings_Join Tryz.lays156 Tryz.Builder_Extra_156 bk o c xs sep w hcells hbk hN hcap hlen
def Tryz.lays137_ren : Go.Shelf.Ren := ⟨fun | 137 => 103 | 217 => 127 | 266 => 143 | n => n, fun | 0 => 0 | 1 => 1 | 2 => 2 | 3 => 3 | 4 => 4 | 5 => 5 | 6 => 6 | 7 => 7 | 8 => 8 | 9 => 9 | 10 => 10 | 11 => 11 | 12 => 12 | 13 => 13 | 14 => 14 | 15 => 15 | 16 => 16 | 17 => 17 | 18 => 18 | 19 => 19 | 20 => 20 | 21 => 21 | 22 => 159 | 27 => 99 | 28 => 22 | 29 => 48 | 31 => 23 | 32 => 173 | 33 => 154 | 37 => 31 | 41 => 115 | 42 => 144 | 43 => 30 | 46 => 143 | 47 => 196 | 48 => 84 | 51 => 169 | 52 => 201 | 53 => 183 | 54 => 184 | 55 => 133 | 57 => 100 | 61 => 38 | 67 => 83 | 69 => 93 | 70 => 109 | 71 => 110 | 72 => 111 | 73 => 112 | 74 => 69 | 75 => 70 | 76 => 113 | 77 => 114 | 78 => 123 | 80 => 58 | 81 => 118 | 83 => 92 | 84 => 175 | 85 => 177 | 86 => 178 | 103 => 130 | 104 => 94 | 105 => 131 | 106 => 132 | 108 => 192 | 111 => 52 | 113 => 82 | 114 => 76 | 119 => 165 | 127 => 139 | 128 => 174 | 137 => 166 | 138 => 167 | 139 => 168 | 143 => 198 | 144 => 199 | 145 => 200 | 146 => 170 | 150 => 98 | 151 => 171 | 164 => 161 | 165 => 162 | 166 => 163 | 167 => 176 | 168 => 179 | 169 => 180 | 170 => 181 | 171 => 182 | 172 => 185 | 173 => 186 | 174 => 187 | 175 => 188 | 176 => 189 | 209 => 190 | 210 => 191 | 211 => 193 | 212 => 194 | 213 => 195 | 214 => 197 | 229 => 126 | 232 => 202 | 233 => 203 | 239 => 205 | 240 => 206 | 241 => 207 | 242 => 208 | 243 => 209 | 244 => 210 | 245 => 211 | 246 => 212 | 247 => 213 | 249 => 215 | n => n, fun | 1 => 0 | 3 => 1 | 4 => 2 | 15 => 3 | 16 => 4 | 17 => 5 | 18 => 6 | 19 => 7 | n => n⟩
theorem Tryz.lays137 : Lays.n137 Tryz.prog Tryz.lays137_ren := {
  mixed := by kernel_rfl
  f137 := Tryz.func103.trans (congrArg some (by kernel_rfl))
  f217 := Tryz.func127.trans (congrArg some (by kernel_rfl))
  f266 := Tryz.func143.trans (congrArg some (by kernel_rfl))
  t3 := Tryz.underlying3
  a3 := Tryz.isAgg3
  z3 := Tryz.sizeOf3
  v3 := Tryz.zeroValue3
  t5 := Tryz.underlying5
  a5 := Tryz.isAgg5
  z5 := Tryz.sizeOf5
  v5 := Tryz.zeroValue5
  t9 := Tryz.underlying9
  a9 := Tryz.isAgg9
  z9 := Tryz.sizeOf9
  v9 := Tryz.zeroValue9 }
open Go.RowKit in
theorem Tryz.strings_IndexByte (s : ByteArray) (c : Int) (w : World) :
    Calls Tryz.prog 103 #[.string s, .int .u8 c] w fun e w' => e = .returned (.int .i64 (Lib.indexByte s.data.toList c.toNat.toUInt8)) ∧ w' = w := Any.strings_IndexByte Tryz.lays137 s c w
open Go.RowKit in
def Tryz.lays121_ren : Go.Shelf.Ren := ⟨fun | 121 => 117 | 214 => 139 | n => n, fun | 0 => 0 | 1 => 1 | 2 => 2 | 3 => 3 | 4 => 4 | 5 => 5 | 6 => 6 | 7 => 7 | 8 => 8 | 9 => 9 | 10 => 10 | 11 => 11 | 12 => 12 | 13 => 13 | 14 => 14 | 15 => 15 | 16 => 16 | 17 => 17 | 18 => 18 | 19 => 19 | 20 => 20 | 21 => 21 | 22 => 159 | 27 => 99 | 28 => 22 | 29 => 48 | 31 => 23 | 32 => 173 | 33 => 154 | 37 => 31 | 41 => 115 | 42 => 144 | 43 => 30 | 46 => 143 | 47 => 196 | 48 => 84 | 51 => 169 | 52 => 201 | 53 => 183 | 54 => 184 | 55 => 133 | 57 => 100 | 61 => 38 | 67 => 83 | 69 => 93 | 70 => 109 | 71 => 110 | 72 => 111 | 73 => 112 | 74 => 69 | 75 => 70 | 76 => 113 | 77 => 114 | 78 => 123 | 80 => 58 | 81 => 118 | 83 => 92 | 84 => 175 | 85 => 177 | 86 => 178 | 103 => 130 | 104 => 94 | 105 => 131 | 106 => 132 | 108 => 192 | 111 => 52 | 113 => 82 | 114 => 76 | 119 => 165 | 127 => 139 | 128 => 174 | 137 => 166 | 138 => 167 | 139 => 168 | 143 => 198 | 144 => 199 | 145 => 200 | 146 => 170 | 150 => 98 | 151 => 171 | 164 => 161 | 165 => 162 | 166 => 163 | 167 => 176 | 168 => 179 | 169 => 180 | 170 => 181 | 171 => 182 | 172 => 185 | 173 => 186 | 174 => 187 | 175 => 188 | 176 => 189 | 209 => 190 | 210 => 191 | 211 => 193 | 212 => 194 | 213 => 195 | 214 => 197 | 229 => 126 | 232 => 202 | 233 => 203 | 239 => 205 | 240 => 206 | 241 => 207 | 242 => 208 | 243 => 209 | 244 => 210 | 245 => 211 | 246 => 212 | 247 => 213 | 249 => 215 | n => n, fun | 1 => 0 | 3 => 1 | 4 => 2 | 15 => 3 | 16 => 4 | 17 => 5 | 18 => 6 | 19 => 7 | n => n⟩
theorem Tryz.lays121 : Lays.n121 Tryz.prog Tryz.lays121_ren := {
  mixed := by kernel_rfl
  f121 := Tryz.func117.trans (congrArg some (by kernel_rfl))
  f214 := Tryz.func139.trans (congrArg some (by kernel_rfl))
  t4 := Tryz.underlying4
  a4 := Tryz.isAgg4
  z4 := Tryz.sizeOf4
  v4 := Tryz.zeroValue4
  t9 := Tryz.underlying9
  a9 := Tryz.isAgg9
  z9 := Tryz.sizeOf9
  v9 := Tryz.zeroValue9 }
open Go.RowKit in
theorem Tryz.strconv_FormatBool (b : Bool) (w : World) :
    Calls Tryz.prog 117 #[.bool b] w fun e w' => e = .returned (.string ⟨(Lib.formatBool b).toArray⟩) ∧ w' = w := Any.strconv_FormatBool Tryz.lays121 b w
open Go.RowKit in
open Go.RowKit in
open Go.RowKit in
open Go.RowKit in
open Go.RowKit in
open Go.RowKit in
open Go.RowKit in
theorem Tryz.Builder_WriteByte_k (B b : Nat) (bs : List Value) (c : Int) (w : World) (h : Lib.IsBuilderF 111 5 B b bs w) (hlen : bs.length + 1 ≤ 140737488355328) (hBw : B ≤ w.heap.size) :
    Calls Tryz.prog 91 #[.pointer (some ⟨b, 0, none⟩), .int .u8 c] w fun e w' => e = .returned .nilIface ∧ (Lib.BuilderAtF 111 5 B b (.pointer (some ⟨b, 0, none⟩)) (bs ++ [.int .u8 c]) w' ∧ Below B w w' ∧ Lib.OthersKept 5 (some b) w w') := Any.Builder_WriteByte_k Tryz.lays167 Tryz.Builder_Extra_167 B b bs c w h hlen hBw
open Go.RowKit in
theorem Tryz.Builder_WriteString_k (B b : Nat) (bs : List Value) (s : ByteArray) (w : World) (h : Lib.IsBuilderF 111 5 B b bs w) (hlen : bs.length + s.size ≤ 140737488355328) (hBw : B ≤ w.heap.size) :
    Calls Tryz.prog 78 #[.pointer (some ⟨b, 0, none⟩), .string s] w fun e w' => e = .returned (.tuple #[.int .i64 s.size, .nilIface]) ∧ (Lib.BuilderAtF 111 5 B b (.pointer (some ⟨b, 0, none⟩)) (bs ++ Lib.strCells s) w' ∧ Below B w w' ∧ Lib.OthersKept 5 (some b) w w') := Any.Builder_WriteString_k Tryz.lays166 Tryz.Builder_Extra_166 B b bs s w h hlen hBw
open Go.RowKit in
open Go.RowKit in
open Go.RowKit in
theorem Tryz.Builder_String_any_k (B b : Nat) (l : List UInt8) (w : World) (h : Lib.IsBuilderF 111 5 B b (Lib.byteCells l) w) (hBw : B ≤ w.heap.size) :
    Calls Tryz.prog 79 #[.pointer (some ⟨b, 0, none⟩)] w fun e w' => e = .returned (.string ⟨l.toArray⟩) ∧ (Lib.IsBuilderF 111 5 B b (Lib.byteCells l) w' ∧ Below B w w' ∧ Lib.OthersKept 5 (some b) w w') := Any.Builder_String_any_k Tryz.lays169 Tryz.Builder_Extra_169 B b l w h hBw
open Go.RowKit in
open Go.RowKit in
open Go.RowKit in
open Go.RowKit in
open Go.RowKit in
open Go.Lib in
open Go.Lib in
open Go.Lib in
open Go.Lib in
open Go.RowKit Go.Sort Go.Lib in
open Go.RowKit Go.Sort Go.Lib in
open Go.RowKit Go.Sort Go.Lib in
open Go.RowKit Go.Sort Go.Lib in
open Go.RowKit Go.Sort Go.Lib in
def Tryz.laysM171_ren : Go.Shelf.Ren := ⟨fun | 129 => 163 | 171 => 118 | 243 => 140 | 246 => 149 | 283 => 155 | 284 => 156 | 285 => 157 | 286 => 158 | 317 => 162 | 318 => 164 | 319 => 165 | 320 => 166 | 337 => 169 | 338 => 170 | n => n, fun | 0 => 0 | 1 => 1 | 2 => 2 | 3 => 3 | 4 => 4 | 5 => 5 | 6 => 6 | 7 => 7 | 8 => 8 | 9 => 9 | 10 => 10 | 11 => 11 | 12 => 12 | 13 => 13 | 14 => 14 | 15 => 15 | 16 => 16 | 17 => 17 | 18 => 18 | 19 => 19 | 20 => 20 | 21 => 21 | 22 => 159 | 27 => 99 | 28 => 22 | 29 => 48 | 31 => 23 | 32 => 173 | 33 => 154 | 37 => 31 | 41 => 115 | 42 => 144 | 43 => 30 | 46 => 143 | 47 => 196 | 48 => 84 | 51 => 169 | 52 => 201 | 53 => 183 | 54 => 184 | 55 => 133 | 57 => 100 | 61 => 38 | 67 => 83 | 69 => 93 | 70 => 109 | 71 => 110 | 72 => 111 | 73 => 112 | 74 => 69 | 75 => 70 | 76 => 113 | 77 => 114 | 78 => 123 | 80 => 58 | 81 => 118 | 83 => 92 | 84 => 175 | 85 => 177 | 86 => 178 | 103 => 130 | 104 => 94 | 105 => 131 | 106 => 132 | 108 => 192 | 111 => 52 | 113 => 82 | 114 => 76 | 119 => 165 | 127 => 139 | 128 => 174 | 137 => 166 | 138 => 167 | 139 => 168 | 143 => 198 | 144 => 199 | 145 => 200 | 146 => 170 | 150 => 98 | 151 => 171 | 164 => 161 | 165 => 162 | 166 => 163 | 167 => 176 | 168 => 179 | 169 => 180 | 170 => 181 | 171 => 182 | 172 => 185 | 173 => 186 | 174 => 187 | 175 => 188 | 176 => 189 | 209 => 190 | 210 => 191 | 211 => 193 | 212 => 194 | 213 => 195 | 214 => 197 | 229 => 126 | 232 => 202 | 233 => 203 | 239 => 205 | 240 => 206 | 241 => 207 | 242 => 208 | 243 => 209 | 244 => 210 | 245 => 211 | 246 => 212 | 247 => 213 | 249 => 215 | n => n, fun | 1 => 0 | 3 => 1 | 4 => 2 | 15 => 3 | 16 => 4 | 17 => 5 | 18 => 6 | 19 => 7 | n => n⟩
theorem Tryz.laysM171 : LaysM.n171 Tryz.prog Tryz.laysM171_ren := {
  mixed := by kernel_rfl
  f129 := Tryz.func163.trans (congrArg some (by kernel_rfl))
  f171 := Tryz.func118.trans (congrArg some (by kernel_rfl))
  f243 := Tryz.func140.trans (congrArg some (by kernel_rfl))
  f246 := Tryz.func149.trans (congrArg some (by kernel_rfl))
  f283 := Tryz.func155.trans (congrArg some (by kernel_rfl))
  f284 := Tryz.func156.trans (congrArg some (by kernel_rfl))
  f285 := Tryz.func157.trans (congrArg some (by kernel_rfl))
  f286 := Tryz.func158.trans (congrArg some (by kernel_rfl))
  f317 := Tryz.func162.trans (congrArg some (by kernel_rfl))
  f318 := Tryz.func164.trans (congrArg some (by kernel_rfl))
  f319 := Tryz.func165.trans (congrArg some (by kernel_rfl))
  f320 := Tryz.func166.trans (congrArg some (by kernel_rfl))
  f337 := Tryz.func169.trans (congrArg some (by kernel_rfl))
  f338 := Tryz.func170.trans (congrArg some (by kernel_rfl))
  t0 := Tryz.underlying0
  a0 := Tryz.isAgg0
  z0 := Tryz.sizeOf0
  v0 := Tryz.zeroValue0
  t2 := Tryz.underlying2
  a2 := Tryz.isAgg2
  z2 := Tryz.sizeOf2
  v2 := Tryz.zeroValue2
  t3 := Tryz.underlying3
  a3 := Tryz.isAgg3
  z3 := Tryz.sizeOf3
  v3 := Tryz.zeroValue3
  t4 := Tryz.underlying4
  a4 := Tryz.isAgg4
  z4 := Tryz.sizeOf4
  v4 := Tryz.zeroValue4
  t5 := Tryz.underlying5
  a5 := Tryz.isAgg5
  z5 := Tryz.sizeOf5
  v5 := Tryz.zeroValue5
  t9 := Tryz.underlying9
  a9 := Tryz.isAgg9
  z9 := Tryz.sizeOf9
  v9 := Tryz.zeroValue9
  t20 := Tryz.underlying20
  a20 := Tryz.isAgg20
  z20 := Tryz.sizeOf20
  v20 := Tryz.zeroValue20
  t37 := Tryz.underlying31
  a37 := Tryz.isAgg31
  z37 := Tryz.sizeOf31
  v37 := Tryz.zeroValue31
  t46 := Tryz.underlying143
  a46 := Tryz.isAgg143
  z46 := Tryz.sizeOf143
  v46 := Tryz.zeroValue143
  t51 := Tryz.underlying169
  a51 := Tryz.isAgg169
  z51 := Tryz.sizeOf169
  v51 := Tryz.zeroValue169
  t53 := Tryz.underlying183
  a53 := Tryz.isAgg183
  z53 := Tryz.sizeOf183
  v53 := Tryz.zeroValue183
  t171 := Tryz.underlying182
  a171 := Tryz.isAgg182
  z171 := Tryz.sizeOf182
  v171 := Tryz.zeroValue182
  t173 := Tryz.underlying186
  a173 := Tryz.isAgg186
  z173 := Tryz.sizeOf186
  v173 := Tryz.zeroValue186
  t212 := Tryz.underlying194
  a212 := Tryz.isAgg194
  z212 := Tryz.sizeOf194
  v212 := Tryz.zeroValue194
  t213 := Tryz.underlying195
  a213 := Tryz.isAgg195
  z213 := Tryz.sizeOf195
  t232 := Tryz.underlying202
  a232 := Tryz.isAgg202
  z232 := Tryz.sizeOf202
  v232 := Tryz.zeroValue202
  t233 := Tryz.underlying203
  a233 := Tryz.isAgg203
  z233 := Tryz.sizeOf203
  v233 := Tryz.zeroValue203
  g17 := by kernel_rfl
  g18 := by kernel_rfl
  g19 := by kernel_rfl
  i0 := by kernel_rfl
  i2 := by kernel_rfl
  i3 := by kernel_rfl
  i4 := by kernel_rfl
  i5 := by kernel_rfl
  i9 := by kernel_rfl
  i20 := by kernel_rfl
  i37 := by kernel_rfl
  i46 := by kernel_rfl
  i51 := by kernel_rfl
  i53 := by kernel_rfl
  i171 := by kernel_rfl
  i173 := by kernel_rfl
  i212 := by kernel_rfl
  i232 := by kernel_rfl
  i233 := by kernel_rfl
  m17 := by kernel_rfl
  m18 := by kernel_rfl
  m19 := by kernel_rfl }
open Go.RowKit Go.Sort Go.Lib in
theorem Tryz.strconv_Itoa (n : Int) (h0 : -9223372036854775808 ≤ n) (h1 : n ≤ 9223372036854775807) (w : World) (htab : Lib.TabIs Tryz.prog w "internal/strconv.uint64pow10" .u64 Lib.pow10Tab) :
    Calls Tryz.prog 118 #[.int .i64 n] w fun e w' => e = .returned (.string ⟨(Lib.itoa n).toArray⟩) ∧ ∃ k os, w' = grow (w.drewN k) os := Any.strconv_Itoa Tryz.laysM171 n h0 h1 w htab
open Go.RowKit Go.Sort Go.Lib in
open Go.RowKit in
open Go.RowKit in
open Go.RowKit in
open Go.RowKit in
open Go.RowKit in
open Go.RowKit in
open Go.RowKit in
def Tryz.laysC172_ren : Go.Shelf.Ren := ⟨fun | 129 => 163 | 171 => 118 | 172 => 134 | 205 => 161 | 243 => 140 | 244 => 146 | 245 => 147 | 246 => 149 | 247 => 150 | 279 => 151 | 280 => 152 | 281 => 153 | 282 => 154 | 283 => 155 | 284 => 156 | 285 => 157 | 286 => 158 | 287 => 159 | 316 => 160 | 317 => 162 | 318 => 164 | 319 => 165 | 320 => 166 | 321 => 167 | 322 => 168 | 337 => 169 | 338 => 170 | n => n, fun | 0 => 0 | 1 => 1 | 2 => 2 | 3 => 3 | 4 => 4 | 5 => 5 | 6 => 6 | 7 => 7 | 8 => 8 | 9 => 9 | 10 => 10 | 11 => 11 | 12 => 12 | 13 => 13 | 14 => 14 | 15 => 15 | 16 => 16 | 17 => 17 | 18 => 18 | 19 => 19 | 20 => 20 | 21 => 21 | 22 => 159 | 27 => 99 | 28 => 22 | 29 => 48 | 31 => 23 | 32 => 173 | 33 => 154 | 37 => 31 | 41 => 115 | 42 => 144 | 43 => 30 | 46 => 143 | 47 => 196 | 48 => 84 | 51 => 169 | 52 => 201 | 53 => 183 | 54 => 184 | 55 => 133 | 57 => 100 | 61 => 38 | 67 => 83 | 69 => 93 | 70 => 109 | 71 => 110 | 72 => 111 | 73 => 112 | 74 => 69 | 75 => 70 | 76 => 113 | 77 => 114 | 78 => 123 | 80 => 58 | 81 => 118 | 83 => 92 | 84 => 175 | 85 => 177 | 86 => 178 | 103 => 130 | 104 => 94 | 105 => 131 | 106 => 132 | 108 => 192 | 111 => 52 | 113 => 82 | 114 => 76 | 119 => 165 | 127 => 139 | 128 => 174 | 137 => 166 | 138 => 167 | 139 => 168 | 143 => 198 | 144 => 199 | 145 => 200 | 146 => 170 | 150 => 98 | 151 => 171 | 164 => 161 | 165 => 162 | 166 => 163 | 167 => 176 | 168 => 179 | 169 => 180 | 170 => 181 | 171 => 182 | 172 => 185 | 173 => 186 | 174 => 187 | 175 => 188 | 176 => 189 | 209 => 190 | 210 => 191 | 211 => 193 | 212 => 194 | 213 => 195 | 214 => 197 | 229 => 126 | 232 => 202 | 233 => 203 | 239 => 205 | 240 => 206 | 241 => 207 | 242 => 208 | 243 => 209 | 244 => 210 | 245 => 211 | 246 => 212 | 247 => 213 | 249 => 215 | n => n, fun | 1 => 0 | 3 => 1 | 4 => 2 | 15 => 3 | 16 => 4 | 17 => 5 | 18 => 6 | 19 => 7 | n => n⟩
theorem Tryz.laysC172 : LaysC.n172 Tryz.prog Tryz.laysC172_ren := {
  mixed := by kernel_rfl
  f129 := Tryz.func163.trans (congrArg some (by kernel_rfl))
  f171 := Tryz.func118.trans (congrArg some (by kernel_rfl))
  f172 := Tryz.func134.trans (congrArg some (by kernel_rfl))
  f205 := Tryz.func161.trans (congrArg some (by kernel_rfl))
  f243 := Tryz.func140.trans (congrArg some (by kernel_rfl))
  f244 := Tryz.func146.trans (congrArg some (by kernel_rfl))
  f245 := Tryz.func147.trans (congrArg some (by kernel_rfl))
  f246 := Tryz.func149.trans (congrArg some (by kernel_rfl))
  f247 := Tryz.func150.trans (congrArg some (by kernel_rfl))
  f279 := Tryz.func151.trans (congrArg some (by kernel_rfl))
  f280 := Tryz.func152.trans (congrArg some (by kernel_rfl))
  f281 := Tryz.func153.trans (congrArg some (by kernel_rfl))
  f282 := Tryz.func154.trans (congrArg some (by kernel_rfl))
  f283 := Tryz.func155.trans (congrArg some (by kernel_rfl))
  f284 := Tryz.func156.trans (congrArg some (by kernel_rfl))
  f285 := Tryz.func157.trans (congrArg some (by kernel_rfl))
  f286 := Tryz.func158.trans (congrArg some (by kernel_rfl))
  f287 := Tryz.func159.trans (congrArg some (by kernel_rfl))
  f316 := Tryz.func160.trans (congrArg some (by kernel_rfl))
  f317 := Tryz.func162.trans (congrArg some (by kernel_rfl))
  f318 := Tryz.func164.trans (congrArg some (by kernel_rfl))
  f319 := Tryz.func165.trans (congrArg some (by kernel_rfl))
  f320 := Tryz.func166.trans (congrArg some (by kernel_rfl))
  f321 := Tryz.func167.trans (congrArg some (by kernel_rfl))
  f322 := Tryz.func168.trans (congrArg some (by kernel_rfl))
  f337 := Tryz.func169.trans (congrArg some (by kernel_rfl))
  f338 := Tryz.func170.trans (congrArg some (by kernel_rfl))
  t0 := Tryz.underlying0
  a0 := Tryz.isAgg0
  z0 := Tryz.sizeOf0
  v0 := Tryz.zeroValue0
  t2 := Tryz.underlying2
  a2 := Tryz.isAgg2
  z2 := Tryz.sizeOf2
  v2 := Tryz.zeroValue2
  t3 := Tryz.underlying3
  a3 := Tryz.isAgg3
  z3 := Tryz.sizeOf3
  v3 := Tryz.zeroValue3
  t4 := Tryz.underlying4
  a4 := Tryz.isAgg4
  z4 := Tryz.sizeOf4
  v4 := Tryz.zeroValue4
  t5 := Tryz.underlying5
  a5 := Tryz.isAgg5
  z5 := Tryz.sizeOf5
  v5 := Tryz.zeroValue5
  t9 := Tryz.underlying9
  a9 := Tryz.isAgg9
  z9 := Tryz.sizeOf9
  v9 := Tryz.zeroValue9
  t20 := Tryz.underlying20
  a20 := Tryz.isAgg20
  z20 := Tryz.sizeOf20
  v20 := Tryz.zeroValue20
  t21 := Tryz.underlying21
  a21 := Tryz.isAgg21
  z21 := Tryz.sizeOf21
  v21 := Tryz.zeroValue21
  t37 := Tryz.underlying31
  a37 := Tryz.isAgg31
  z37 := Tryz.sizeOf31
  v37 := Tryz.zeroValue31
  t46 := Tryz.underlying143
  a46 := Tryz.isAgg143
  z46 := Tryz.sizeOf143
  v46 := Tryz.zeroValue143
  t51 := Tryz.underlying169
  a51 := Tryz.isAgg169
  z51 := Tryz.sizeOf169
  v51 := Tryz.zeroValue169
  t53 := Tryz.underlying183
  a53 := Tryz.isAgg183
  z53 := Tryz.sizeOf183
  v53 := Tryz.zeroValue183
  t75 := Tryz.underlying70
  a75 := Tryz.isAgg70
  z75 := Tryz.sizeOf70
  v75 := Tryz.zeroValue70
  t76 := Tryz.underlying113
  a76 := Tryz.isAgg113
  z76 := Tryz.sizeOf113
  v76 := Tryz.zeroValue113
  t85 := Tryz.underlying177
  a85 := Tryz.isAgg177
  z85 := Tryz.sizeOf177
  v85 := Tryz.zeroValue177
  t127 := Tryz.underlying139
  a127 := Tryz.isAgg139
  z127 := Tryz.sizeOf139
  v127 := Tryz.zeroValue139
  t143 := Tryz.underlying198
  a143 := Tryz.isAgg198
  z143 := Tryz.sizeOf198
  v143 := Tryz.zeroValue198
  t145 := Tryz.underlying200
  a145 := Tryz.isAgg200
  z145 := Tryz.sizeOf200
  v145 := Tryz.zeroValue200
  t167 := Tryz.underlying176
  a167 := Tryz.isAgg176
  z167 := Tryz.sizeOf176
  v167 := Tryz.zeroValue176
  t168 := Tryz.underlying179
  a168 := Tryz.isAgg179
  z168 := Tryz.sizeOf179
  v168 := Tryz.zeroValue179
  t171 := Tryz.underlying182
  a171 := Tryz.isAgg182
  z171 := Tryz.sizeOf182
  v171 := Tryz.zeroValue182
  t173 := Tryz.underlying186
  a173 := Tryz.isAgg186
  z173 := Tryz.sizeOf186
  v173 := Tryz.zeroValue186
  t175 := Tryz.underlying188
  a175 := Tryz.isAgg188
  z175 := Tryz.sizeOf188
  v175 := Tryz.zeroValue188
  t210 := Tryz.underlying191
  a210 := Tryz.isAgg191
  z210 := Tryz.sizeOf191
  v210 := Tryz.zeroValue191
  t212 := Tryz.underlying194
  a212 := Tryz.isAgg194
  z212 := Tryz.sizeOf194
  v212 := Tryz.zeroValue194
  t213 := Tryz.underlying195
  a213 := Tryz.isAgg195
  z213 := Tryz.sizeOf195
  t232 := Tryz.underlying202
  a232 := Tryz.isAgg202
  z232 := Tryz.sizeOf202
  v232 := Tryz.zeroValue202
  t233 := Tryz.underlying203
  a233 := Tryz.isAgg203
  z233 := Tryz.sizeOf203
  v233 := Tryz.zeroValue203
  g15 := by kernel_rfl
  g16 := by kernel_rfl
  g17 := by kernel_rfl
  g18 := by kernel_rfl
  g19 := by kernel_rfl
  t80 := Tryz.underlying58
  a80 := Tryz.isAgg58
  z80 := Tryz.sizeOf58
  v80 := Tryz.zeroValue58
  i0 := by kernel_rfl
  i2 := by kernel_rfl
  i3 := by kernel_rfl
  i4 := by kernel_rfl
  i5 := by kernel_rfl
  i9 := by kernel_rfl
  i20 := by kernel_rfl
  i21 := by kernel_rfl
  i37 := by kernel_rfl
  i46 := by kernel_rfl
  i51 := by kernel_rfl
  i53 := by kernel_rfl
  i75 := by kernel_rfl
  i76 := by kernel_rfl
  i80 := by kernel_rfl
  i85 := by kernel_rfl
  i127 := by kernel_rfl
  i143 := by kernel_rfl
  i145 := by kernel_rfl
  i167 := by kernel_rfl
  i168 := by kernel_rfl
  i171 := by kernel_rfl
  i173 := by kernel_rfl
  i175 := by kernel_rfl
  i210 := by kernel_rfl
  i212 := by kernel_rfl
  i232 := by kernel_rfl
  i233 := by kernel_rfl
  m15 := by kernel_rfl
  m16 := by kernel_rfl
  m17 := by kernel_rfl
  m18 := by kernel_rfl
  m19 := by kernel_rfl
  c0 := by kernel_rfl
  c2 := by kernel_rfl
  c3 := by kernel_rfl
  c4 := by kernel_rfl
  c5 := by kernel_rfl
  c9 := by kernel_rfl
  c20 := by kernel_rfl
  c21 := by kernel_rfl
  c37 := by kernel_rfl
  c46 := by kernel_rfl
  c51 := by kernel_rfl
  c53 := by kernel_rfl
  c75 := by kernel_rfl
  c76 := by kernel_rfl
  c80 := by kernel_rfl
  c85 := by kernel_rfl
  c127 := by kernel_rfl
  c143 := by kernel_rfl
  c145 := by kernel_rfl
  c167 := by kernel_rfl
  c168 := by kernel_rfl
  c171 := by kernel_rfl
  c173 := by kernel_rfl
  c175 := by kernel_rfl
  c210 := by kernel_rfl
  c212 := by kernel_rfl
  c213 := by kernel_rfl
  c232 := by kernel_rfl
  c233 := by kernel_rfl }
open Go.RowKit in
open Go.RowKit in
open Go.RowKit in
open Go.RowKit in
open Go.RowKit in
open Go.RowKit in
open Go.RowKit in
open Go.RowKit in
open Go.RowKit in
open Go.RowKit in
open Go.RowKit in
theorem Tryz.strconv_Atoi_ok (s : ByteArray) (hmax : s.size ≤ 9223372036854775806) (v : Int) (h : Lib.atoiAll s.data.toList = .ok v) (w : World) :
    Calls Tryz.prog 134 #[.string s] w fun e w' => e = .returned (.tuple #[.int .i64 v, .nilIface]) ∧ (w' = w ∨ ∃ t, w' = Lib.bytesWorld w 5 t) := Any.strconv_Atoi_ok Tryz.laysC172 s hmax v h w
open Go.RowKit in
open Go.RowKit in
open Go.RowKit in
theorem Tryz.strconv_Atoi_syntax_var (s : ByteArray) (hlim : s.size ≤ 281474976710656) (h : Lib.atoiAll s.data.toList = Lib.atoiAll []) (tp : TypeId) (p : Value) (w : World) (hvar : w.var? Tryz.prog "strconv.ErrSyntax" = some #[.iface tp p]) :
    Calls Tryz.prog 134 #[.string s] w fun e w' => ∃ N, e = .returned (.tuple #[.int .i64 0, .iface 179 (.pointer (some ⟨N, 0, none⟩))]) ∧ w.heap.size ≤ N ∧ w'.heap[N]? = some (.cells #[.string ⟨#[65, 116, 111, 105]⟩, .string s, .iface tp p] 191 (0, 0)) ∧ Below w.heap.size w w' := Any.strconv_Atoi_syntax_var Tryz.laysC172 s hlim h tp p w hvar
open Go.RowKit in
theorem Tryz.strconv_Atoi_range_var (s : ByteArray) (hlim : s.size ≤ 281474976710656) (h : Lib.atoiAll s.data.toList = .range) (tp : TypeId) (p : Value) (w : World) (hvar : w.var? Tryz.prog "strconv.ErrRange" = some #[.iface tp p]) :
    Calls Tryz.prog 134 #[.string s] w fun e w' => ∃ N, e = .returned (.tuple #[.int .i64 (Lib.atoiSat s.data.toList), .iface 179 (.pointer (some ⟨N, 0, none⟩))]) ∧ w.heap.size ≤ N ∧ w'.heap[N]? = some (.cells #[.string ⟨#[65, 116, 111, 105]⟩, .string s, .iface tp p] 191 (0, 0)) ∧ Below w.heap.size w w' := Any.strconv_Atoi_range_var Tryz.laysC172 s hlim h tp p w hvar
open Go.RowKit in
open Go.RowKit in
open Go.RowKit in
open Go.RowKit in
open Go.RowKit in
open Go.RowKit in
open Go.RowKit in
open Go.RowKit in
open Go.RowKit in
open Go.RowKit in
open Go.RowKit in
open Go.RowKit in
open Go.RowKit in
open Go.RowKit in
open Go.RowKit in
open Go.RowKit in
open Go.RowKit in
open Go.RowKit in
open Go.RowKit in
open Go.RowKit Go.Lib in
open Go.RowKit Go.Lib in
open Go.RowKit Go.Lib in
open Go.RowKit Go.Lib in
open Go.RowKit Go.Lib in
open Go.RowKit Go.Lib in
def Tryz.lays143_ren : Go.Shelf.Ren := ⟨fun | 143 => 72 | 217 => 127 | 219 => 102 | 224 => 129 | 225 => 128 | 266 => 143 | 267 => 130 | 314 => 144 | n => n, fun | 0 => 0 | 1 => 1 | 2 => 2 | 3 => 3 | 4 => 4 | 5 => 5 | 6 => 6 | 7 => 7 | 8 => 8 | 9 => 9 | 10 => 10 | 11 => 11 | 12 => 12 | 13 => 13 | 14 => 14 | 15 => 15 | 16 => 16 | 17 => 17 | 18 => 18 | 19 => 19 | 20 => 20 | 21 => 21 | 22 => 159 | 27 => 99 | 28 => 22 | 29 => 48 | 31 => 23 | 32 => 173 | 33 => 154 | 37 => 31 | 41 => 115 | 42 => 144 | 43 => 30 | 46 => 143 | 47 => 196 | 48 => 84 | 51 => 169 | 52 => 201 | 53 => 183 | 54 => 184 | 55 => 133 | 57 => 100 | 61 => 38 | 67 => 83 | 69 => 93 | 70 => 109 | 71 => 110 | 72 => 111 | 73 => 112 | 74 => 69 | 75 => 70 | 76 => 113 | 77 => 114 | 78 => 123 | 80 => 58 | 81 => 118 | 83 => 92 | 84 => 175 | 85 => 177 | 86 => 178 | 103 => 130 | 104 => 94 | 105 => 131 | 106 => 132 | 108 => 192 | 111 => 52 | 113 => 82 | 114 => 76 | 119 => 165 | 127 => 139 | 128 => 174 | 137 => 166 | 138 => 167 | 139 => 168 | 143 => 198 | 144 => 199 | 145 => 200 | 146 => 170 | 150 => 98 | 151 => 171 | 164 => 161 | 165 => 162 | 166 => 163 | 167 => 176 | 168 => 179 | 169 => 180 | 170 => 181 | 171 => 182 | 172 => 185 | 173 => 186 | 174 => 187 | 175 => 188 | 176 => 189 | 209 => 190 | 210 => 191 | 211 => 193 | 212 => 194 | 213 => 195 | 214 => 197 | 229 => 126 | 232 => 202 | 233 => 203 | 239 => 205 | 240 => 206 | 241 => 207 | 242 => 208 | 243 => 209 | 244 => 210 | 245 => 211 | 246 => 212 | 247 => 213 | 249 => 215 | n => n, fun | 1 => 0 | 3 => 1 | 4 => 2 | 15 => 3 | 16 => 4 | 17 => 5 | 18 => 6 | 19 => 7 | n => n⟩
theorem Tryz.lays143 : Lays.n143 Tryz.prog Tryz.lays143_ren := {
  mixed := by kernel_rfl
  f143 := Tryz.func72.trans (congrArg some (by kernel_rfl))
  f217 := Tryz.func127.trans (congrArg some (by kernel_rfl))
  f219 := Tryz.func102.trans (congrArg some (by kernel_rfl))
  f224 := Tryz.func129.trans (congrArg some (by kernel_rfl))
  f225 := Tryz.func128.trans (congrArg some (by kernel_rfl))
  f266 := Tryz.func143.trans (congrArg some (by kernel_rfl))
  f267 := Tryz.func130.trans (congrArg some (by kernel_rfl))
  f314 := Tryz.func144.trans (congrArg some (by kernel_rfl))
  t3 := Tryz.underlying3
  a3 := Tryz.isAgg3
  z3 := Tryz.sizeOf3
  v3 := Tryz.zeroValue3
  t4 := Tryz.underlying4
  a4 := Tryz.isAgg4
  z4 := Tryz.sizeOf4
  v4 := Tryz.zeroValue4
  t5 := Tryz.underlying5
  a5 := Tryz.isAgg5
  z5 := Tryz.sizeOf5
  v5 := Tryz.zeroValue5
  t9 := Tryz.underlying9
  a9 := Tryz.isAgg9
  z9 := Tryz.sizeOf9
  v9 := Tryz.zeroValue9
  t46 := Tryz.underlying143
  a46 := Tryz.isAgg143
  z46 := Tryz.sizeOf143
  v46 := Tryz.zeroValue143
  t51 := Tryz.underlying169
  a51 := Tryz.isAgg169
  z51 := Tryz.sizeOf169
  v51 := Tryz.zeroValue169
  t146 := Tryz.underlying170
  a146 := Tryz.isAgg170
  z146 := Tryz.sizeOf170
  v146 := Tryz.zeroValue170
  g1 := by kernel_rfl }
open Go.RowKit Go.Lib in
theorem Tryz.strings_Index_one (s : ByteArray) (c : UInt8) (w : World) :
    Calls Tryz.prog 72 #[.string s, .string ⟨#[c]⟩] w fun e w' => e = .returned (.int .i64 (Lib.indexByte s.data.toList c)) ∧ w' = w := Any.strings_Index_one Tryz.lays143 s c w
open Go.RowKit Go.Lib in
def Tryz.lays138_ren : Go.Shelf.Ren := ⟨fun | 138 => 71 | 143 => 72 | 195 => 99 | 217 => 127 | 218 => 101 | 219 => 102 | 224 => 129 | 225 => 128 | 266 => 143 | 267 => 130 | 314 => 144 | n => n, fun | 0 => 0 | 1 => 1 | 2 => 2 | 3 => 3 | 4 => 4 | 5 => 5 | 6 => 6 | 7 => 7 | 8 => 8 | 9 => 9 | 10 => 10 | 11 => 11 | 12 => 12 | 13 => 13 | 14 => 14 | 15 => 15 | 16 => 16 | 17 => 17 | 18 => 18 | 19 => 19 | 20 => 20 | 21 => 21 | 22 => 159 | 27 => 99 | 28 => 22 | 29 => 48 | 31 => 23 | 32 => 173 | 33 => 154 | 37 => 31 | 41 => 115 | 42 => 144 | 43 => 30 | 46 => 143 | 47 => 196 | 48 => 84 | 51 => 169 | 52 => 201 | 53 => 183 | 54 => 184 | 55 => 133 | 57 => 100 | 61 => 38 | 67 => 83 | 69 => 93 | 70 => 109 | 71 => 110 | 72 => 111 | 73 => 112 | 74 => 69 | 75 => 70 | 76 => 113 | 77 => 114 | 78 => 123 | 80 => 58 | 81 => 118 | 83 => 92 | 84 => 175 | 85 => 177 | 86 => 178 | 103 => 130 | 104 => 94 | 105 => 131 | 106 => 132 | 108 => 192 | 111 => 52 | 113 => 82 | 114 => 76 | 119 => 165 | 127 => 139 | 128 => 174 | 137 => 166 | 138 => 167 | 139 => 168 | 143 => 198 | 144 => 199 | 145 => 200 | 146 => 170 | 150 => 98 | 151 => 171 | 164 => 161 | 165 => 162 | 166 => 163 | 167 => 176 | 168 => 179 | 169 => 180 | 170 => 181 | 171 => 182 | 172 => 185 | 173 => 186 | 174 => 187 | 175 => 188 | 176 => 189 | 209 => 190 | 210 => 191 | 211 => 193 | 212 => 194 | 213 => 195 | 214 => 197 | 229 => 126 | 232 => 202 | 233 => 203 | 239 => 205 | 240 => 206 | 241 => 207 | 242 => 208 | 243 => 209 | 244 => 210 | 245 => 211 | 246 => 212 | 247 => 213 | 249 => 215 | n => n, fun | 1 => 0 | 3 => 1 | 4 => 2 | 15 => 3 | 16 => 4 | 17 => 5 | 18 => 6 | 19 => 7 | n => n⟩
theorem Tryz.lays138 : Lays.n138 Tryz.prog Tryz.lays138_ren := {
  mixed := by kernel_rfl
  f138 := Tryz.func71.trans (congrArg some (by kernel_rfl))
  f143 := Tryz.func72.trans (congrArg some (by kernel_rfl))
  f195 := Tryz.func99.trans (congrArg some (by kernel_rfl))
  f217 := Tryz.func127.trans (congrArg some (by kernel_rfl))
  f218 := Tryz.func101.trans (congrArg some (by kernel_rfl))
  f219 := Tryz.func102.trans (congrArg some (by kernel_rfl))
  f224 := Tryz.func129.trans (congrArg some (by kernel_rfl))
  f225 := Tryz.func128.trans (congrArg some (by kernel_rfl))
  f266 := Tryz.func143.trans (congrArg some (by kernel_rfl))
  f267 := Tryz.func130.trans (congrArg some (by kernel_rfl))
  f314 := Tryz.func144.trans (congrArg some (by kernel_rfl))
  t0 := Tryz.underlying0
  a0 := Tryz.isAgg0
  z0 := Tryz.sizeOf0
  v0 := Tryz.zeroValue0
  t3 := Tryz.underlying3
  a3 := Tryz.isAgg3
  z3 := Tryz.sizeOf3
  v3 := Tryz.zeroValue3
  t4 := Tryz.underlying4
  a4 := Tryz.isAgg4
  z4 := Tryz.sizeOf4
  v4 := Tryz.zeroValue4
  t5 := Tryz.underlying5
  a5 := Tryz.isAgg5
  z5 := Tryz.sizeOf5
  v5 := Tryz.zeroValue5
  t9 := Tryz.underlying9
  a9 := Tryz.isAgg9
  z9 := Tryz.sizeOf9
  v9 := Tryz.zeroValue9
  t46 := Tryz.underlying143
  a46 := Tryz.isAgg143
  z46 := Tryz.sizeOf143
  v46 := Tryz.zeroValue143
  t51 := Tryz.underlying169
  a51 := Tryz.isAgg169
  z51 := Tryz.sizeOf169
  v51 := Tryz.zeroValue169
  t146 := Tryz.underlying170
  a146 := Tryz.isAgg170
  z146 := Tryz.sizeOf170
  v146 := Tryz.zeroValue170
  g1 := by kernel_rfl }
open Go.RowKit Go.Lib in
theorem Tryz.strings_Count_one (s : ByteArray) (c : UInt8) (w : World) :
    Calls Tryz.prog 71 #[.string s, .string ⟨#[c]⟩] w fun e w' => e = .returned (.int .i64 (Lib.countByte s.data.toList c)) ∧ w' = w := Any.strings_Count_one Tryz.lays138 s c w
open Go.RowKit Go.Lib in
open Go.RowKit Go.Lib in
def Tryz.lays99_ren : Go.Shelf.Ren := ⟨fun | 99 => 135 | 206 => 148 | n => n, fun | 0 => 0 | 1 => 1 | 2 => 2 | 3 => 3 | 4 => 4 | 5 => 5 | 6 => 6 | 7 => 7 | 8 => 8 | 9 => 9 | 10 => 10 | 11 => 11 | 12 => 12 | 13 => 13 | 14 => 14 | 15 => 15 | 16 => 16 | 17 => 17 | 18 => 18 | 19 => 19 | 20 => 20 | 21 => 21 | 22 => 159 | 27 => 99 | 28 => 22 | 29 => 48 | 31 => 23 | 32 => 173 | 33 => 154 | 37 => 31 | 41 => 115 | 42 => 144 | 43 => 30 | 46 => 143 | 47 => 196 | 48 => 84 | 51 => 169 | 52 => 201 | 53 => 183 | 54 => 184 | 55 => 133 | 57 => 100 | 61 => 38 | 67 => 83 | 69 => 93 | 70 => 109 | 71 => 110 | 72 => 111 | 73 => 112 | 74 => 69 | 75 => 70 | 76 => 113 | 77 => 114 | 78 => 123 | 80 => 58 | 81 => 118 | 83 => 92 | 84 => 175 | 85 => 177 | 86 => 178 | 103 => 130 | 104 => 94 | 105 => 131 | 106 => 132 | 108 => 192 | 111 => 52 | 113 => 82 | 114 => 76 | 119 => 165 | 127 => 139 | 128 => 174 | 137 => 166 | 138 => 167 | 139 => 168 | 143 => 198 | 144 => 199 | 145 => 200 | 146 => 170 | 150 => 98 | 151 => 171 | 164 => 161 | 165 => 162 | 166 => 163 | 167 => 176 | 168 => 179 | 169 => 180 | 170 => 181 | 171 => 182 | 172 => 185 | 173 => 186 | 174 => 187 | 175 => 188 | 176 => 189 | 209 => 190 | 210 => 191 | 211 => 193 | 212 => 194 | 213 => 195 | 214 => 197 | 229 => 126 | 232 => 202 | 233 => 203 | 239 => 205 | 240 => 206 | 241 => 207 | 242 => 208 | 243 => 209 | 244 => 210 | 245 => 211 | 246 => 212 | 247 => 213 | 249 => 215 | n => n, fun | 1 => 0 | 3 => 1 | 4 => 2 | 15 => 3 | 16 => 4 | 17 => 5 | 18 => 6 | 19 => 7 | n => n⟩
theorem Tryz.lays99 : Lays.n99 Tryz.prog Tryz.lays99_ren := {
  mixed := by kernel_rfl
  f99 := Tryz.func135.trans (congrArg some (by kernel_rfl))
  f206 := Tryz.func148.trans (congrArg some (by kernel_rfl))
  t3 := Tryz.underlying3
  a3 := Tryz.isAgg3
  z3 := Tryz.sizeOf3
  v3 := Tryz.zeroValue3
  t4 := Tryz.underlying4
  a4 := Tryz.isAgg4
  z4 := Tryz.sizeOf4
  v4 := Tryz.zeroValue4
  t9 := Tryz.underlying9
  a9 := Tryz.isAgg9
  z9 := Tryz.sizeOf9
  v9 := Tryz.zeroValue9 }
open Go.RowKit Go.Lib in
theorem Tryz.strings_HasPrefix (s p : ByteArray) (w : World) :
    Calls Tryz.prog 135 #[.string s, .string p] w fun e w' => e = .returned (.bool (Lib.hasPrefix s.data.toList p.data.toList)) ∧ w' = w := Any.strings_HasPrefix Tryz.lays99 s p w
open Go.RowKit Go.Lib in
open Go.RowKit Go.Lib in
open Go.RowKit Go.Lib in
open Go.RowKit Go.Lib in
open Go.RowKit Go.Lib in
open Go.RowKit Go.Lib in
open Go.RowKit Go.Lib in
open Go.RowKit Go.Lib in
open Go.RowKit Go.Lib in
open Go.RowKit Go.Lib in
open Go.RowKit in
open Go.RowKit in
open Go.Lib in
open Go.Lib in
def Tryz.lays110_ren : Go.Shelf.Ren := ⟨fun | 109 => 145 | 110 => 132 | n => n, fun | 0 => 0 | 1 => 1 | 2 => 2 | 3 => 3 | 4 => 4 | 5 => 5 | 6 => 6 | 7 => 7 | 8 => 8 | 9 => 9 | 10 => 10 | 11 => 11 | 12 => 12 | 13 => 13 | 14 => 14 | 15 => 15 | 16 => 16 | 17 => 17 | 18 => 18 | 19 => 19 | 20 => 20 | 21 => 21 | 22 => 159 | 27 => 99 | 28 => 22 | 29 => 48 | 31 => 23 | 32 => 173 | 33 => 154 | 37 => 31 | 41 => 115 | 42 => 144 | 43 => 30 | 46 => 143 | 47 => 196 | 48 => 84 | 51 => 169 | 52 => 201 | 53 => 183 | 54 => 184 | 55 => 133 | 57 => 100 | 61 => 38 | 67 => 83 | 69 => 93 | 70 => 109 | 71 => 110 | 72 => 111 | 73 => 112 | 74 => 69 | 75 => 70 | 76 => 113 | 77 => 114 | 78 => 123 | 80 => 58 | 81 => 118 | 83 => 92 | 84 => 175 | 85 => 177 | 86 => 178 | 103 => 130 | 104 => 94 | 105 => 131 | 106 => 132 | 108 => 192 | 111 => 52 | 113 => 82 | 114 => 76 | 119 => 165 | 127 => 139 | 128 => 174 | 137 => 166 | 138 => 167 | 139 => 168 | 143 => 198 | 144 => 199 | 145 => 200 | 146 => 170 | 150 => 98 | 151 => 171 | 164 => 161 | 165 => 162 | 166 => 163 | 167 => 176 | 168 => 179 | 169 => 180 | 170 => 181 | 171 => 182 | 172 => 185 | 173 => 186 | 174 => 187 | 175 => 188 | 176 => 189 | 209 => 190 | 210 => 191 | 211 => 193 | 212 => 194 | 213 => 195 | 214 => 197 | 229 => 126 | 232 => 202 | 233 => 203 | 239 => 205 | 240 => 206 | 241 => 207 | 242 => 208 | 243 => 209 | 244 => 210 | 245 => 211 | 246 => 212 | 247 => 213 | 249 => 215 | n => n, fun | 1 => 0 | 3 => 1 | 4 => 2 | 15 => 3 | 16 => 4 | 17 => 5 | 18 => 6 | 19 => 7 | n => n⟩
theorem Tryz.lays110 : Lays.n110 Tryz.prog Tryz.lays110_ren := {
  mixed := by kernel_rfl
  f109 := Tryz.func145.trans (congrArg some (by kernel_rfl))
  f110 := Tryz.func132.trans (congrArg some (by kernel_rfl))
  t0 := Tryz.underlying0
  a0 := Tryz.isAgg0
  z0 := Tryz.sizeOf0
  v0 := Tryz.zeroValue0
  t3 := Tryz.underlying3
  a3 := Tryz.isAgg3
  z3 := Tryz.sizeOf3
  v3 := Tryz.zeroValue3
  t4 := Tryz.underlying4
  a4 := Tryz.isAgg4
  z4 := Tryz.sizeOf4
  v4 := Tryz.zeroValue4
  t9 := Tryz.underlying9
  a9 := Tryz.isAgg9
  z9 := Tryz.sizeOf9
  v9 := Tryz.zeroValue9
  t31 := Tryz.underlying23
  a31 := Tryz.isAgg23
  z31 := Tryz.sizeOf23
  v31 := Tryz.zeroValue23 }
open Go.Lib in
theorem Tryz.slices_Contains_string (b off n c : Nat) (zs : List ByteArray) (x : ByteArray) (w : World) (hz : n ≤ zs.length) (hbig : n ≤ 9223372036854775807) (hc : ∀ j, j < zs.length → w.cell? ⟨b, off + j, none⟩ = some (.string (zs.getD j ByteArray.empty))) :
    Calls Tryz.prog 132 #[.slice (some ⟨b, off, none⟩) n c, .string x] w fun e w' => e = .returned (.bool (Lib.containsS (zs.take n) x)) ∧ w' = w := Any.slices_Contains_string Tryz.lays110 b off n c zs x w hz hbig hc
open Go.Lib in
theorem Tryz.slices_Contains_string_empty (a : Option Addr) (c : Nat) (x : ByteArray) (w : World) :
    Calls Tryz.prog 132 #[.slice a 0 c, .string x] w fun e w' => e = .returned (.bool false) ∧ w' = w := Any.slices_Contains_string_empty Tryz.lays110 a c x w
end Go.Proofs
