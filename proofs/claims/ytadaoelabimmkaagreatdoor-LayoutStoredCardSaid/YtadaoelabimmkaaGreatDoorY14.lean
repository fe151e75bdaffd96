/-
  PLAIN LEAN: the bits of bytes, as text.; THE LIBRARY's FUNCTIONS THAT ARE CALLED HERE LIE IN THE SHELF (written by the kit's lay-plain.mjs).; digits[uint8] at eight digits, by 256 closed runs.; bytesOf: the bits of bytes, written by a strings.Builder.
-/
import Derived.Test.YtadaoelabimmkaaGreatDoorY12
import Derived.Shelf.Small.Strs
import Derived.Shelf.Strings.Count
import Derived.Shelf.Strings.Search3
import Derived.Shelf.Strings.Prefix
import Derived.Shelf.Strings.LastIndex
import Derived.Shelf.Strings.IndexAnyAll
import Derived.Shelf.Strings.SlTrimAscii
import Derived.Shelf.Strings.Repeat
import Derived.Shelf.Strconv.Atoi
import Derived.Test.YtadaoelabimmkaaGreatDoorChecked
import Derived.Test.YtadaoelabimmkaaGreatDoorY13
import Derived.Shelf.Strings.BuilderF
import Derived.WalkKit
import Derived.Deep.LoopGhost
import Derived.Deep.DeepFit
set_option linter.all false
namespace Go.Yec
open Go
def bitsB (c : UInt8) : List UInt8:=[7, 6, 5, 4, 3, 2, 1, 0].map fun i=>(48 + c.toNat / 2 ^ i % 2).toUInt8
def hBits (s : List UInt8) : List UInt8:=s.flatMap bitsB
def x7K (s : List UInt8) : Bool:=hSz 65536 s
theorem hBits_len (s : List UInt8) : (hBits s).length = 8 * s.length:=by
  induction s with
  | nil=>rfl
  | cons c s ih =>
    have e : hBits (c :: s) = bitsB c ++ hBits s:=rfl
    rw [e,List.length_append,ih]
    simp [bitsB]
    omega
theorem hBits_take {s : List UInt8} {i : Nat} (h : i < s.length) : hBits (s.take (i + 1)) = hBits (s.take i) ++ bitsB s[i]:=by
  unfold hBits
  have e : s.take (i + 1) = s.take i ++ [s[i]]:=by rw [List.take_append_getElem h]
  rw [e,List.flatMap_append]
  simp
end Go.Yec
namespace Go.Proofs
open Go.Shelf
def Tryz.lays137_ren : Go.Shelf.Ren:=⟨fun | 137=> 189 | 217=> 214 | 266=> 230 | n=>n,fun | 9=> 9 | 5=> 5 | 3=> 3 | n=>n,fun | n=>n⟩
theorem Tryz.lays137 : Go.Proofs.Lays.n137 Tryz.prog Tryz.lays137_ren:= {
  mixed:=by kernel_rfl
  f137:=Tryz.func189.trans (congrArg some (by kernel_rfl))
  f217:=Tryz.func214.trans (congrArg some (by kernel_rfl))
  f266:=Tryz.func230.trans (congrArg some (by kernel_rfl))
  t3:=Tryz.underlying3
  a3:=Tryz.isAgg3
  z3:=Tryz.sizeOf3
  v3:=Tryz.zeroValue3
  t5:=Tryz.underlying5
  a5:=Tryz.isAgg5
  z5:=Tryz.sizeOf5
  v5:=Tryz.zeroValue5
  t9:=Tryz.underlying9
  a9:=Tryz.isAgg9
  z9:=Tryz.sizeOf9
  v9:=Tryz.zeroValue9 }
def Tryz.lays138_ren : Go.Shelf.Ren:=⟨fun | 138=> 197 | 195=> 220 | 218=> 221 | 143=> 199 | 219=> 223 | 217=> 214 | 225=> 219 | 224=> 218 | 267=> 231 | 266=> 230 | 314=> 235 | n=>n,fun | 9=> 9 | 3=> 3 | 4=> 4 | 5=> 5 | 0=> 0 | 46=> 94 | 146=> 171 | 51=> 167 | n=>n,fun | 1=> 0 | n=>n⟩
theorem Tryz.lays138 : Go.Proofs.Lays.n138 Tryz.prog Tryz.lays138_ren:= {
  mixed:=by kernel_rfl
  f138:=Tryz.func197.trans (congrArg some (by kernel_rfl))
  f143:=Tryz.func199.trans (congrArg some (by kernel_rfl))
  f195:=Tryz.func220.trans (congrArg some (by kernel_rfl))
  f217:=Tryz.func214.trans (congrArg some (by kernel_rfl))
  f218:=Tryz.func221.trans (congrArg some (by kernel_rfl))
  f219:=Tryz.func223.trans (congrArg some (by kernel_rfl))
  f224:=Tryz.func218.trans (congrArg some (by kernel_rfl))
  f225:=Tryz.func219.trans (congrArg some (by kernel_rfl))
  f266:=Tryz.func230.trans (congrArg some (by kernel_rfl))
  f267:=Tryz.func231.trans (congrArg some (by kernel_rfl))
  f314:=Tryz.func235.trans (congrArg some (by kernel_rfl))
  t0:=Tryz.underlying0
  a0:=Tryz.isAgg0
  z0:=Tryz.sizeOf0
  v0:=Tryz.zeroValue0
  t3:=Tryz.underlying3
  a3:=Tryz.isAgg3
  z3:=Tryz.sizeOf3
  v3:=Tryz.zeroValue3
  t4:=Tryz.underlying4
  a4:=Tryz.isAgg4
  z4:=Tryz.sizeOf4
  v4:=Tryz.zeroValue4
  t5:=Tryz.underlying5
  a5:=Tryz.isAgg5
  z5:=Tryz.sizeOf5
  v5:=Tryz.zeroValue5
  t9:=Tryz.underlying9
  a9:=Tryz.isAgg9
  z9:=Tryz.sizeOf9
  v9:=Tryz.zeroValue9
  t46:=Tryz.underlying94
  a46:=Tryz.isAgg94
  z46:=Tryz.sizeOf94
  v46:=Tryz.zeroValue94
  t51:=Tryz.underlying167
  a51:=Tryz.isAgg167
  z51:=Tryz.sizeOf167
  v51:=Tryz.zeroValue167
  t146:=Tryz.underlying171
  a146:=Tryz.isAgg171
  z146:=Tryz.sizeOf171
  v146:=Tryz.zeroValue171
  g1:=by kernel_rfl }
def Tryz.lays144_ren : Go.Shelf.Ren:=⟨fun | 144=> 164 | 143=> 199 | 219=> 223 | 217=> 214 | 225=> 219 | 224=> 218 | 267=> 231 | 266=> 230 | 314=> 235 | n=>n,fun | 9=> 9 | 4=> 4 | 3=> 3 | 5=> 5 | 46=> 94 | 146=> 171 | 51=> 167 | n=>n,fun | 1=> 0 | n=>n⟩
theorem Tryz.lays144 : Go.Proofs.Lays.n144 Tryz.prog Tryz.lays144_ren:= {
  mixed:=by kernel_rfl
  f143:=Tryz.func199.trans (congrArg some (by kernel_rfl))
  f144:=Tryz.func164.trans (congrArg some (by kernel_rfl))
  f217:=Tryz.func214.trans (congrArg some (by kernel_rfl))
  f219:=Tryz.func223.trans (congrArg some (by kernel_rfl))
  f224:=Tryz.func218.trans (congrArg some (by kernel_rfl))
  f225:=Tryz.func219.trans (congrArg some (by kernel_rfl))
  f266:=Tryz.func230.trans (congrArg some (by kernel_rfl))
  f267:=Tryz.func231.trans (congrArg some (by kernel_rfl))
  f314:=Tryz.func235.trans (congrArg some (by kernel_rfl))
  t3:=Tryz.underlying3
  a3:=Tryz.isAgg3
  z3:=Tryz.sizeOf3
  v3:=Tryz.zeroValue3
  t4:=Tryz.underlying4
  a4:=Tryz.isAgg4
  z4:=Tryz.sizeOf4
  v4:=Tryz.zeroValue4
  t5:=Tryz.underlying5
  a5:=Tryz.isAgg5
  z5:=Tryz.sizeOf5
  v5:=Tryz.zeroValue5
  t9:=Tryz.underlying9
  a9:=Tryz.isAgg9
  z9:=Tryz.sizeOf9
  v9:=Tryz.zeroValue9
  t46:=Tryz.underlying94
  a46:=Tryz.isAgg94
  z46:=Tryz.sizeOf94
  v46:=Tryz.zeroValue94
  t51:=Tryz.underlying167
  a51:=Tryz.isAgg167
  z51:=Tryz.sizeOf167
  v51:=Tryz.zeroValue167
  t146:=Tryz.underlying171
  a146:=Tryz.isAgg171
  z146:=Tryz.sizeOf171
  v146:=Tryz.zeroValue171
  g1:=by kernel_rfl }
def Tryz.lays100_ren : Go.Shelf.Ren:=⟨fun | 100=> 162 | 207=> 196 | n=>n,fun | 9=> 9 | 4=> 4 | 3=> 3 | n=>n,fun | n=>n⟩
theorem Tryz.lays100 : Go.Proofs.Lays.n100 Tryz.prog Tryz.lays100_ren:= {
  mixed:=by kernel_rfl
  f100:=Tryz.func162.trans (congrArg some (by kernel_rfl))
  f207:=Tryz.func196.trans (congrArg some (by kernel_rfl))
  t3:=Tryz.underlying3
  a3:=Tryz.isAgg3
  z3:=Tryz.sizeOf3
  v3:=Tryz.zeroValue3
  t4:=Tryz.underlying4
  a4:=Tryz.isAgg4
  z4:=Tryz.sizeOf4
  v4:=Tryz.zeroValue4
  t9:=Tryz.underlying9
  a9:=Tryz.isAgg9
  z9:=Tryz.sizeOf9
  v9:=Tryz.zeroValue9 }
def Tryz.lays149_ren : Go.Shelf.Ren:=⟨fun | 149=> 198 | 222=> 222 | n=>n,fun | 9=> 9 | 5=> 5 | 3=> 3 | 4=> 4 | n=>n,fun | n=>n⟩
theorem Tryz.lays149 : Go.Proofs.Lays.n149 Tryz.prog Tryz.lays149_ren:= {
  mixed:=by kernel_rfl
  f149:=Tryz.func198.trans (congrArg some (by kernel_rfl))
  f222:=Tryz.func222.trans (congrArg some (by kernel_rfl))
  t3:=Tryz.underlying3
  a3:=Tryz.isAgg3
  z3:=Tryz.sizeOf3
  v3:=Tryz.zeroValue3
  t4:=Tryz.underlying4
  a4:=Tryz.isAgg4
  z4:=Tryz.sizeOf4
  v4:=Tryz.zeroValue4
  t5:=Tryz.underlying5
  a5:=Tryz.isAgg5
  z5:=Tryz.sizeOf5
  v5:=Tryz.zeroValue5
  t9:=Tryz.underlying9
  a9:=Tryz.isAgg9
  z9:=Tryz.sizeOf9
  v9:=Tryz.zeroValue9 }
def Tryz.lays150_ren : Go.Shelf.Ren:=⟨fun | 150=> 132 | 153=> 161 | 152=> 194 | 226=> 195 | 227=> 156 | 228=> 190 | 137=> 189 | 119=> 217 | 224=> 218 | 225=> 219 | 217=> 214 | 266=> 230 | n=>n,fun | 9=> 9 | 4=> 4 | 3=> 3 | 5=> 5 | 21=> 21 | 117=> 203 | 116=> 202 | 0=> 0 | 46=> 94 | 124=> 206 | n=>n,fun | n=>n⟩
theorem Tryz.lays150 : Go.Proofs.Lays.n150 Tryz.prog Tryz.lays150_ren:= {
  mixed:=by kernel_rfl
  f119:=Tryz.func217.trans (congrArg some (by kernel_rfl))
  f137:=Tryz.func189.trans (congrArg some (by kernel_rfl))
  f150:=Tryz.func132.trans (congrArg some (by kernel_rfl))
  f152:=Tryz.func194.trans (congrArg some (by kernel_rfl))
  f153:=Tryz.func161.trans (congrArg some (by kernel_rfl))
  f217:=Tryz.func214.trans (congrArg some (by kernel_rfl))
  f224:=Tryz.func218.trans (congrArg some (by kernel_rfl))
  f225:=Tryz.func219.trans (congrArg some (by kernel_rfl))
  f226:=Tryz.func195.trans (congrArg some (by kernel_rfl))
  f227:=Tryz.func156.trans (congrArg some (by kernel_rfl))
  f228:=Tryz.func190.trans (congrArg some (by kernel_rfl))
  f266:=Tryz.func230.trans (congrArg some (by kernel_rfl))
  t0:=Tryz.underlying0
  a0:=Tryz.isAgg0
  z0:=Tryz.sizeOf0
  v0:=Tryz.zeroValue0
  t3:=Tryz.underlying3
  a3:=Tryz.isAgg3
  z3:=Tryz.sizeOf3
  v3:=Tryz.zeroValue3
  t4:=Tryz.underlying4
  a4:=Tryz.isAgg4
  z4:=Tryz.sizeOf4
  v4:=Tryz.zeroValue4
  t5:=Tryz.underlying5
  a5:=Tryz.isAgg5
  z5:=Tryz.sizeOf5
  v5:=Tryz.zeroValue5
  t9:=Tryz.underlying9
  a9:=Tryz.isAgg9
  z9:=Tryz.sizeOf9
  v9:=Tryz.zeroValue9
  t21:=Tryz.underlying21
  a21:=Tryz.isAgg21
  z21:=Tryz.sizeOf21
  v21:=Tryz.zeroValue21
  t46:=Tryz.underlying94
  a46:=Tryz.isAgg94
  z46:=Tryz.sizeOf94
  v46:=Tryz.zeroValue94
  t116:=Tryz.underlying202
  a116:=Tryz.isAgg202
  z116:=Tryz.sizeOf202
  t117:=Tryz.underlying203
  a117:=Tryz.isAgg203
  z117:=Tryz.sizeOf203
  v117:=Tryz.zeroValue203
  t124:=Tryz.underlying206
  a124:=Tryz.isAgg206
  z124:=Tryz.sizeOf206
  v124:=Tryz.zeroValue206 }
def Tryz.lays160_ren : Go.Shelf.Ren:=⟨fun | 160=> 131 | 232=> 155 | 231=> 154 | 227=> 156 | 234=> 158 | 233=> 157 | 236=> 160 | 235=> 159 | 228=> 190 | 271=> 193 | 151=> 192 | 197=> 191 | 120=> 216 | 152=> 194 | 260=> 215 | 137=> 189 | 119=> 217 | 224=> 218 | 225=> 219 | 217=> 214 | 266=> 230 | n=>n,fun | 9=> 9 | 4=> 4 | 3=> 3 | 5=> 5 | 117=> 203 | 116=> 202 | 0=> 0 | 124=> 206 | 21=> 21 | 105=> 222 | 46=> 94 | 119=> 249 | 139=> 252 | 138=> 251 | n=>n,fun | 3=> 4 | 4=> 5 | n=>n⟩
theorem Tryz.lays160 : Go.Proofs.Lays.n160 Tryz.prog Tryz.lays160_ren:= {
  mixed:=by kernel_rfl
  f119:=Tryz.func217.trans (congrArg some (by kernel_rfl))
  f120:=Tryz.func216.trans (congrArg some (by kernel_rfl))
  f137:=Tryz.func189.trans (congrArg some (by kernel_rfl))
  f151:=Tryz.func192.trans (congrArg some (by kernel_rfl))
  f152:=Tryz.func194.trans (congrArg some (by kernel_rfl))
  f160:=Tryz.func131.trans (congrArg some (by kernel_rfl))
  f197:=Tryz.func191.trans (congrArg some (by kernel_rfl))
  f217:=Tryz.func214.trans (congrArg some (by kernel_rfl))
  f224:=Tryz.func218.trans (congrArg some (by kernel_rfl))
  f225:=Tryz.func219.trans (congrArg some (by kernel_rfl))
  f227:=Tryz.func156.trans (congrArg some (by kernel_rfl))
  f228:=Tryz.func190.trans (congrArg some (by kernel_rfl))
  f231:=Tryz.func154.trans (congrArg some (by kernel_rfl))
  f232:=Tryz.func155.trans (congrArg some (by kernel_rfl))
  f233:=Tryz.func157.trans (congrArg some (by kernel_rfl))
  f234:=Tryz.func158.trans (congrArg some (by kernel_rfl))
  f235:=Tryz.func159.trans (congrArg some (by kernel_rfl))
  f236:=Tryz.func160.trans (congrArg some (by kernel_rfl))
  f260:=Tryz.func215.trans (congrArg some (by kernel_rfl))
  f266:=Tryz.func230.trans (congrArg some (by kernel_rfl))
  f271:=Tryz.func193.trans (congrArg some (by kernel_rfl))
  t0:=Tryz.underlying0
  a0:=Tryz.isAgg0
  z0:=Tryz.sizeOf0
  v0:=Tryz.zeroValue0
  t3:=Tryz.underlying3
  a3:=Tryz.isAgg3
  z3:=Tryz.sizeOf3
  v3:=Tryz.zeroValue3
  t4:=Tryz.underlying4
  a4:=Tryz.isAgg4
  z4:=Tryz.sizeOf4
  v4:=Tryz.zeroValue4
  t5:=Tryz.underlying5
  a5:=Tryz.isAgg5
  z5:=Tryz.sizeOf5
  v5:=Tryz.zeroValue5
  t9:=Tryz.underlying9
  a9:=Tryz.isAgg9
  z9:=Tryz.sizeOf9
  v9:=Tryz.zeroValue9
  t21:=Tryz.underlying21
  a21:=Tryz.isAgg21
  z21:=Tryz.sizeOf21
  v21:=Tryz.zeroValue21
  t46:=Tryz.underlying94
  a46:=Tryz.isAgg94
  z46:=Tryz.sizeOf94
  v46:=Tryz.zeroValue94
  t105:=Tryz.underlying222
  a105:=Tryz.isAgg222
  z105:=Tryz.sizeOf222
  v105:=Tryz.zeroValue222
  t116:=Tryz.underlying202
  a116:=Tryz.isAgg202
  z116:=Tryz.sizeOf202
  t117:=Tryz.underlying203
  a117:=Tryz.isAgg203
  z117:=Tryz.sizeOf203
  v117:=Tryz.zeroValue203
  t119:=Tryz.underlying249
  a119:=Tryz.isAgg249
  z119:=Tryz.sizeOf249
  t124:=Tryz.underlying206
  a124:=Tryz.isAgg206
  z124:=Tryz.sizeOf206
  v124:=Tryz.zeroValue206
  t138:=Tryz.underlying251
  a138:=Tryz.isAgg251
  z138:=Tryz.sizeOf251
  v138:=Tryz.zeroValue251
  t139:=Tryz.underlying252
  a139:=Tryz.isAgg252
  z139:=Tryz.sizeOf252
  v139:=Tryz.zeroValue252
  g3:=by kernel_rfl
  g4:=by kernel_rfl }
def Tryz.lays172_ren : Go.Shelf.Ren:=⟨fun | 172=> 136 | 244=> 169 | 245=> 170 | 247=> 201 | 279=> 202 | 280=> 203 | 281=> 204 | 282=> 205 | 287=> 224 | 316=> 225 | 171=> 227 | 205=> 226 | 321=> 232 | 322=> 233 | 243=> 234 | 246=> 236 | 283=> 237 | 284=> 238 | 285=> 239 | 286=> 240 | 129=> 242 | 317=> 241 | 318=> 243 | 319=> 244 | 320=> 245 | 337=> 246 | 338=> 247 | n=>n,fun | 9=> 9 | 3=> 3 | 75=> 123 | 76=> 124 | 4=> 4 | 5=> 5 | 167=> 229 | 37=> 118 | 0=> 0 | 85=> 230 | 2=> 2 | 168=> 232 | 53=> 108 | 175=> 242 | 46=> 94 | 210=> 245 | 127=> 175 | 145=> 255 | 143=> 253 | 21=> 21 | 171=> 258 | 173=> 261 | 212=> 264 | 51=> 167 | 20=> 20 | 213=> 265 | 232=> 268 | 233=> 269 | 80=> 127 | n=>n,fun | 15=> 2 | 16=> 3 | 17=> 6 | 18=> 7 | 19=> 8 | n=>n⟩
theorem Tryz.lays172 : Go.Proofs.Lays.n172 Tryz.prog Tryz.lays172_ren:= {
  mixed:=by kernel_rfl
  f129:=Tryz.func242.trans (congrArg some (by kernel_rfl))
  f171:=Tryz.func227.trans (congrArg some (by kernel_rfl))
  f172:=Tryz.func136.trans (congrArg some (by kernel_rfl))
  f205:=Tryz.func226.trans (congrArg some (by kernel_rfl))
  f243:=Tryz.func234.trans (congrArg some (by kernel_rfl))
  f244:=Tryz.func169.trans (congrArg some (by kernel_rfl))
  f245:=Tryz.func170.trans (congrArg some (by kernel_rfl))
  f246:=Tryz.func236.trans (congrArg some (by kernel_rfl))
  f247:=Tryz.func201.trans (congrArg some (by kernel_rfl))
  f279:=Tryz.func202.trans (congrArg some (by kernel_rfl))
  f280:=Tryz.func203.trans (congrArg some (by kernel_rfl))
  f281:=Tryz.func204.trans (congrArg some (by kernel_rfl))
  f282:=Tryz.func205.trans (congrArg some (by kernel_rfl))
  f283:=Tryz.func237.trans (congrArg some (by kernel_rfl))
  f284:=Tryz.func238.trans (congrArg some (by kernel_rfl))
  f285:=Tryz.func239.trans (congrArg some (by kernel_rfl))
  f286:=Tryz.func240.trans (congrArg some (by kernel_rfl))
  f287:=Tryz.func224.trans (congrArg some (by kernel_rfl))
  f316:=Tryz.func225.trans (congrArg some (by kernel_rfl))
  f317:=Tryz.func241.trans (congrArg some (by kernel_rfl))
  f318:=Tryz.func243.trans (congrArg some (by kernel_rfl))
  f319:=Tryz.func244.trans (congrArg some (by kernel_rfl))
  f320:=Tryz.func245.trans (congrArg some (by kernel_rfl))
  f321:=Tryz.func232.trans (congrArg some (by kernel_rfl))
  f322:=Tryz.func233.trans (congrArg some (by kernel_rfl))
  f337:=Tryz.func246.trans (congrArg some (by kernel_rfl))
  f338:=Tryz.func247.trans (congrArg some (by kernel_rfl))
  t0:=Tryz.underlying0
  a0:=Tryz.isAgg0
  z0:=Tryz.sizeOf0
  v0:=Tryz.zeroValue0
  t2:=Tryz.underlying2
  a2:=Tryz.isAgg2
  z2:=Tryz.sizeOf2
  v2:=Tryz.zeroValue2
  t3:=Tryz.underlying3
  a3:=Tryz.isAgg3
  z3:=Tryz.sizeOf3
  v3:=Tryz.zeroValue3
  t4:=Tryz.underlying4
  a4:=Tryz.isAgg4
  z4:=Tryz.sizeOf4
  v4:=Tryz.zeroValue4
  t5:=Tryz.underlying5
  a5:=Tryz.isAgg5
  z5:=Tryz.sizeOf5
  v5:=Tryz.zeroValue5
  t9:=Tryz.underlying9
  a9:=Tryz.isAgg9
  z9:=Tryz.sizeOf9
  v9:=Tryz.zeroValue9
  t20:=Tryz.underlying20
  a20:=Tryz.isAgg20
  z20:=Tryz.sizeOf20
  v20:=Tryz.zeroValue20
  t21:=Tryz.underlying21
  a21:=Tryz.isAgg21
  z21:=Tryz.sizeOf21
  v21:=Tryz.zeroValue21
  t37:=Tryz.underlying118
  a37:=Tryz.isAgg118
  z37:=Tryz.sizeOf118
  v37:=Tryz.zeroValue118
  t46:=Tryz.underlying94
  a46:=Tryz.isAgg94
  z46:=Tryz.sizeOf94
  v46:=Tryz.zeroValue94
  t51:=Tryz.underlying167
  a51:=Tryz.isAgg167
  z51:=Tryz.sizeOf167
  v51:=Tryz.zeroValue167
  t53:=Tryz.underlying108
  a53:=Tryz.isAgg108
  z53:=Tryz.sizeOf108
  v53:=Tryz.zeroValue108
  t75:=Tryz.underlying123
  a75:=Tryz.isAgg123
  z75:=Tryz.sizeOf123
  v75:=Tryz.zeroValue123
  t76:=Tryz.underlying124
  a76:=Tryz.isAgg124
  z76:=Tryz.sizeOf124
  v76:=Tryz.zeroValue124
  t85:=Tryz.underlying230
  a85:=Tryz.isAgg230
  z85:=Tryz.sizeOf230
  v85:=Tryz.zeroValue230
  t127:=Tryz.underlying175
  a127:=Tryz.isAgg175
  z127:=Tryz.sizeOf175
  v127:=Tryz.zeroValue175
  t143:=Tryz.underlying253
  a143:=Tryz.isAgg253
  z143:=Tryz.sizeOf253
  v143:=Tryz.zeroValue253
  t145:=Tryz.underlying255
  a145:=Tryz.isAgg255
  z145:=Tryz.sizeOf255
  v145:=Tryz.zeroValue255
  t167:=Tryz.underlying229
  a167:=Tryz.isAgg229
  z167:=Tryz.sizeOf229
  v167:=Tryz.zeroValue229
  t168:=Tryz.underlying232
  a168:=Tryz.isAgg232
  z168:=Tryz.sizeOf232
  v168:=Tryz.zeroValue232
  t171:=Tryz.underlying258
  a171:=Tryz.isAgg258
  z171:=Tryz.sizeOf258
  v171:=Tryz.zeroValue258
  t173:=Tryz.underlying261
  a173:=Tryz.isAgg261
  z173:=Tryz.sizeOf261
  v173:=Tryz.zeroValue261
  t175:=Tryz.underlying242
  a175:=Tryz.isAgg242
  z175:=Tryz.sizeOf242
  v175:=Tryz.zeroValue242
  t210:=Tryz.underlying245
  a210:=Tryz.isAgg245
  z210:=Tryz.sizeOf245
  v210:=Tryz.zeroValue245
  t212:=Tryz.underlying264
  a212:=Tryz.isAgg264
  z212:=Tryz.sizeOf264
  v212:=Tryz.zeroValue264
  t213:=Tryz.underlying265
  a213:=Tryz.isAgg265
  z213:=Tryz.sizeOf265
  t232:=Tryz.underlying268
  a232:=Tryz.isAgg268
  z232:=Tryz.sizeOf268
  v232:=Tryz.zeroValue268
  t233:=Tryz.underlying269
  a233:=Tryz.isAgg269
  z233:=Tryz.sizeOf269
  v233:=Tryz.zeroValue269
  g15:=by kernel_rfl
  g16:=by kernel_rfl
  g17:=by kernel_rfl
  g18:=by kernel_rfl
  g19:=by kernel_rfl }
def Tryz.lays105_ren : Go.Shelf.Ren:=⟨fun | 105=> 28 | 212=> 77 | 99=> 78 | 165=> 79 | 166=> 80 | 170=> 81 | 169=> 82 | 263=> 117 | 264=> 118 | 206=> 119 | 240=> 120 | 241=> 121 | 276=> 149 | 277=> 150 | n=>n,fun | 9=> 9 | 3=> 3 | 4=> 4 | 20=> 20 | 0=> 0 | 46=> 94 | 109=> 115 | 5=> 5 | 72=> 120 | 76=> 124 | 51=> 167 | 146=> 171 | 53=> 108 | 148=> 173 | 70=> 117 | 37=> 118 | 75=> 123 | 127=> 175 | 164=> 192 | 80=> 127 | n=>n,fun | n=>n⟩
theorem Tryz.lays105 : Go.Proofs.Lays.n105 Tryz.prog Tryz.lays105_ren:= {
  mixed:=by kernel_rfl
  f99:=Tryz.func78.trans (congrArg some (by kernel_rfl))
  f105:=Tryz.func28.trans (congrArg some (by kernel_rfl))
  f165:=Tryz.func79.trans (congrArg some (by kernel_rfl))
  f166:=Tryz.func80.trans (congrArg some (by kernel_rfl))
  f169:=Tryz.func82.trans (congrArg some (by kernel_rfl))
  f170:=Tryz.func81.trans (congrArg some (by kernel_rfl))
  f206:=Tryz.func119.trans (congrArg some (by kernel_rfl))
  f212:=Tryz.func77.trans (congrArg some (by kernel_rfl))
  f240:=Tryz.func120.trans (congrArg some (by kernel_rfl))
  f241:=Tryz.func121.trans (congrArg some (by kernel_rfl))
  f263:=Tryz.func117.trans (congrArg some (by kernel_rfl))
  f264:=Tryz.func118.trans (congrArg some (by kernel_rfl))
  f276:=Tryz.func149.trans (congrArg some (by kernel_rfl))
  f277:=Tryz.func150.trans (congrArg some (by kernel_rfl))
  t0:=Tryz.underlying0
  a0:=Tryz.isAgg0
  z0:=Tryz.sizeOf0
  v0:=Tryz.zeroValue0
  t3:=Tryz.underlying3
  a3:=Tryz.isAgg3
  z3:=Tryz.sizeOf3
  v3:=Tryz.zeroValue3
  t4:=Tryz.underlying4
  a4:=Tryz.isAgg4
  z4:=Tryz.sizeOf4
  v4:=Tryz.zeroValue4
  t5:=Tryz.underlying5
  a5:=Tryz.isAgg5
  z5:=Tryz.sizeOf5
  v5:=Tryz.zeroValue5
  t9:=Tryz.underlying9
  a9:=Tryz.isAgg9
  z9:=Tryz.sizeOf9
  v9:=Tryz.zeroValue9
  t20:=Tryz.underlying20
  a20:=Tryz.isAgg20
  z20:=Tryz.sizeOf20
  v20:=Tryz.zeroValue20
  t37:=Tryz.underlying118
  a37:=Tryz.isAgg118
  z37:=Tryz.sizeOf118
  v37:=Tryz.zeroValue118
  t46:=Tryz.underlying94
  a46:=Tryz.isAgg94
  z46:=Tryz.sizeOf94
  v46:=Tryz.zeroValue94
  t51:=Tryz.underlying167
  a51:=Tryz.isAgg167
  z51:=Tryz.sizeOf167
  v51:=Tryz.zeroValue167
  t53:=Tryz.underlying108
  a53:=Tryz.isAgg108
  z53:=Tryz.sizeOf108
  v53:=Tryz.zeroValue108
  t70:=Tryz.underlying117
  a70:=Tryz.isAgg117
  z70:=Tryz.sizeOf117
  v70:=Tryz.zeroValue117
  t72:=Tryz.underlying120
  a72:=Tryz.isAgg120
  z72:=Tryz.sizeOf120
  v72:=Tryz.zeroValue120
  t75:=Tryz.underlying123
  a75:=Tryz.isAgg123
  z75:=Tryz.sizeOf123
  v75:=Tryz.zeroValue123
  t76:=Tryz.underlying124
  a76:=Tryz.isAgg124
  z76:=Tryz.sizeOf124
  v76:=Tryz.zeroValue124
  t109:=Tryz.underlying115
  a109:=Tryz.isAgg115
  z109:=Tryz.sizeOf115
  v109:=Tryz.zeroValue115
  t127:=Tryz.underlying175
  a127:=Tryz.isAgg175
  z127:=Tryz.sizeOf175
  v127:=Tryz.zeroValue175
  t146:=Tryz.underlying171
  a146:=Tryz.isAgg171
  z146:=Tryz.sizeOf171
  v146:=Tryz.zeroValue171
  t148:=Tryz.underlying173
  a148:=Tryz.isAgg173
  z148:=Tryz.sizeOf173
  v148:=Tryz.zeroValue173
  t164:=Tryz.underlying192
  a164:=Tryz.isAgg192
  z164:=Tryz.sizeOf192
  v164:=Tryz.zeroValue192 }
end Go.Proofs
namespace Go.Proofs
open Go.RowKit
theorem v4D : ((List.range 256).all fun c=>Xec.givesB Tryz.prog 3000 106 [.int .u8 (c : Int), .int .i64 8] (.string ⟨(Yec.bitsB c.toUInt8).toArray⟩)) = true:=by kernel_rfl
theorem c106 (c : UInt8) (w : World) (hg : Xec.Glob w) : Calls Tryz.prog 106 #[.int .u8 (c.toNat : Int), .int .i64 8] w fun e w'=>e = .returned (.string ⟨(Yec.bitsB c).toArray⟩) /\ Below w.heap.size w w':=by
  have h:=List.all_eq_true.1 v4D c.toNat (List.mem_range.2 c.toNat_lt)
  rw [show c.toNat.toUInt8 = c from by simp] at h
  exact Calls.mono (Xec.closed_call x1Z x1Y h w hg) fun _ _ ⟨h1,h2,h3,h4,h5,h6⟩=>⟨h1,h4,h6,h5,h3,h2⟩
end Go.Proofs
namespace Go.Proofs
open Go.Shelf Go.RowKit Go.Lib
theorem x1R {w w' : World} (h : Below w.heap.size w w') (hg : Xec.Glob w) : Xec.Glob w':=fun g cs e=>by
  obtain ⟨t,fz,h1⟩:=hg g cs e
  exact ⟨t,fz,by rw [h.block g (Array.getElem?_eq_some_iff.1 h1).1]; exact h1⟩
theorem Tryz.extra105 : Builder.Extra Tryz.prog Tryz.lays105_ren:= {
  sizeBuilder:=by kernel_rfl
  liesBuilder:=by kernel_rfl
  t5:=Tryz.underlying5
  a5:=Tryz.isAgg5
  z5:=Tryz.sizeOf5
  v5:=Tryz.zeroValue5
  infoByte:=by kernel_rfl
  cellsByte:=by kernel_rfl
  sizeByte:=by kernel_rfl
  neB5:=by decide }
theorem y9J {T e : TypeId} {B b : Nat} {p : Value} {bs : List Value} {w w' : World} (h : Lib.BuilderAtF T e B b p bs w) (hf : ∀ j,j < w.heap.size -> w'.heap[j]? = w.heap[j]?) : Lib.BuilderAtF T e B b p bs w':=by
  have hlt:=h.lt
  obtain ⟨hB,v,hb,hown,hne⟩:=h
  refine ⟨hB,v,(hf b hlt).trans hb, ?_,hne⟩
  obtain ⟨h1,h2⟩:=hown
  refine ⟨h1, ?_⟩
  rcases h2 with h2 | ⟨g,cap,cur,fz,e1,e2,e3,e4,e5,e6,e7,e8⟩
  . exact .inl h2
  . exact .inr ⟨g,cap,cur,fz,e1,e2,(hf g (Array.getElem?_eq_some_iff.1 e3).1).trans e3,e4,e5,e6,e7,e8⟩
theorem w1Q {T e : TypeId} {B b : Nat} {bs : List Value} {w w' : World} (h : Lib.IsBuilderF T e B b bs w) (hf : ∀ j,j < w.heap.size -> w'.heap[j]? = w.heap[j]?) : Lib.IsBuilderF T e B b bs w' :=
  h.elim (fun x=> .inl (y9J x hf)) (fun x=> .inr (y9J x hf))
set_option maxHeartbeats 2000000 in
theorem c72 (s : ByteArray) (w : World) (hs : s.size < 65536) (hg : Xec.Glob w) : Calls Tryz.prog 72 #[.string s] w fun e w' => e = .returned (.string ⟨(Yec.hBits s.data.toList).toArray⟩) /\ Below w.heap.size w w' := by
  have h0 : Lib.IsBuilderF 120 5 w.heap.size w.heap.size (Lib.byteCells []) (w.alloc (.cells #[.pointer none, .slice none 0 0] 120)):=Lib.IsBuilderF.of (Lib.fresh_isBuilder 120 5 w)
  have b0 : Below w.heap.size w (w.alloc (.cells #[.pointer none, .slice none 0 0] 120)):=(Below.refl _ w).alloc (Nat.le_refl _) _
  have hsl : s.data.toList.length = s.size:=(Lib.size_eq s).symm
  go_enter Tryz.func72,Tryz.ntmps72
  go_wp2
  go_loopg [7] s.size (fun g s7 wx=> ∃ k : Nat,k <= s.size /\ g = s.size - k /\ s7 = .int .i64 k /\ Lib.IsBuilderF 120 5 w.heap.size w.heap.size (Lib.byteCells (Yec.hBits (s.data.toList.take k))) wx /\ Below w.heap.size w wx)
  case atStart=>exact ⟨0,Nat.zero_le _,rfl,rfl,h0,b0⟩
  case round =>
    obtain ⟨k,hk,rfl,rfl,hB,hbx⟩:=hrel
    by_cases hkn : k < s.size
    . have hkz : (k : Int) < (s.size : Int) := by omega
      have c1:=c106 s[k] wr (x1R hbx hg)
      go_wp2_with (go_at_call 106; go_fit c1; rintro e W1 ⟨rfl,b1⟩)
      have hB1:=w1Q hB b1.block
      have hl8 : (Yec.bitsB s[k]).length = 8:=rfl
      have hb8 : (⟨(Yec.bitsB s[k]).toArray⟩ : ByteArray).size = 8:=rfl
      have hb1 : Below w.heap.size w W1:=hbx.trans (b1.mono hbx.size)
      have c2:=Any.Builder_WriteString_f { Tryz.lays105 with } Tryz.extra105 w.heap.size w.heap.size _ ⟨(Yec.bitsB s[k]).toArray⟩ W1 hB1 (by
        rw [Lib.byteCells_length,Yec.hBits_len,hb8,List.length_take]
        omega) hb1.size
      go_wp2_with (go_at_call 80; go_fit c2; rintro e W2 ⟨rfl,h2,b2⟩)
      go_roundg (s.size - (k + 1))
      case measure=>omega
      case rel =>
        refine ⟨k + 1,by omega,rfl,by first | rfl | simp,Or.inr ?_,hb1.trans b2⟩
        rw [Lib.strCells_eq, <- Lib.byteCells_append] at h2
        rw [Yec.hBits_take (by omega)]
        exact h2
    . obtain rfl : k = s.size := by omega
      have hkz : ¬ ((s.size : Int) < (s.size : Int)):=by omega
      rw [show s.data.toList.take s.size = s.data.toList by rw [<- hsl,List.take_length]] at hB
      have c3:=Any.Builder_String_any_f { Tryz.lays105 with } Tryz.extra105 w.heap.size w.heap.size (Yec.hBits s.data.toList) wr hB hbx.size
      go_wp2_with (go_at_call 82; go_fit c3; rintro e W3 ⟨rfl,h3,b3⟩)
      go_ret
      exact ⟨rfl,hbx.trans b3⟩
end Go.Proofs
