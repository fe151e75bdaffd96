/-
  PLAIN LEAN: what some functions of the library come to, on lists of bytes.
-/
import Derived.Test.YtadehgdfijjikaaGreatDoorY1
import Derived.Lib.Bytealg
import Derived.Lib.IndexAny
import Derived.Lib.LastIndexByte
import Derived.Lib.SlTrimSet
import Derived.Lib.Strings
import Derived.Lib.Atoi
import Derived.Lib.Repeat
set_option linter.all false
namespace Go.Yec
open Go
def y8Y (s:List UInt8):Bool:=s.all fun b=>decide (b.toNat<128)
def hIx (s:List UInt8)(c:Int):Int:=Lib.indexByte s c.toNat.toUInt8
def u5U (s t:List UInt8):Int:=((Lib.countByte s (t.headD 0):Nat):Int)
def hHas (s t:List UInt8):Bool:=decide (0<=Lib.indexByte s (t.headD 0))
def hSuf (s t:List UInt8):Bool:=Lib.hasSuffix s t
def y7K (s:List UInt8)(c:Int):Int:=Lib.lastIndexByte ⟨s.toArray⟩ c
def hAny (s t:List UInt8):Bool:=Lib.containsAny s t
def u8P (s t:List UInt8):List UInt8:=Lib.trimS s t
def hOne (t:List UInt8):Bool:=decide (t.length=1)
def hSz (n:Nat)(s:List UInt8):Bool:=decide (s.length<n)
def x7C (s t:List UInt8):Bool:=hSz 4294967281 s&&hSz 4294967281 t&&y8Y s&&y8Y t
def y2N (s t:List UInt8):Bool:=hSz 9223372036854775808 s&&hSz 4294967281 t&&y8Y t
def punL:List UInt8:=[123,65,66,67,68,69,70,71,72,73,125,74,75,76,77,78,79,80,81,82]
def hPun1 (d:Int)(m:Bool):Int:=cond (decide (d<0\/9<d)) 0 ((punL.getD (d+cond m 10 0).toNat 0).toNat:Int)
def hPun2 (d:Int):Bool:=!(decide (d<0\/9<d))
def hUnp (c:Int):Option Nat:=(List.range 20).find? (fun i=>decide (((punL.getD i 0).toNat:Int)=c))
def hUnp1 (c:Int):Int:=match hUnp c with|some i=>(i:Int)%10|none=>0
def hUnp2 (c:Int):Bool:=match hUnp c with|some i=>decide (10<=i)|none=>false
def hUnp3 (c:Int):Bool:=(hUnp c).isSome
def hAtoi (s:List UInt8):Int:=(Lib.atoi s).getD 0
def v5W (s:List UInt8):Bool:=(Lib.atoi s).isSome&&decide (s.length<=18)
def hRep (s:List UInt8)(n:Int):List UInt8:=Lib.repeatL s n.toNat
def hRepOk (s:List UInt8)(n:Int):Bool:=decide (0<=n)&&(decide (n<=9223372036854775807)&&decide (s.length*n.toNat<=140737488355328))
end Go.Yec
