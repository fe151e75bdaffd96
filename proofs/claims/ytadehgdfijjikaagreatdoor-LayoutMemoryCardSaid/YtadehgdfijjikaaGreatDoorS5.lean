/- What keeps all blocks but some -/
import Derived.Below
import Derived.Test.YtadehgdfijjikaaGreatDoorX1
set_option linter.all false
namespace Go.Proofs
open Go.RowKit
structure KpB (C:Nat->Prop) (w w':World):Prop where
 os:w'.os=w.os
 tape:w'.tape=w.tape
 output:w'.output=w.output
 size:w.heap.size<=w'.heap.size
 block:∀b,b<w.heap.size->¬C b->w'.heap[b]? =w.heap[b]?
theorem KpB.refl (C:Nat->Prop)(w:World):KpB C w w:=⟨rfl,rfl,rfl,qQ _,fun _ _ _=>rfl⟩
theorem KpB.of_below {C:Nat->Prop}{k:Nat}{a b c:World}(h:KpB C a b)(h':Below k b c)(hk:a.heap.size<=k):KpB C a c:=⟨h'.os.trans h.os,h'.tape.trans h.tape,h'.output.trans h.output,qi h.size h'.size,fun x hx hc=>(h'.block x (by omega)).trans (h.block x hx hc)⟩
end Go.Proofs
