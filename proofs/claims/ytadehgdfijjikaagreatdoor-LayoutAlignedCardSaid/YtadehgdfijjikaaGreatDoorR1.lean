/-
  LAYOUTALIGNED: for every shape (a shape of more than 60 nodes, or one that the reference's Check refuses, is let by), the law returns true and leaves its argument as it was. Conditions: the eight listed package variables read as the program's text lays them.
-/
import Derived.Test.YtadehgdfijjikaaGreatDoorCards
import Derived.Test.YtadehgdfijjikaaGreatDoorTie
import Derived.Test.YtadehgdfijjikaaGreatDoorS13
import Derived.Test.YtadehgdfijjikaaGreatDoorO1
import Derived.Test.YtadehgdfijjikaaGreatDoorT4
import Derived.Carry
import Derived.SevenTiedAt
import Derived.Stop.Joined
import Derived.ChangeMaps5
set_option linter.all false
namespace Go.Proofs.YtadehgdfijjikaaGreatDoor
open Go.ChangeShapes Go.WideShapes Go.ChangeAt Go.RowKit Go.Joins Go.Deep
open Go.ChangeMaps (open_string shut_string)
theorem laidOut:laidOutB Tryz.prog=true:=by kernel_rfl
set_option maxRecDepth 100000 in
theorem y9U (os:Os) (started:os.Started) (H:Type) (enc:TypeId×Value->H) :
    ReturnsInHanded {} Tryz.checked os 4 .any (fun w args=>(Rows.layoutAlignedSpec.pre enc Tryz.prog Tryz.f4 Rows.layoutAlignedRow.domain false w args/\laidMetH Tryz.prog Rows.layoutAlignedRow.laid w)/\sizedMet enc Tryz.prog Tryz.f4 (OpenSpec.ofChange Rows.layoutAlignedSpec) false w args)
      (Rows.layoutAlignedSpec.post enc Tryz.prog Tryz.f4 false true false false):=by
  refine returnsInHanded_of_change_and (C:=Tryz.checked) (X:=fun w _=>laidMetH Tryz.prog Rows.layoutAlignedRow.laid w) (fun _ _ _ hh h=>h.of_heap hh) v2Q started (by kernel_rfl) Tryz.func4
    (ChangeSpec.witness_shaped (enc:=enc) (C:=Tryz.checked) (os:=os) (X:=fun w _=>laidMetH Tryz.prog Rows.layoutAlignedRow.laid w) false (World.laidAll Tryz.prog os Rows.layoutAlignedRow.laid) #[.agg #[.slice none 0 0, .slice none 0 0, .int .i64 0, .int .i64 0, .int .i64 0, .bool false, .string ⟨#[]⟩, .bool false]] 8 (World.laidAll_os _ _ _)
      (World.shaped_of_ZipB (by kernel_rfl) (by kernel_rfl)) (by kernel_rfl) (by kernel_rfl) (by kernel_rfl)
      (by rw [MakeChecks.laidMetH_plain _ _ _ (by kernel_rfl)]; exact laidMet_laidAll _ (by kernel_rfl) (by kernel_rfl))) ?_
  intro W base args ds gs before hval0 hW hc _ hL _;have hL2:laidMetH Tryz.prog Rows.layoutAlignedRow.laid W:=hL;rw [MakeChecks.laidMetH_plain _ _ _ (by kernel_rfl)] at hL2
  have hgl:Xec.Glob W:=glob_of hL2 (by simp [Rows.layoutAlignedRow])
  have hval:∀ (j:Nat) t v,Tryz.f4.params[j]? = some t->args[j]? = some v->Value.okWide Tryz.prog W .any base t v:=hval0;have hW':=hW;obtain ⟨p,q,hA0,hV,rfl,_,_⟩:=hW;have hA:DataW.TrodAll enc Tryz.prog W 0 (fun _=>true) true Tryz.f4.params.toList args.toList ds p:=hA0;rw [Tryz.params4] at hA hval;obtain ⟨v0,d0,rfl,rfl,h0⟩:=trodAll_one hA;obtain ⟨rfl,rfl⟩:=trodVars_none hV;have hlt:∀ x∈p,x.block<W.heap.size:=fun x hx=>by
    have:=hW'.lt x (by simpa using hx)
    simpa using this
  have k0:=h0;obtain ⟨dv0,pv0,x0,hx0,y0⟩:=open_sh (hval 0 27 v0 rfl rfl) h0;subst hx0;clear hA0 hval0;simp only [List.append_nil] at hW';refine (u3Z x0 dv0 pv0 W hgl y0).mono fun e W' ⟨he,hB⟩=> ?_;subst he;exact ⟨_,rfl,_,_,_,[],p,[],hW',trodAll_mk1 (shut_bool Tryz.underlying4 _),trodAll_mk1 (Below.trod laidOut (by kernel_rfl) (of_decide_eq_true (by kernel_rfl)) k0 hB (fun x hx=>hlt x (by simp [hx]))),rfl,hB.frame _,fun h=>by cases h⟩
theorem x3P {a b:Bool} (ha:a=true) (hb:b=true):(a&&b)=true:=by rw [ha,hb]; rfl
theorem rec_of {P:Program} {f g h:FuncId} {fn:Func} (h1:(P.closure f).contains g=true) (h2:P.funcs[g]? = some fn) (h3:(P.leadsTo fn).contains h=true) (h4:(P.closure h).contains g=true):P.recurses f=true:=by
  unfold Program.recurses;rw [Bool.or_eq_true];refine .inr (List.any_eq_true.2 ⟨g,by simpa using h1,List.any_eq_true.2 ⟨h, ?_,h4⟩⟩)
  rw [h2]
  simpa using h3
theorem v1X:(Rows.layoutAlignedRow.wf (OpenSpec.ofChange Rows.layoutAlignedSpec))=true:=by kernel_rfl
theorem v1W:(laidOutB Tryz.prog)=true:=by kernel_rfl
theorem v1V:(mapsRowed Tryz.prog)=true:=by kernel_rfl
theorem v1U:(Tryz.f4.params.all (Tryz.prog.readableRec ·))=true:=by kernel_rfl
theorem v1T:(namedTie Tryz.prog Rows.layoutAlignedRow.named Rows.layoutAlignedSpec.vars)=true:=by kernel_rfl
theorem v1S:((Rows.layoutAlignedRow.stops==[]))=true:=by kernel_rfl
theorem v1R:((Tryz.prog.stops==[]))=true:=by kernel_rfl
theorem v1Q:((Rows.layoutAlignedRow.knobs==[]))=true:=by kernel_rfl
theorem v1P:((Tryz.prog.stopKnobs==[]))=true:=by kernel_rfl
theorem u3Y:((Rows.layoutAlignedRow.inPlace==Tryz.prog.inPlace 4))=true:=by kernel_rfl
theorem u3X:((Rows.layoutAlignedRow.unfollowed==Tryz.prog.unfollowed 4))=true:=by kernel_rfl
theorem u3D:Tryz.prog.recurses 4=true:=rec_of (g:= 91) (h:= 91) (by kernel_rfl) Tryz.func91 (by kernel_rfl) (by kernel_rfl)
theorem u3W:(Rows.layoutAlignedRow.recurses==Tryz.prog.recurses 4)=true:=by rw [u3D]; rfl
theorem u3V:((Rows.layoutAlignedRow.named==Tryz.prog.varsNamed 4))=true:=by kernel_rfl
theorem u3U:((Rows.layoutAlignedRow.maps==(Tryz.f4.params.toList++Rows.layoutAlignedSpec.plain.varTypes Tryz.prog).any (Tryz.prog.mapsRec ·)))=true:=by kernel_rfl
theorem u3T:((Rows.layoutAlignedRow.ifaces==(Tryz.f4.params.toList++Rows.layoutAlignedSpec.plain.varTypes Tryz.prog).any (Tryz.prog.ifacesRec ·)))=true:=by kernel_rfl
theorem u3S:((Rows.layoutAlignedRow.mapsOut==Tryz.prog.mapsAmong Tryz.f4.resultTypes.toList))=true:=by kernel_rfl
theorem u3R:((Rows.layoutAlignedRow.loops==(Tryz.f4.params.toList++Rows.layoutAlignedSpec.plain.varTypes Tryz.prog).any (Tryz.prog.loopsFrom ·)))=true:=by kernel_rfl
theorem z9G:((Rows.layoutAlignedRow.wideKeys==(Tryz.f4.params.toList++Rows.layoutAlignedSpec.plain.varTypes Tryz.prog++Tryz.f4.resultTypes.toList).any (Tryz.prog.wideKeysFrom ·)))=true:=by kernel_rfl
theorem u3Q:(Rows.layoutAlignedSpec.vars.all (Tryz.prog.varReadable ·))=true:=by kernel_rfl
theorem u3P:(Tryz.f4.resultTypes.all (fun t=>Tryz.prog.readableRec t&&decide (t<Tryz.prog.types.size)))=true:=by kernel_rfl
theorem u3N:((Rows.layoutAlignedRow.ifacesOut==Tryz.f4.resultTypes.toList.any (Tryz.prog.ifacesRec ·)))=true:=by kernel_rfl
theorem u3M:((Rows.layoutAlignedRow.loopsOut==Tryz.f4.resultTypes.toList.any (Tryz.prog.loopsFrom ·)))=true:=by kernel_rfl
theorem u3L:((Rows.layoutAlignedRow.plainKeys==Tryz.prog.plainKeys))=true:=by kernel_rfl
theorem u3K:(Rows.layoutAlignedRow.shortTexts.isNone)=true:=by kernel_rfl
theorem z9F:(Tryz.prog.stopsHeard)=true:=by kernel_rfl
theorem u3J:(Tryz.prog.mayEnter)=true:=by kernel_rfl
theorem z9E:((Rows.layoutAlignedRow.lifted==Tryz.prog.liftsFinal))=true:=by kernel_rfl
theorem z9D:((Tryz.prog.make==some Rows.layoutAlignedRow.make))=true:=by kernel_rfl
theorem u3H:((Rows.layoutAlignedRow.kinds==(if Rows.layoutAlignedRow.domain.isEmpty then [] else Tryz.f4.params.toList.map fun t=>match Tryz.prog.underlying t with | some (.int k)=>some k | _=>none)))=true:=by kernel_rfl
theorem u3G:((Rows.layoutAlignedRow.pinned==Rows.layoutAlignedRow.pinnedBy))=true:=by kernel_rfl
theorem u3F:((Rows.layoutAlignedRow.veiled==(Tryz.f4.params.toList++Rows.layoutAlignedSpec.plain.varTypes Tryz.prog++Tryz.f4.resultTypes.toList).any (Tryz.prog.veiledRec ·)))=true:=by kernel_rfl
theorem u3E:(Rows.layoutAlignedRow.veiledFits Tryz.prog Tryz.f4.params.toList (Tryz.f4.params.toList++Rows.layoutAlignedSpec.plain.varTypes Tryz.prog++Tryz.f4.resultTypes.toList))=true:=by kernel_rfl
set_option maxRecDepth 100000 in
theorem y9V:joinedFacts Tryz.prog 4 Tryz.f4 Rows.layoutAlignedSpec Rows.layoutAlignedRow=true:=by
  unfold joinedFacts;exact x3P (x3P (x3P (x3P (x3P (x3P (x3P (x3P (x3P (x3P (x3P (x3P (x3P (x3P (x3P (x3P (x3P (x3P (x3P (x3P (x3P (x3P (x3P (x3P (x3P (x3P (x3P (x3P (x3P (x3P (x3P (v1X) v1W) v1V) v1U) v1T) v1S) v1R) v1Q) v1P) u3Y) u3X) u3W) u3V) u3U) u3T) u3S) u3R) z9G) u3Q) u3P) u3N) u3M) u3L) u3K) z9F) u3J) z9E) z9D) u3H) u3G) u3F) u3E
theorem u3C:Rows.LayoutAlignedSaid :=
  OpenClaim.holds_of_wide 4 Tryz.f4 rfl rfl rfl rfl rfl rfl rfl ⟨rfl,rfl,rfl,rfl,rfl⟩ rfl rfl rfl rfl rfl (by kernel_rfl) Tryz.func4 y9V
    (of_decide_eq_true (by kernel_rfl)) (by unfold Func.isWrapper; rw [if_neg (of_decide_eq_false (by kernel_rfl))]; exact ⟨rfl,rfl⟩)
    (fun os started H enc _=>y9U os started H enc)
theorem v1N:Rows.layoutAlignedRow.wfByText (OpenSpec.ofChange Rows.layoutAlignedSpec)=true:=by kernel_rfl
theorem z9C:Tryz.pinned.checked.prog.mainIs=some (true, "0b37673327b5ed7bc480cf8098c4a44163534662d2a1e5311548fec35bbad9f8".toList):=by kernel_rfl
theorem aligned_name:Tryz.prog.funcNamed "pliant/pliantlaw09.LayoutAligned" = some 4:=by kernel_rfl
theorem z4N:true=Tryz.pinned.checked.prog.looks []:=by kernel_rfl
theorem z4M:([27].all fun u=> !Tryz.prog.wantsStandIn u)=true:=by kernel_rfl
theorem z9H:false=Rows.layoutAlignedRow.goesBy Tryz.pinned.checked.prog:=by kernel_rfl
theorem aligned_card:Rows.LayoutAlignedCardSaid :=
  Claim7.holds_tied_plain_at .later [] [.data, .data, .data, .data, .sentinel, .sentinel, .data, .pinned] true (true, "0b37673327b5ed7bc480cf8098c4a44163534662d2a1e5311548fec35bbad9f8") true
    u3C (fun _ h=>by cases h) v1N (fun _ h=>by cases h) layoutAligned_row_tie rfl ⟨rfl,rfl⟩ z9C rfl
    (fun f fn hf hfn=>by
      obtain rfl:f=4:=Option.some.inj (aligned_name.symm.trans hf) |>.symm;obtain rfl:fn=Tryz.f4:=(Option.some.inj (Tryz.func4.symm.trans hfn)).symm;exact ⟨z4N,fun j t ht=>by
        rw [Tryz.params4] at ht;have hm:t∈[27]:=by simpa using Array.mem_of_getElem? ht
        exact (show Tryz.prog.wantsStandIn t=false by simpa using List.all_eq_true.1 z4M t hm)⟩)
    z9H
end Go.Proofs.YtadehgdfijjikaaGreatDoor
