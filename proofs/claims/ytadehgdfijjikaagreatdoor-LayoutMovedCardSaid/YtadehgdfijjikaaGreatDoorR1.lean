/-
  LAYOUTMOVED: for every shape and number (a shape of more than 60 nodes, or one that the reference's Check refuses, is let by), the law returns true and leaves its arguments as they were. Conditions: the eight listed package variables read as the program's text lays them.
-/
import Derived.Test.YtadehgdfijjikaaGreatDoorCards
import Derived.Test.YtadehgdfijjikaaGreatDoorTie
import Derived.Test.YtadehgdfijjikaaGreatDoorS15
import Derived.Test.YtadehgdfijjikaaGreatDoorO2
import Derived.Test.YtadehgdfijjikaaGreatDoorT4
import Derived.Carry
import Derived.SevenTiedAt
import Derived.Stop.Joined
import Derived.ChangeMaps5
set_option linter.all false
set_option maxRecDepth 100000
namespace Go.Proofs.YtadehgdfijjikaaGreatDoor
open Go.ChangeShapes Go.WideShapes Go.ChangeAt Go.RowKit Go.Joins Go.Deep
open Go.ChangeMaps (open_string shut_string)
theorem v5B:laidOutB Tryz.prog=true:=by kernel_rfl
theorem z6W (os:Os)(started:os.Started)(H:Type)(enc:TypeId×Value->H) :
    ReturnsInHanded {} Tryz.checked os 7 .any (fun w args=>(Rows.layoutMovedSpec.pre enc Tryz.prog Tryz.f7 Rows.layoutMovedRow.domain false w args/\laidMetH Tryz.prog Rows.layoutMovedRow.laid w)/\sizedMet enc Tryz.prog Tryz.f7 (OpenSpec.ofChange Rows.layoutMovedSpec) false w args)
      (Rows.layoutMovedSpec.post enc Tryz.prog Tryz.f7 false true false false):=by
  refine returnsInHanded_of_change_and (C:=Tryz.checked) (X:=fun w _=>laidMetH Tryz.prog Rows.layoutMovedRow.laid w) (fun _ _ _ hh h=>h.of_heap hh) v1J started (by kernel_rfl) Tryz.func7
    (ChangeSpec.witness_shaped (enc:=enc) (C:=Tryz.checked) (os:=os) (X:=fun w _=>laidMetH Tryz.prog Rows.layoutMovedRow.laid w) false (World.laidAll Tryz.prog os Rows.layoutMovedRow.laid) #[.agg #[.slice none 0 0, .slice none 0 0, .int .i64 0, .int .i64 0, .int .i64 0, .bool false, .string ⟨#[]⟩, .bool false], .int .i64 0] 8 (World.laidAll_os _ _ _)
      (World.shaped_of_ZipB (by kernel_rfl) (by kernel_rfl)) (by kernel_rfl) (by kernel_rfl) (by kernel_rfl)
      (by rw [MakeChecks.laidMetH_plain _ _ _ (by kernel_rfl)];exact laidMet_laidAll _ (by kernel_rfl) (by kernel_rfl))) ?_
  intro W base args ds gs before jK hW hc _ hL _;have uP:laidMetH Tryz.prog Rows.layoutMovedRow.laid W:=hL;rw [MakeChecks.laidMetH_plain _ _ _ (by kernel_rfl)] at uP
  have cZ:Xec.Glob W:=glob_of uP (by simp [Rows.layoutMovedRow])
  have db:∀ (j:Nat) t v,Tryz.f7.params[j]? = some t->args[j]? = some v->Value.okWide Tryz.prog W .any base t v:=jK;have mc:=hW;obtain ⟨p,q,uX,hV,rfl,_,_⟩:=hW;have hA:DataW.TrodAll enc Tryz.prog W 0 (fun _=>true) true Tryz.f7.params.toList args.toList ds p:=uX;rw [Tryz.params7] at hA db;obtain ⟨v0,v1,d0,d1,p0,p1,rfl,rfl,rfl,h0,h1⟩:=trodAll_two hA;obtain ⟨rfl,rfl⟩:=trodVars_none hV;have ai:∀ x∈p0++p1,x.block<W.heap.size:=fun x hx=>by
    have:=mc.lt x (by simpa using hx)
    simpa using this
  have k0:=h0;have k1:=h1;obtain ⟨dv0,pv0,x0,dG,y0⟩:=open_sh (db 0 27 v0 rfl rfl) h0;subst dG;obtain ⟨x1,bX, -, -, -⟩:=open_int Tryz.underlying3 (db 1 3 v1 rfl rfl) h1;subst bX;clear uX jK;simp only [List.append_nil] at mc;refine (v4P x0 dv0 pv0 x1 W cZ y0).mono fun e W' ⟨he,hB⟩=>?_;subst he;exact ⟨_,rfl,_,_,_,[],p0++p1,[],mc,trodAll_mk1 (shut_bool Tryz.underlying4 _),trodAll_mk2 (Below.trod v5B (by kernel_rfl) (of_decide_eq_true (by kernel_rfl)) k0 hB (fun x hx=>ai x (by simp [hx]))) (Below.trod v5B (by kernel_rfl) (of_decide_eq_true (by kernel_rfl)) k1 hB (fun x hx=>ai x (by simp [hx]))),rfl,hB.frame _,fun h=>by cases h⟩
theorem x3R {a b:Bool}(ha:a=true)(hb:b=true):(a&&b)=true:=by rw [ha,hb];rfl
theorem rec_of {P:Program}{f g h:FuncId}{fn:Func}(h1:(P.closure f).contains g=true)(h2:P.funcs[g]? = some fn)(h3:(P.leadsTo fn).contains h=true)(h4:(P.closure h).contains g=true):P.recurses f=true:=by
  unfold Program.recurses;rw [Bool.or_eq_true];refine .inr (List.any_eq_true.2 ⟨g,by simpa using h1,List.any_eq_true.2 ⟨h, ?_,h4⟩⟩)
  rw [h2]
  simpa using h3
theorem moved_k1:(Rows.layoutMovedRow.wf (OpenSpec.ofChange Rows.layoutMovedSpec))=true:=by kernel_rfl
theorem moved_k2:(laidOutB Tryz.prog)=true:=by kernel_rfl
theorem moved_k3:(mapsRowed Tryz.prog)=true:=by kernel_rfl
theorem moved_k4:(Tryz.f7.params.all (Tryz.prog.readableRec ·))=true:=by kernel_rfl
theorem moved_k5:(namedTie Tryz.prog Rows.layoutMovedRow.named Rows.layoutMovedSpec.vars)=true:=by kernel_rfl
theorem moved_k6:((Rows.layoutMovedRow.stops==[]))=true:=by kernel_rfl
theorem moved_k7:((Tryz.prog.stops==[]))=true:=by kernel_rfl
theorem moved_k8:((Rows.layoutMovedRow.knobs==[]))=true:=by kernel_rfl
theorem moved_k9:((Tryz.prog.stopKnobs==[]))=true:=by kernel_rfl
theorem v4N:((Rows.layoutMovedRow.inPlace==Tryz.prog.inPlace 7))=true:=by kernel_rfl
theorem v4M:((Rows.layoutMovedRow.unfollowed==Tryz.prog.unfollowed 7))=true:=by kernel_rfl
theorem v3S:Tryz.prog.recurses 7=true:=rec_of (g:= 91) (h:= 91) (by kernel_rfl) Tryz.func91 (by kernel_rfl) (by kernel_rfl)
theorem v4L:(Rows.layoutMovedRow.recurses==Tryz.prog.recurses 7)=true:=by rw [v3S];rfl
theorem v4K:((Rows.layoutMovedRow.named==Tryz.prog.varsNamed 7))=true:=by kernel_rfl
theorem v4J:((Rows.layoutMovedRow.maps==(Tryz.f7.params.toList++Rows.layoutMovedSpec.plain.varTypes Tryz.prog).any (Tryz.prog.mapsRec ·)))=true:=by kernel_rfl
theorem v4H:((Rows.layoutMovedRow.ifaces==(Tryz.f7.params.toList++Rows.layoutMovedSpec.plain.varTypes Tryz.prog).any (Tryz.prog.ifacesRec ·)))=true:=by kernel_rfl
theorem v4G:((Rows.layoutMovedRow.mapsOut==Tryz.prog.mapsAmong Tryz.f7.resultTypes.toList))=true:=by kernel_rfl
theorem v4F:((Rows.layoutMovedRow.loops==(Tryz.f7.params.toList++Rows.layoutMovedSpec.plain.varTypes Tryz.prog).any (Tryz.prog.loopsFrom ·)))=true:=by kernel_rfl
theorem u8F:((Rows.layoutMovedRow.wideKeys==(Tryz.f7.params.toList++Rows.layoutMovedSpec.plain.varTypes Tryz.prog++Tryz.f7.resultTypes.toList).any (Tryz.prog.wideKeysFrom ·)))=true:=by kernel_rfl
theorem v4E:(Rows.layoutMovedSpec.vars.all (Tryz.prog.varReadable ·))=true:=by kernel_rfl
theorem v4D:(Tryz.f7.resultTypes.all (fun t=>Tryz.prog.readableRec t&&decide (t<Tryz.prog.types.size)))=true:=by kernel_rfl
theorem v4C:((Rows.layoutMovedRow.ifacesOut==Tryz.f7.resultTypes.toList.any (Tryz.prog.ifacesRec ·)))=true:=by kernel_rfl
theorem v4B:((Rows.layoutMovedRow.loopsOut==Tryz.f7.resultTypes.toList.any (Tryz.prog.loopsFrom ·)))=true:=by kernel_rfl
theorem v4A:((Rows.layoutMovedRow.plainKeys==Tryz.prog.plainKeys))=true:=by kernel_rfl
theorem v3Z:(Rows.layoutMovedRow.shortTexts.isNone)=true:=by kernel_rfl
theorem u8E:(Tryz.prog.stopsHeard)=true:=by kernel_rfl
theorem v3Y:(Tryz.prog.mayEnter)=true:=by kernel_rfl
theorem u8D:((Rows.layoutMovedRow.lifted==Tryz.prog.liftsFinal))=true:=by kernel_rfl
theorem u8C:((Tryz.prog.make==some Rows.layoutMovedRow.make))=true:=by kernel_rfl
theorem v3X:((Rows.layoutMovedRow.kinds==(if Rows.layoutMovedRow.domain.isEmpty then [] else Tryz.f7.params.toList.map fun t=>match Tryz.prog.underlying t with | some (.int k)=>some k | _=>none)))=true:=by kernel_rfl
theorem v3W:((Rows.layoutMovedRow.pinned==Rows.layoutMovedRow.pinnedBy))=true:=by kernel_rfl
theorem v3V:((Rows.layoutMovedRow.veiled==(Tryz.f7.params.toList++Rows.layoutMovedSpec.plain.varTypes Tryz.prog++Tryz.f7.resultTypes.toList).any (Tryz.prog.veiledRec ·)))=true:=by kernel_rfl
theorem v3U:(Rows.layoutMovedRow.veiledFits Tryz.prog Tryz.f7.params.toList (Tryz.f7.params.toList++Rows.layoutMovedSpec.plain.varTypes Tryz.prog++Tryz.f7.resultTypes.toList))=true:=by kernel_rfl
theorem z6X:joinedFacts Tryz.prog 7 Tryz.f7 Rows.layoutMovedSpec Rows.layoutMovedRow=true:=by
  unfold joinedFacts;exact x3R (x3R (x3R (x3R (x3R (x3R (x3R (x3R (x3R (x3R (x3R (x3R (x3R (x3R (x3R (x3R (x3R (x3R (x3R (x3R (x3R (x3R (x3R (x3R (x3R (x3R (x3R (x3R (x3R (x3R (x3R (moved_k1) moved_k2) moved_k3) moved_k4) moved_k5) moved_k6) moved_k7) moved_k8) moved_k9) v4N) v4M) v4L) v4K) v4J) v4H) v4G) v4F) u8F) v4E) v4D) v4C) v4B) v4A) v3Z) u8E) v3Y) u8D) u8C) v3X) v3W) v3V) v3U
theorem v3R:Rows.LayoutMovedSaid :=
  OpenClaim.holds_of_wide 7 Tryz.f7 rfl rfl rfl rfl rfl rfl rfl ⟨rfl,rfl,rfl,rfl,rfl⟩ rfl rfl rfl rfl rfl (by kernel_rfl) Tryz.func7 z6X
    (of_decide_eq_true (by kernel_rfl)) (by unfold Func.isWrapper;rw [if_neg (of_decide_eq_false (by kernel_rfl))];exact ⟨rfl,rfl⟩)
    (fun os started H enc _=>z6W os started H enc)
theorem moved_wf:Rows.layoutMovedRow.wfByText (OpenSpec.ofChange Rows.layoutMovedSpec)=true:=by kernel_rfl
theorem u8B:Tryz.pinned.checked.prog.mainIs=some (true, "0b37673327b5ed7bc480cf8098c4a44163534662d2a1e5311548fec35bbad9f8".toList):=by kernel_rfl
theorem moved_name:Tryz.prog.funcNamed "pliant/pliantlaw09.LayoutMoved" = some 7:=by kernel_rfl
theorem u0S:true=Tryz.pinned.checked.prog.looks []:=by kernel_rfl
theorem u0R:([27, 3].all fun u=> !Tryz.prog.wantsStandIn u)=true:=by kernel_rfl
theorem u8G:false=Rows.layoutMovedRow.goesBy Tryz.pinned.checked.prog:=by kernel_rfl
theorem moved_card:Rows.LayoutMovedCardSaid :=
  Claim7.holds_tied_plain_at .later [] [.data, .data, .data, .data, .sentinel, .sentinel, .data, .pinned] true (true, "0b37673327b5ed7bc480cf8098c4a44163534662d2a1e5311548fec35bbad9f8") true
    v3R (fun _ h=>by cases h) moved_wf (fun _ h=>by cases h) layoutMoved_row_tie rfl ⟨rfl,rfl⟩ u8B rfl
    (fun f fn hf oJ=>by
      obtain rfl:f=7:=Option.some.inj (moved_name.symm.trans hf) |>.symm;obtain rfl:fn=Tryz.f7:=(Option.some.inj (Tryz.func7.symm.trans oJ)).symm;exact ⟨u0S,fun j t ht=>by
        rw [Tryz.params7] at ht;have hm:t∈[27, 3]:=by simpa using Array.mem_of_getElem? ht
        exact (show Tryz.prog.wantsStandIn t=false by simpa using List.all_eq_true.1 u0R t hm)⟩)
    u8G
end Go.Proofs.YtadehgdfijjikaaGreatDoor
