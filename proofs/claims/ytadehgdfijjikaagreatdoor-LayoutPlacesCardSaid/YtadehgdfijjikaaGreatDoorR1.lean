/-
  LAYOUTPLACES: for every shape, path, subscripts and bit (a shape of more than 40 nodes, and a path or subscripts of more than 200 numbers, are let by), the law returns true and leaves its arguments as they were. Conditions: the eight listed package variables read as the program's text lays them.
-/
import Derived.Test.YtadehgdfijjikaaGreatDoorCards
import Derived.Test.YtadehgdfijjikaaGreatDoorTie
import Derived.Carry
import Derived.ChangeMaps5
import Derived.Test.YtadehgdfijjikaaGreatDoorS18
import Derived.Test.YtadehgdfijjikaaGreatDoorO1
import Derived.Test.YtadehgdfijjikaaGreatDoorT4
set_option linter.all false
set_option maxRecDepth 100000
namespace Go.Proofs.YtadehgdfijjikaaGreatDoor
open Go.ChangeShapes Go.WideShapes Go.ChangeAt Go.RowKit Go.Joins Go.Deep
open Go.ChangeMaps (open_string shut_string)
theorem v5B:laidOutB Tryz.prog=true:=by kernel_rfl
theorem places_lifted (os:Os)(started:os.Started)(H:Type)(enc:TypeId×Value->H):ReturnsInHanded {} Tryz.checked os 11 .any (fun w args=>(Rows.layoutPlacesSpec.pre enc Tryz.prog Tryz.f11 Rows.layoutPlacesRow.domain false w args/\laidMetH Tryz.prog Rows.layoutPlacesRow.laid w)/\sizedMet enc Tryz.prog Tryz.f11 (OpenSpec.ofChange Rows.layoutPlacesSpec) false w args) (Rows.layoutPlacesSpec.post enc Tryz.prog Tryz.f11 false true false false):=by refine returnsInHanded_of_change_and (C:=Tryz.checked) (X:=fun w _=>laidMetH Tryz.prog Rows.layoutPlacesRow.laid w) (fun _ _ _ hh h=>h.of_heap hh) v1J started (by kernel_rfl) Tryz.func11 (ChangeSpec.witness_shaped (enc:=enc) (C:=Tryz.checked) (os:=os) (X:=fun w _=>laidMetH Tryz.prog Rows.layoutPlacesRow.laid w) false (World.laidAll Tryz.prog os Rows.layoutPlacesRow.laid) #[.agg #[.slice none 0 0,.slice none 0 0,.int .i64 0,.int .i64 0,.int .i64 0,.bool false,.string ⟨#[]⟩,.bool false],.slice none 0 0,.slice none 0 0,.int .i64 0] 8 (World.laidAll_os _ _ _) (World.shaped_of_ZipB (by kernel_rfl) (by kernel_rfl)) (by kernel_rfl) (by kernel_rfl) (by kernel_rfl) (by rw[MakeChecks.laidMetH_plain _ _ _ (by kernel_rfl)];exact laidMet_laidAll _ (by kernel_rfl) (by kernel_rfl))) ?_;intro W base args ds gs before ml hW hc _ hL _;have Af:laidMetH Tryz.prog Rows.layoutPlacesRow.laid W:=hL;rw[MakeChecks.laidMetH_plain _ _ _ (by kernel_rfl)]at Af;have dN:Xec.KY W:=glob_of Af (by simp[Rows.layoutPlacesRow]);have dF:∀(j:Nat) t v,Tryz.f11.params[j]? =some t->args[j]? =some v->Value.okWide Tryz.prog W .any base t v:=ml;have oX:=hW;obtain⟨p,q,Ar,hV,rfl,_,_⟩:=hW;have hA:DataW.TrodAll enc Tryz.prog W 0 (fun _=>true) true Tryz.f11.params.toList args.toList ds p:=Ar;rw[Tryz.params11]at hA dF;obtain⟨v0,v1,v2,v3,d0,d1,d2,d3,p0,p1,p2,p3,rfl,rfl,rfl,h0,h1,h2,h3⟩:=trodAll_four hA;obtain⟨rfl,rfl⟩:=trodVars_none hV;have ah:∀x∈p0++p1++p2++p3,x.block<W.heap.size:=fun x hx=>by{have:=oX.lt x (by simpa using hx);simpa using this};have k0:=h0;have k1:=h1;have k2:=h2;have k3:=h3;obtain⟨dv0,pv0,x0,eU,y0⟩:=open_sh (dF 0 27 v0 rfl rfl) h0;subst eU;obtain⟨x1,y1⟩:=open_ints (dF 1 32 v1 rfl rfl) h1;obtain⟨x2,y2⟩:=open_ints (dF 2 32 v2 rfl rfl) h2;obtain⟨x3,bx,-,-,-⟩:=open_int Tryz.underlying3 (dF 3 3 v3 rfl rfl) h3;subst bx;clear Ar ml;simp only[List.append_nil]at oX;refine(places_any x0 dv0 pv0 v1 v2 x1 x2 x3 W dN y0 y1 y2).mono fun e W' ⟨he,hB⟩=>?_;subst he;exact⟨_,rfl,_,_,_,[],p0++(p1++(p2++p3)),[],oX,trodAll_mk1 (shut_bool Tryz.underlying4 _),trodAll_mk4 (Below.trod v5B (by kernel_rfl) (of_decide_eq_true (by kernel_rfl)) k0 hB (fun x hx=>ah x (by simp[hx]))) (Below.trod v5B (by kernel_rfl) (of_decide_eq_true (by kernel_rfl)) k1 hB (fun x hx=>ah x (by simp[hx]))) (Below.trod v5B (by kernel_rfl) (of_decide_eq_true (by kernel_rfl)) k2 hB (fun x hx=>ah x (by simp[hx]))) (Below.trod v5B (by kernel_rfl) (of_decide_eq_true (by kernel_rfl)) k3 hB (fun x hx=>ah x (by simp[hx]))),rfl,hB.frame _,fun h=>by cases h⟩
theorem x3R {a b:Bool}(ha:a=true)(hb:b=true):(a&&b)=true:=by rw[ha,hb];rfl
theorem rec_of {P:Program}{f g h:FuncId}{fn:Func}(h1:(P.closure f).contains g=true)(h2:P.funcs[g]? =some fn)(h3:(P.leadsTo fn).contains h=true)(h4:(P.closure h).contains g=true):P.recurses f=true:=by unfold Program.recurses;rw[Bool.or_eq_true];refine .inr (List.any_eq_true.2 ⟨g,by simpa using h1,List.any_eq_true.2 ⟨h,?_,h4⟩⟩);rw[h2];simpa using h3
theorem places_k1:(Rows.layoutPlacesRow.wf (OpenSpec.ofChange Rows.layoutPlacesSpec))=true:=by kernel_rfl
theorem places_k2:(laidOutB Tryz.prog)=true:=by kernel_rfl
theorem places_k3:(mapsRowed Tryz.prog)=true:=by kernel_rfl
theorem places_k4:(Tryz.f11.params.all (Tryz.prog.readableRec ·))=true:=by kernel_rfl
theorem places_k5:(namedTie Tryz.prog Rows.layoutPlacesRow.named Rows.layoutPlacesSpec.vars)=true:=by kernel_rfl
theorem places_k6:((Rows.layoutPlacesRow.stops==[]))=true:=by kernel_rfl
theorem places_k7:((Tryz.prog.stops==[]))=true:=by kernel_rfl
theorem places_k8:((Rows.layoutPlacesRow.knobs==[]))=true:=by kernel_rfl
theorem places_k9:((Tryz.prog.stopKnobs==[]))=true:=by kernel_rfl
theorem places_k10:((Rows.layoutPlacesRow.inPlace==Tryz.prog.inPlace 11))=true:=by kernel_rfl
theorem places_k11:((Rows.layoutPlacesRow.unfollowed==Tryz.prog.unfollowed 11))=true:=by kernel_rfl
theorem places_rec:Tryz.prog.recurses 11=true:=rec_of (g:=91) (h:=91) (by kernel_rfl) Tryz.func91 (by kernel_rfl) (by kernel_rfl)
theorem places_k12:(Rows.layoutPlacesRow.recurses==Tryz.prog.recurses 11)=true:=by rw[places_rec];rfl
theorem places_k13:((Rows.layoutPlacesRow.named==Tryz.prog.varsNamed 11))=true:=by kernel_rfl
theorem places_k14:((Rows.layoutPlacesRow.maps==(Tryz.f11.params.toList++Rows.layoutPlacesSpec.plain.varTypes Tryz.prog).any (Tryz.prog.mapsRec ·)))=true:=by kernel_rfl
theorem places_k15:((Rows.layoutPlacesRow.ifaces==(Tryz.f11.params.toList++Rows.layoutPlacesSpec.plain.varTypes Tryz.prog).any (Tryz.prog.ifacesRec ·)))=true:=by kernel_rfl
theorem places_k16:((Rows.layoutPlacesRow.mapsOut==Tryz.prog.mapsAmong Tryz.f11.resultTypes.toList))=true:=by kernel_rfl
theorem places_k17:((Rows.layoutPlacesRow.loops==(Tryz.f11.params.toList++Rows.layoutPlacesSpec.plain.varTypes Tryz.prog).any (Tryz.prog.loopsFrom ·)))=true:=by kernel_rfl
theorem places_k17b:((Rows.layoutPlacesRow.wideKeys==(Tryz.f11.params.toList++Rows.layoutPlacesSpec.plain.varTypes Tryz.prog++Tryz.f11.resultTypes.toList).any (Tryz.prog.wideKeysFrom ·)))=true:=by kernel_rfl
theorem places_k18:(Rows.layoutPlacesSpec.vars.all (Tryz.prog.varReadable ·))=true:=by kernel_rfl
theorem places_k19:(Tryz.f11.resultTypes.all (fun t=>Tryz.prog.readableRec t&&decide (t<Tryz.prog.types.size)))=true:=by kernel_rfl
theorem places_k20:((Rows.layoutPlacesRow.ifacesOut==Tryz.f11.resultTypes.toList.any (Tryz.prog.ifacesRec ·)))=true:=by kernel_rfl
theorem places_k21:((Rows.layoutPlacesRow.loopsOut==Tryz.f11.resultTypes.toList.any (Tryz.prog.loopsFrom ·)))=true:=by kernel_rfl
theorem places_k22:((Rows.layoutPlacesRow.plainKeys==Tryz.prog.plainKeys))=true:=by kernel_rfl
theorem places_k23:(Rows.layoutPlacesRow.shortTexts.isNone)=true:=by kernel_rfl
theorem places_k23b:(Tryz.prog.stopsHeard)=true:=by kernel_rfl
theorem places_k24:(Tryz.prog.mayEnter)=true:=by kernel_rfl
theorem places_k24b:((Rows.layoutPlacesRow.lifted==Tryz.prog.liftsFinal))=true:=by kernel_rfl
theorem places_k24c:((Tryz.prog.make==some Rows.layoutPlacesRow.make))=true:=by kernel_rfl
theorem places_k25:((Rows.layoutPlacesRow.kinds==(if Rows.layoutPlacesRow.domain.isEmpty then[]else Tryz.f11.params.toList.map fun t=>match Tryz.prog.underlying t with|some (.int k)=>some k|_=>none)))=true:=by kernel_rfl
theorem places_k26:((Rows.layoutPlacesRow.pinned==Rows.layoutPlacesRow.pinnedBy))=true:=by kernel_rfl
theorem places_k27:((Rows.layoutPlacesRow.veiled==(Tryz.f11.params.toList++Rows.layoutPlacesSpec.plain.varTypes Tryz.prog++Tryz.f11.resultTypes.toList).any (Tryz.prog.veiledRec ·)))=true:=by kernel_rfl
theorem places_k28:(Rows.layoutPlacesRow.veiledFits Tryz.prog Tryz.f11.params.toList (Tryz.f11.params.toList++Rows.layoutPlacesSpec.plain.varTypes Tryz.prog++Tryz.f11.resultTypes.toList))=true:=by kernel_rfl
theorem places_closed:joinedFacts Tryz.prog 11 Tryz.f11 Rows.layoutPlacesSpec Rows.layoutPlacesRow=true:=by unfold joinedFacts;exact x3R (x3R (x3R (x3R (x3R (x3R (x3R (x3R (x3R (x3R (x3R (x3R (x3R (x3R (x3R (x3R (x3R (x3R (x3R (x3R (x3R (x3R (x3R (x3R (x3R (x3R (x3R (x3R (x3R (x3R (x3R (places_k1) places_k2) places_k3) places_k4) places_k5) places_k6) places_k7) places_k8) places_k9) places_k10) places_k11) places_k12) places_k13) places_k14) places_k15) places_k16) places_k17) places_k17b) places_k18) places_k19) places_k20) places_k21) places_k22) places_k23) places_k23b) places_k24) places_k24b) places_k24c) places_k25) places_k26) places_k27) places_k28
theorem places_row:Rows.LayoutPlacesSaid:=OpenClaim.holds_of_wide 11 Tryz.f11 rfl rfl rfl rfl rfl rfl rfl ⟨rfl,rfl,rfl,rfl,rfl⟩ rfl rfl rfl rfl rfl (by kernel_rfl) Tryz.func11 places_closed (of_decide_eq_true (by kernel_rfl)) (by unfold Func.isWrapper;rw[if_neg (of_decide_eq_false (by kernel_rfl))];exact⟨rfl,rfl⟩) (fun os started H enc _=>places_lifted os started H enc)
theorem places_wf:Rows.layoutPlacesRow.wfByText (OpenSpec.ofChange Rows.layoutPlacesSpec)=true:=by kernel_rfl
theorem places_main:Tryz.pinned.checked.prog.mainIs=some (true, "0b37673327b5ed7bc480cf8098c4a44163534662d2a1e5311548fec35bbad9f8".toList):=by kernel_rfl
theorem places_name:Tryz.prog.funcNamed "pliant/pliantlaw09.LayoutPlaces" =some 11:=by kernel_rfl
theorem places_looks:true=Tryz.pinned.checked.prog.looks []:=by kernel_rfl
theorem places_stand:([27,32,32,3].all fun u=>!Tryz.prog.wantsStandIn u)=true:=by kernel_rfl
theorem places_goes:false=Rows.layoutPlacesRow.goesBy Tryz.pinned.checked.prog:=by kernel_rfl
theorem places_card:Rows.LayoutPlacesCardSaid:=Claim7.holds_tied_plain_at .later [] [.data,.data,.data,.data,.sentinel,.sentinel,.data,.pinned] true (true, "0b37673327b5ed7bc480cf8098c4a44163534662d2a1e5311548fec35bbad9f8") true places_row (fun _ h=>by cases h) places_wf (fun _ h=>by cases h) layoutPlaces_row_tie rfl ⟨rfl,rfl⟩ places_main rfl (fun f fn hf sP=>by obtain rfl:f=11:=Option.some.inj (places_name.symm.trans hf)|>.symm;obtain rfl:fn=Tryz.f11:=(Option.some.inj (Tryz.func11.symm.trans sP)).symm;exact⟨places_looks,fun j t ht=>by(rw[Tryz.params11]at ht;have hm:t∈[27,32,32,3]:=by simpa using Array.mem_of_getElem? ht);exact(show Tryz.prog.wantsStandIn t=false by simpa using List.all_eq_true.1 places_stand t hm)⟩) places_goes
end Go.Proofs.YtadehgdfijjikaaGreatDoor
