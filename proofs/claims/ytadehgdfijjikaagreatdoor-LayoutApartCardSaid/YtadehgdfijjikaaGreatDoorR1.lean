/-
  LAYOUTAPART: for every shape (one that is not valid, or has more than 30 nodes, or takes more than 2000 bits or elements, is let by), the law returns true and leaves its argument as it was. Conditions: the eight listed package variables read as the program's text lays them.
-/
import Derived.Test.YtadehgdfijjikaaGreatDoorCards
import Derived.Test.YtadehgdfijjikaaGreatDoorTie
import Derived.Carry
import Derived.ChangeMaps5
import Derived.Test.YtadehgdfijjikaaGreatDoorS16
import Derived.Test.YtadehgdfijjikaaGreatDoorO1
import Derived.Test.YtadehgdfijjikaaGreatDoorT4
set_option linter.all false
set_option maxRecDepth 100000
namespace Go.Proofs.YtadehgdfijjikaaGreatDoor
open Go.ChangeShapes Go.WideShapes Go.ChangeAt Go.RowKit Go.Joins Go.Deep
open Go.ChangeMaps (open_string shut_string)
theorem v5B:laidOutB Tryz.prog=true:=by kernel_rfl
theorem apart_lifted (os:Os)(started:os.Started)(H:Type)(enc:TypeId×Value->H):ReturnsInHanded {} Tryz.checked os 9 .any (fun w args=>(Rows.layoutApartSpec.pre enc Tryz.prog Tryz.f9 Rows.layoutApartRow.domain false w args/\laidMetH Tryz.prog Rows.layoutApartRow.laid w)/\sizedMet enc Tryz.prog Tryz.f9 (OpenSpec.ofChange Rows.layoutApartSpec) false w args) (Rows.layoutApartSpec.post enc Tryz.prog Tryz.f9 false true false false):=by refine returnsInHanded_of_change_and (C:=Tryz.checked) (X:=fun w _=>laidMetH Tryz.prog Rows.layoutApartRow.laid w) (fun _ _ _ hh h=>h.of_heap hh) v1J started (by kernel_rfl) Tryz.func9 (ChangeSpec.witness_shaped (enc:=enc) (C:=Tryz.checked) (os:=os) (X:=fun w _=>laidMetH Tryz.prog Rows.layoutApartRow.laid w) false (World.laidAll Tryz.prog os Rows.layoutApartRow.laid) #[.agg #[.slice none 0 0,.slice none 0 0,.int .i64 0,.int .i64 0,.int .i64 0,.bool false,.string ⟨#[]⟩,.bool false]] 8 (World.laidAll_os _ _ _) (World.shaped_of_ZipB (by kernel_rfl) (by kernel_rfl)) (by kernel_rfl) (by kernel_rfl) (by kernel_rfl) (by rw[MakeChecks.laidMetH_plain _ _ _ (by kernel_rfl)];exact laidMet_laidAll _ (by kernel_rfl) (by kernel_rfl))) ?_;intro W base args ds gs before mw hW hc _ hL _;have A4:laidMetH Tryz.prog Rows.layoutApartRow.laid W:=hL;rw[MakeChecks.laidMetH_plain _ _ _ (by kernel_rfl)]at A4;have dK:Xec.Ke W:=glob_of A4 (by simp[Rows.layoutApartRow]);have eU:∀(j:Nat) t v,Tryz.f9.params[j]? =some t->args[j]? =some v->Value.okWide Tryz.prog W .any base t v:=mw;have oX:=hW;obtain⟨p,q,Bh,hV,rfl,_,_⟩:=hW;have hA:DataW.TrodAll enc Tryz.prog W 0 (fun _=>true) true Tryz.f9.params.toList args.toList ds p:=Bh;rw[Tryz.params9]at hA eU;obtain⟨v0,d0,rfl,rfl,h0⟩:=trodAll_one hA;obtain⟨rfl,rfl⟩:=trodVars_none hV;have ah:∀x∈p,x.block<W.heap.size:=fun x hx=>by{have:=oX.lt x (by simpa using hx);simpa using this};have k0:=h0;obtain⟨dv0,pv0,x0,eT,y0⟩:=open_sh (eU 0 27 v0 rfl rfl) h0;subst eT;clear Bh mw;simp only[List.append_nil]at oX;refine(apart_any x0 dv0 pv0 W dK y0).mono fun e W' ⟨he,hB⟩=>?_;subst he;exact⟨_,rfl,_,_,_,[],p,[],oX,trodAll_mk1 (shut_bool Tryz.underlying4 _),trodAll_mk1 (Below.trod v5B (by kernel_rfl) (of_decide_eq_true (by kernel_rfl)) k0 hB (fun x hx=>ah x (by simp[hx]))),rfl,hB.frame _,fun h=>by cases h⟩
theorem GK {a b:Bool}(ha:a=true)(hb:b=true):(a&&b)=true:=by rw[ha,hb];rfl
theorem rec_of {P:Program}{f g h:FuncId}{fn:Func}(h1:(P.closure f).contains g=true)(h2:P.funcs[g]? =some fn)(h3:(P.leadsTo fn).contains h=true)(h4:(P.closure h).contains g=true):P.recurses f=true:=by unfold Program.recurses;rw[Bool.or_eq_true];refine .inr (List.any_eq_true.2 ⟨g,by simpa using h1,List.any_eq_true.2 ⟨h,?_,h4⟩⟩);rw[h2];simpa using h3
theorem apart_k1:(Rows.layoutApartRow.wf (OpenSpec.ofChange Rows.layoutApartSpec))=true:=by kernel_rfl
theorem apart_k2:(laidOutB Tryz.prog)=true:=by kernel_rfl
theorem apart_k3:(mapsRowed Tryz.prog)=true:=by kernel_rfl
theorem apart_k4:(Tryz.f9.params.all (Tryz.prog.readableRec ·))=true:=by kernel_rfl
theorem apart_k5:(namedTie Tryz.prog Rows.layoutApartRow.named Rows.layoutApartSpec.vars)=true:=by kernel_rfl
theorem apart_k6:((Rows.layoutApartRow.stops==[]))=true:=by kernel_rfl
theorem apart_k7:((Tryz.prog.stops==[]))=true:=by kernel_rfl
theorem apart_k8:((Rows.layoutApartRow.knobs==[]))=true:=by kernel_rfl
theorem apart_k9:((Tryz.prog.stopKnobs==[]))=true:=by kernel_rfl
theorem apart_k10:((Rows.layoutApartRow.inPlace==Tryz.prog.inPlace 9))=true:=by kernel_rfl
theorem apart_k11:((Rows.layoutApartRow.unfollowed==Tryz.prog.unfollowed 9))=true:=by kernel_rfl
theorem apart_rec:Tryz.prog.recurses 9=true:=rec_of (g:=91) (h:=91) (by kernel_rfl) Tryz.func91 (by kernel_rfl) (by kernel_rfl)
theorem apart_k12:(Rows.layoutApartRow.recurses==Tryz.prog.recurses 9)=true:=by rw[apart_rec];rfl
theorem apart_k13:((Rows.layoutApartRow.named==Tryz.prog.varsNamed 9))=true:=by kernel_rfl
theorem apart_k14:((Rows.layoutApartRow.maps==(Tryz.f9.params.toList++Rows.layoutApartSpec.plain.varTypes Tryz.prog).any (Tryz.prog.mapsRec ·)))=true:=by kernel_rfl
theorem apart_k15:((Rows.layoutApartRow.ifaces==(Tryz.f9.params.toList++Rows.layoutApartSpec.plain.varTypes Tryz.prog).any (Tryz.prog.ifacesRec ·)))=true:=by kernel_rfl
theorem apart_k16:((Rows.layoutApartRow.mapsOut==Tryz.prog.mapsAmong Tryz.f9.resultTypes.toList))=true:=by kernel_rfl
theorem apart_k17:((Rows.layoutApartRow.loops==(Tryz.f9.params.toList++Rows.layoutApartSpec.plain.varTypes Tryz.prog).any (Tryz.prog.loopsFrom ·)))=true:=by kernel_rfl
theorem apart_k17b:((Rows.layoutApartRow.wideKeys==(Tryz.f9.params.toList++Rows.layoutApartSpec.plain.varTypes Tryz.prog++Tryz.f9.resultTypes.toList).any (Tryz.prog.wideKeysFrom ·)))=true:=by kernel_rfl
theorem apart_k18:(Rows.layoutApartSpec.vars.all (Tryz.prog.varReadable ·))=true:=by kernel_rfl
theorem apart_k19:(Tryz.f9.resultTypes.all (fun t=>Tryz.prog.readableRec t&&decide (t<Tryz.prog.types.size)))=true:=by kernel_rfl
theorem apart_k20:((Rows.layoutApartRow.ifacesOut==Tryz.f9.resultTypes.toList.any (Tryz.prog.ifacesRec ·)))=true:=by kernel_rfl
theorem apart_k21:((Rows.layoutApartRow.loopsOut==Tryz.f9.resultTypes.toList.any (Tryz.prog.loopsFrom ·)))=true:=by kernel_rfl
theorem apart_k22:((Rows.layoutApartRow.plainKeys==Tryz.prog.plainKeys))=true:=by kernel_rfl
theorem apart_k23:(Rows.layoutApartRow.shortTexts.isNone)=true:=by kernel_rfl
theorem apart_k23b:(Tryz.prog.stopsHeard)=true:=by kernel_rfl
theorem apart_k24:(Tryz.prog.mayEnter)=true:=by kernel_rfl
theorem apart_k24b:((Rows.layoutApartRow.lifted==Tryz.prog.liftsFinal))=true:=by kernel_rfl
theorem apart_k24c:((Tryz.prog.make==some Rows.layoutApartRow.make))=true:=by kernel_rfl
theorem apart_k25:((Rows.layoutApartRow.kinds==(if Rows.layoutApartRow.domain.isEmpty then[]else Tryz.f9.params.toList.map fun t=>match Tryz.prog.underlying t with|some (.int k)=>some k|_=>none)))=true:=by kernel_rfl
theorem apart_k26:((Rows.layoutApartRow.pinned==Rows.layoutApartRow.pinnedBy))=true:=by kernel_rfl
theorem apart_k27:((Rows.layoutApartRow.veiled==(Tryz.f9.params.toList++Rows.layoutApartSpec.plain.varTypes Tryz.prog++Tryz.f9.resultTypes.toList).any (Tryz.prog.veiledRec ·)))=true:=by kernel_rfl
theorem apart_k28:(Rows.layoutApartRow.veiledFits Tryz.prog Tryz.f9.params.toList (Tryz.f9.params.toList++Rows.layoutApartSpec.plain.varTypes Tryz.prog++Tryz.f9.resultTypes.toList))=true:=by kernel_rfl
theorem apart_closed:joinedFacts Tryz.prog 9 Tryz.f9 Rows.layoutApartSpec Rows.layoutApartRow=true:=by unfold joinedFacts;exact GK (GK (GK (GK (GK (GK (GK (GK (GK (GK (GK (GK (GK (GK (GK (GK (GK (GK (GK (GK (GK (GK (GK (GK (GK (GK (GK (GK (GK (GK (GK (apart_k1) apart_k2) apart_k3) apart_k4) apart_k5) apart_k6) apart_k7) apart_k8) apart_k9) apart_k10) apart_k11) apart_k12) apart_k13) apart_k14) apart_k15) apart_k16) apart_k17) apart_k17b) apart_k18) apart_k19) apart_k20) apart_k21) apart_k22) apart_k23) apart_k23b) apart_k24) apart_k24b) apart_k24c) apart_k25) apart_k26) apart_k27) apart_k28
theorem apart_row:Rows.LayoutApartSaid:=OpenClaim.holds_of_wide 9 Tryz.f9 rfl rfl rfl rfl rfl rfl rfl ⟨rfl,rfl,rfl,rfl,rfl⟩ rfl rfl rfl rfl rfl (by kernel_rfl) Tryz.func9 apart_closed (of_decide_eq_true (by kernel_rfl)) (by unfold Func.isWrapper;rw[if_neg (of_decide_eq_false (by kernel_rfl))];exact⟨rfl,rfl⟩) (fun os started H enc _=>apart_lifted os started H enc)
theorem apart_wf:Rows.layoutApartRow.wfByText (OpenSpec.ofChange Rows.layoutApartSpec)=true:=by kernel_rfl
theorem apart_main:Tryz.pinned.checked.prog.mainIs=some (true, "0b37673327b5ed7bc480cf8098c4a44163534662d2a1e5311548fec35bbad9f8".toList):=by kernel_rfl
theorem apart_name:Tryz.prog.funcNamed "pliant/pliantlaw09.LayoutApart" =some 9:=by kernel_rfl
theorem apart_looks:true=Tryz.pinned.checked.prog.looks []:=by kernel_rfl
theorem apart_stand:([27].all fun u=>!Tryz.prog.wantsStandIn u)=true:=by kernel_rfl
theorem apart_goes:false=Rows.layoutApartRow.goesBy Tryz.pinned.checked.prog:=by kernel_rfl
theorem apart_card:Rows.LayoutApartCardSaid:=Claim7.holds_tied_plain_at .later [] [.data,.data,.data,.data,.sentinel,.sentinel,.data,.pinned] true (true, "0b37673327b5ed7bc480cf8098c4a44163534662d2a1e5311548fec35bbad9f8") true apart_row (fun _ h=>by cases h) apart_wf (fun _ h=>by cases h) layoutApart_row_tie rfl ⟨rfl,rfl⟩ apart_main rfl (fun f fn hf jm=>by obtain rfl:f=9:=Option.some.inj (apart_name.symm.trans hf)|>.symm;obtain rfl:fn=Tryz.f9:=(Option.some.inj (Tryz.func9.symm.trans jm)).symm;exact⟨apart_looks,fun j t ht=>by(rw[Tryz.params9]at ht;have hm:t∈[27]:=by simpa using Array.mem_of_getElem? ht);exact(show Tryz.prog.wantsStandIn t=false by simpa using List.all_eq_true.1 apart_stand t hm)⟩) apart_goes
end Go.Proofs.YtadehgdfijjikaaGreatDoor
