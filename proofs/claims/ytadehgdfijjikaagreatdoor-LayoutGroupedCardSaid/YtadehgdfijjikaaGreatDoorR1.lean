/-
  LAYOUTGROUPED: for every shape and number (a shape of more than 60 nodes, or one that the reference's Check refuses, is let by), the law returns true and leaves its arguments as they were. Conditions: the eight listed package variables read as the program's text lays them.
-/
import Derived.Test.YtadehgdfijjikaaGreatDoorCards
import Derived.Test.YtadehgdfijjikaaGreatDoorTie
import Derived.Test.YtadehgdfijjikaaGreatDoorS12
import Derived.Test.YtadehgdfijjikaaGreatDoorO2
import Derived.Test.YtadehgdfijjikaaGreatDoorT4
import Derived.Carry
import Derived.SevenTiedAt
import Derived.Stop.Joined
import Derived.ChangeMaps5
set_option linter.all false
namespace Go.Proofs.YtadehgdfijjikaaGreatDoor
open Go.ChangeShapes Go.WideShapes Go.ChangeAt Go.RowKit Go.Joins Go.Deep
open Go.ChangeMaps (open_string shut_string)
theorem v4K : laidOutB Tryz.prog = true:=by kernel_rfl
set_option maxRecDepth 100000 in
theorem y9E (os : Os) (started : os.Started) (H : Type) (enc : TypeId × Value -> H) :
    ReturnsInHanded {} Tryz.checked os 8 .any (fun w args=>(Rows.layoutGroupedSpec.pre enc Tryz.prog Tryz.f8 Rows.layoutGroupedRow.domain false w args /\ laidMetH Tryz.prog Rows.layoutGroupedRow.laid w) /\ sizedMet enc Tryz.prog Tryz.f8 (OpenSpec.ofChange Rows.layoutGroupedSpec) false w args)
      (Rows.layoutGroupedSpec.post enc Tryz.prog Tryz.f8 false true false false):=by
  refine returnsInHanded_of_change_and (C:=Tryz.checked) (X:=fun w _=>laidMetH Tryz.prog Rows.layoutGroupedRow.laid w) (fun _ _ _ hh h=>h.of_heap hh) v1S started (by kernel_rfl) Tryz.func8
    (ChangeSpec.witness_shaped (enc:=enc) (C:=Tryz.checked) (os:=os) (X:=fun w _=>laidMetH Tryz.prog Rows.layoutGroupedRow.laid w) false (World.laidAll Tryz.prog os Rows.layoutGroupedRow.laid) #[.agg #[.slice none 0 0, .slice none 0 0, .int .i64 0, .int .i64 0, .int .i64 0, .bool false, .string ⟨#[]⟩, .bool false], .int .i64 0] 8 (World.laidAll_os _ _ _)
      (World.shaped_of_ZipB (by kernel_rfl) (by kernel_rfl)) (by kernel_rfl) (by kernel_rfl) (by kernel_rfl)
      (by rw [MakeChecks.laidMetH_plain _ _ _ (by kernel_rfl)]; exact laidMet_laidAll _ (by kernel_rfl) (by kernel_rfl))) ?_
  intro W base args ds gs before hval0 hW hc _ hL _;have hL2 : laidMetH Tryz.prog Rows.layoutGroupedRow.laid W:=hL;rw [MakeChecks.laidMetH_plain _ _ _ (by kernel_rfl)] at hL2
  have hgl : Xec.Glob W:=glob_of hL2 (by simp [Rows.layoutGroupedRow])
  have hval : ∀ (j : Nat) t v,Tryz.f8.params[j]? = some t -> args[j]? = some v -> Value.okWide Tryz.prog W .any base t v:=hval0;have hW':=hW;obtain ⟨p,q,hA0,hV,rfl,_,_⟩:=hW;have hA : DataW.TrodAll enc Tryz.prog W 0 (fun _=>true) true Tryz.f8.params.toList args.toList ds p:=hA0;rw [Tryz.params8] at hA hval;obtain ⟨v0,v1,d0,d1,p0,p1,rfl,rfl,rfl,h0,h1⟩:=trodAll_two hA;obtain ⟨rfl,rfl⟩:=trodVars_none hV;have hlt : ∀ x ∈ p0 ++ p1,x.block < W.heap.size:=fun x hx=>by
    have:=hW'.lt x (by simpa using hx)
    simpa using this
  have k0:=h0;have k1:=h1;obtain ⟨dv0,pv0,x0,hx0,y0⟩:=open_sh (hval 0 27 v0 rfl rfl) h0;subst hx0;obtain ⟨x1,hx1, -, -, -⟩:=open_int Tryz.underlying3 (hval 1 3 v1 rfl rfl) h1;subst hx1;clear hA0 hval0;simp only [List.append_nil] at hW';refine (u1K x0 dv0 pv0 x1 W hgl y0 (fun a n c h=>open_cap (by rw [h]) k0)).mono fun e W' ⟨he,hB⟩=> ?_
  subst he;exact ⟨_,rfl,_,_,_,[],p0 ++ p1,[],hW',trodAll_mk1 (shut_bool Tryz.underlying4 _),trodAll_mk2 (Below.trod v4K (by kernel_rfl) (of_decide_eq_true (by kernel_rfl)) k0 hB (fun x hx=>hlt x (by simp [hx]))) (Below.trod v4K (by kernel_rfl) (of_decide_eq_true (by kernel_rfl)) k1 hB (fun x hx=>hlt x (by simp [hx]))),rfl,hB.frame _,fun h=>by cases h⟩
theorem x3H {a b : Bool} (ha : a = true) (hb : b = true) : (a && b) = true:=by rw [ha,hb]; rfl
theorem rec_of {P : Program} {f g h : FuncId} {fn : Func} (h1 : (P.closure f).contains g = true) (h2 : P.funcs[g]? = some fn) (h3 : (P.leadsTo fn).contains h = true) (h4 : (P.closure h).contains g = true) : P.recurses f = true:=by
  unfold Program.recurses;rw [Bool.or_eq_true];refine .inr (List.any_eq_true.2 ⟨g,by simpa using h1,List.any_eq_true.2 ⟨h, ?_,h4⟩⟩)
  rw [h2]
  simpa using h3
theorem u9A : (Rows.layoutGroupedRow.wf (OpenSpec.ofChange Rows.layoutGroupedSpec)) = true:=by kernel_rfl
theorem u8Z : (laidOutB Tryz.prog) = true:=by kernel_rfl
theorem u8Y : (mapsRowed Tryz.prog) = true:=by kernel_rfl
theorem u8X : (Tryz.f8.params.all (Tryz.prog.readableRec ·)) = true:=by kernel_rfl
theorem u8W : (namedTie Tryz.prog Rows.layoutGroupedRow.named Rows.layoutGroupedSpec.vars) = true:=by kernel_rfl
theorem u8V : ((Rows.layoutGroupedRow.stops == [])) = true:=by kernel_rfl
theorem u8U : ((Tryz.prog.stops == [])) = true:=by kernel_rfl
theorem u8T : ((Rows.layoutGroupedRow.knobs == [])) = true:=by kernel_rfl
theorem u8S : ((Tryz.prog.stopKnobs == [])) = true:=by kernel_rfl
theorem u1J : ((Rows.layoutGroupedRow.inPlace == Tryz.prog.inPlace 8)) = true:=by kernel_rfl
theorem u1H : ((Rows.layoutGroupedRow.unfollowed == Tryz.prog.unfollowed 8)) = true:=by kernel_rfl
theorem u0P : Tryz.prog.recurses 8 = true:=rec_of (g:= 91) (h:= 91) (by kernel_rfl) Tryz.func91 (by kernel_rfl) (by kernel_rfl)
theorem u1G : (Rows.layoutGroupedRow.recurses == Tryz.prog.recurses 8) = true:=by rw [u0P]; rfl
theorem u1F : ((Rows.layoutGroupedRow.named == Tryz.prog.varsNamed 8)) = true:=by kernel_rfl
theorem u1E : ((Rows.layoutGroupedRow.maps == (Tryz.f8.params.toList ++ Rows.layoutGroupedSpec.plain.varTypes Tryz.prog).any (Tryz.prog.mapsRec ·))) = true:=by kernel_rfl
theorem u1D : ((Rows.layoutGroupedRow.ifaces == (Tryz.f8.params.toList ++ Rows.layoutGroupedSpec.plain.varTypes Tryz.prog).any (Tryz.prog.ifacesRec ·))) = true:=by kernel_rfl
theorem u1C : ((Rows.layoutGroupedRow.mapsOut == Tryz.prog.mapsAmong Tryz.f8.resultTypes.toList)) = true:=by kernel_rfl
theorem u1B : ((Rows.layoutGroupedRow.loops == (Tryz.f8.params.toList ++ Rows.layoutGroupedSpec.plain.varTypes Tryz.prog).any (Tryz.prog.loopsFrom ·))) = true:=by kernel_rfl
theorem z6T : ((Rows.layoutGroupedRow.wideKeys == (Tryz.f8.params.toList ++ Rows.layoutGroupedSpec.plain.varTypes Tryz.prog ++ Tryz.f8.resultTypes.toList).any (Tryz.prog.wideKeysFrom ·))) = true:=by kernel_rfl
theorem u1A : (Rows.layoutGroupedSpec.vars.all (Tryz.prog.varReadable ·)) = true:=by kernel_rfl
theorem u0Z : (Tryz.f8.resultTypes.all (fun t=>Tryz.prog.readableRec t && decide (t < Tryz.prog.types.size))) = true:=by kernel_rfl
theorem u0Y : ((Rows.layoutGroupedRow.ifacesOut == Tryz.f8.resultTypes.toList.any (Tryz.prog.ifacesRec ·))) = true:=by kernel_rfl
theorem u0X : ((Rows.layoutGroupedRow.loopsOut == Tryz.f8.resultTypes.toList.any (Tryz.prog.loopsFrom ·))) = true:=by kernel_rfl
theorem u0W : ((Rows.layoutGroupedRow.plainKeys == Tryz.prog.plainKeys)) = true:=by kernel_rfl
theorem u0V : (Rows.layoutGroupedRow.shortTexts.isNone) = true:=by kernel_rfl
theorem z6S : (Tryz.prog.stopsHeard) = true:=by kernel_rfl
theorem u0U : (Tryz.prog.mayEnter) = true:=by kernel_rfl
theorem z6R : ((Rows.layoutGroupedRow.lifted == Tryz.prog.liftsFinal)) = true:=by kernel_rfl
theorem z6Q : ((Tryz.prog.make == some Rows.layoutGroupedRow.make)) = true:=by kernel_rfl
theorem u0T : ((Rows.layoutGroupedRow.kinds == (if Rows.layoutGroupedRow.domain.isEmpty then [] else Tryz.f8.params.toList.map fun t=>match Tryz.prog.underlying t with | some (.int k)=>some k | _=>none))) = true:=by kernel_rfl
theorem u0S : ((Rows.layoutGroupedRow.pinned == Rows.layoutGroupedRow.pinnedBy)) = true:=by kernel_rfl
theorem u0R : ((Rows.layoutGroupedRow.veiled == (Tryz.f8.params.toList ++ Rows.layoutGroupedSpec.plain.varTypes Tryz.prog ++ Tryz.f8.resultTypes.toList).any (Tryz.prog.veiledRec ·))) = true:=by kernel_rfl
theorem u0Q : (Rows.layoutGroupedRow.veiledFits Tryz.prog Tryz.f8.params.toList (Tryz.f8.params.toList ++ Rows.layoutGroupedSpec.plain.varTypes Tryz.prog ++ Tryz.f8.resultTypes.toList)) = true:=by kernel_rfl
set_option maxRecDepth 100000 in
theorem y9F : joinedFacts Tryz.prog 8 Tryz.f8 Rows.layoutGroupedSpec Rows.layoutGroupedRow = true:=by
  unfold joinedFacts;exact x3H (x3H (x3H (x3H (x3H (x3H (x3H (x3H (x3H (x3H (x3H (x3H (x3H (x3H (x3H (x3H (x3H (x3H (x3H (x3H (x3H (x3H (x3H (x3H (x3H (x3H (x3H (x3H (x3H (x3H (x3H (u9A) u8Z) u8Y) u8X) u8W) u8V) u8U) u8T) u8S) u1J) u1H) u1G) u1F) u1E) u1D) u1C) u1B) z6T) u1A) u0Z) u0Y) u0X) u0W) u0V) z6S) u0U) z6R) z6Q) u0T) u0S) u0R) u0Q
theorem u0N : Rows.LayoutGroupedSaid :=
  OpenClaim.holds_of_wide 8 Tryz.f8 rfl rfl rfl rfl rfl rfl rfl ⟨rfl,rfl,rfl,rfl,rfl⟩ rfl rfl rfl rfl rfl (by kernel_rfl) Tryz.func8 y9F
    (of_decide_eq_true (by kernel_rfl)) (by unfold Func.isWrapper; rw [if_neg (of_decide_eq_false (by kernel_rfl))]; exact ⟨rfl,rfl⟩)
    (fun os started H enc _=>y9E os started H enc)
theorem u8R : Rows.layoutGroupedRow.wfByText (OpenSpec.ofChange Rows.layoutGroupedSpec) = true:=by kernel_rfl
theorem z6P : Tryz.pinned.checked.prog.mainIs = some (true, "0b37673327b5ed7bc480cf8098c4a44163534662d2a1e5311548fec35bbad9f8".toList):=by kernel_rfl
theorem grouped_name : Tryz.prog.funcNamed "pliant/pliantlaw09.LayoutGrouped" = some 8:=by kernel_rfl
theorem z2Q : true = Tryz.pinned.checked.prog.looks []:=by kernel_rfl
theorem z2P : ([27, 3].all fun u=> !Tryz.prog.wantsStandIn u) = true:=by kernel_rfl
theorem z6U : false = Rows.layoutGroupedRow.goesBy Tryz.pinned.checked.prog:=by kernel_rfl
theorem grouped_card : Rows.LayoutGroupedCardSaid :=
  Claim7.holds_tied_plain_at .later [] [.data, .data, .data, .data, .sentinel, .sentinel, .data, .pinned] true (true, "0b37673327b5ed7bc480cf8098c4a44163534662d2a1e5311548fec35bbad9f8") true
    u0N (fun _ h=>by cases h) u8R (fun _ h=>by cases h) layoutGrouped_row_tie rfl ⟨rfl,rfl⟩ z6P rfl
    (fun f fn hf hfn=>by
      obtain rfl : f = 8:=Option.some.inj (grouped_name.symm.trans hf) |>.symm;obtain rfl : fn = Tryz.f8:=(Option.some.inj (Tryz.func8.symm.trans hfn)).symm;exact ⟨z2Q,fun j t ht=>by
        rw [Tryz.params8] at ht;have hm : t ∈ [27, 3]:=by simpa using Array.mem_of_getElem? ht
        exact (show Tryz.prog.wantsStandIn t = false by simpa using List.all_eq_true.1 z2P t hm)⟩)
    z6U
end Go.Proofs.YtadehgdfijjikaaGreatDoor
