/-
  LAYOUTUNITS: for every shape and two units (shapes of more than 60 nodes are let by), the law returns true and leaves its arguments as they were. Conditions: the eight listed package variables read as the program's text lays them.
-/
import Derived.Test.YtadehgdfijjikaaGreatDoorCards
import Derived.Test.YtadehgdfijjikaaGreatDoorTie
import Derived.Test.YtadehgdfijjikaaGreatDoorS9
import Derived.Test.YtadehgdfijjikaaGreatDoorO1
import Derived.Test.YtadehgdfijjikaaGreatDoorT4
import Derived.Carry
import Derived.SevenTiedAt
import Derived.Stop.Joined
import Derived.ChangeMaps5
set_option linter.all false
namespace Go.Proofs.YtadehgdfijjikaaGreatDoor
open Go.ChangeShapes Go.WideShapes Go.ChangeAt Go.RowKit Go.Joins Go.Deep
theorem z8N : laidOutB Tryz.prog = true:=by kernel_rfl
theorem cells42 : Tryz.prog.cellsOf 42 = 3:=by kernel_rfl
set_option maxRecDepth 100000 in
theorem v0W {H : Type} {enc : TypeId × Value -> H} {w : World} {base : Nat} {spare : Nat -> Bool} {held : Bool} {r : Reach} {b0 : Nat} {x : Value} {d : DataW H} {ps : List MemPlace} (hv : Value.okWide Tryz.prog w r b0 42 x) (h : DataW.Trod enc Tryz.prog w base spare held 42 x d ps) : ∃ u : Shp.Un,x = unV u:=by
  obtain ⟨c0,c1,c2,y0,y1,y2,m,rfl,rfl,rfl,h0,h1,h2⟩:=open_agg3 Tryz.underlying42 (by kernel_rfl) cells42 hv h
  obtain ⟨s,e0,rfl, -⟩:=DataW.trod_int Tryz.underlying3 h0
  obtain ⟨b,e1,rfl, -⟩:=DataW.trod_int Tryz.underlying3 h1
  obtain ⟨a,e2,rfl, -⟩:=DataW.trod_int Tryz.underlying3 h2
  simp at e0 e1 e2
  subst e0 e1 e2
  exact ⟨⟨s,b,a⟩,rfl⟩
set_option maxRecDepth 100000 in
theorem z3D (os : Os) (started : os.Started) (H : Type) (enc : TypeId × Value -> H) :
    ReturnsInHanded {} Tryz.checked os 6 .any (fun w args=>(Rows.layoutUnitsSpec.pre enc Tryz.prog Tryz.f6 Rows.layoutUnitsRow.domain false w args /\ laidMetH Tryz.prog Rows.layoutUnitsRow.laid w) /\ sizedMet enc Tryz.prog Tryz.f6 (OpenSpec.ofChange Rows.layoutUnitsSpec) false w args)
      (Rows.layoutUnitsSpec.post enc Tryz.prog Tryz.f6 false true false false):=by
  refine returnsInHanded_of_change_and (C:=Tryz.checked) (X:=fun w _=>laidMetH Tryz.prog Rows.layoutUnitsRow.laid w) (fun _ _ _ hh h=>h.of_heap hh) u9P started (by kernel_rfl) Tryz.func6
    (ChangeSpec.witness_shaped (enc:=enc) (C:=Tryz.checked) (os:=os) (X:=fun w _=>laidMetH Tryz.prog Rows.layoutUnitsRow.laid w) false (World.laidAll Tryz.prog os Rows.layoutUnitsRow.laid) #[.agg #[.slice none 0 0, .slice none 0 0, .int .i64 0, .int .i64 0, .int .i64 0, .bool false, .string ⟨#[]⟩, .bool false], .agg #[.int .i64 0, .int .i64 0, .int .i64 0], .agg #[.int .i64 0, .int .i64 0, .int .i64 0]] 8 (World.laidAll_os _ _ _)
      (World.shaped_of_ZipB (by kernel_rfl) (by kernel_rfl)) (by kernel_rfl) (by kernel_rfl) (by kernel_rfl)
      (by rw [MakeChecks.laidMetH_plain _ _ _ (by kernel_rfl)]; exact laidMet_laidAll _ (by kernel_rfl) (by kernel_rfl))) ?_
  intro W base args ds gs before hval0 hW hc _ hL _
  have hL2 : laidMetH Tryz.prog Rows.layoutUnitsRow.laid W:=hL
  rw [MakeChecks.laidMetH_plain _ _ _ (by kernel_rfl)] at hL2
  have hgl : Xec.Glob W:=glob_of hL2 (by simp [Rows.layoutUnitsRow])
  have hval : ∀ (j : Nat) t v,Tryz.f6.params[j]? = some t -> args[j]? = some v -> Value.okWide Tryz.prog W .any base t v:=hval0
  have hW':=hW
  obtain ⟨p,q,hA0,hV,rfl,_,_⟩:=hW
  have hA : DataW.TrodAll enc Tryz.prog W 0 (fun _=>true) true Tryz.f6.params.toList args.toList ds p:=hA0
  rw [Tryz.params6] at hA hval
  obtain ⟨v0,v1,v2,d0,d1,d2,p0,p1,p2,rfl,rfl,rfl,h0,h1,h2⟩:=trodAll_three hA
  obtain ⟨rfl,rfl⟩:=trodVars_none hV
  have hlt : ∀ x ∈ p0 ++ p1 ++ p2,x.block < W.heap.size:=fun x hx=>by
    have:=hW'.lt x (by simpa using hx)
    simpa using this
  have k0:=h0
  have k1:=h1
  have k2:=h2
  obtain ⟨dv,pv,s,rfl,hs⟩:=open_sh (hval 0 27 v0 rfl rfl) h0
  obtain ⟨u,rfl⟩:=v0W (hval 1 42 v1 rfl rfl) h1
  obtain ⟨v,rfl⟩:=v0W (hval 2 42 v2 rfl rfl) h2
  clear hA0 hval0
  simp only [List.append_nil] at hW'
  refine (u9N s dv pv u v W hgl hs).mono fun e W' ⟨he,hB⟩=> ?_
  subst he
  exact ⟨_,rfl,_,_,_,[],p0 ++ (p1 ++ p2),[],hW',trodAll_mk1 (shut_bool Tryz.underlying4 _),trodAll_mk3 (Below.trod z8N (by kernel_rfl) (of_decide_eq_true (by kernel_rfl)) k0 hB (fun x hx=>hlt x (by simp [hx]))) (Below.trod z8N (by kernel_rfl) (of_decide_eq_true (by kernel_rfl)) k1 hB (fun x hx=>hlt x (by simp [hx]))) (Below.trod z8N (by kernel_rfl) (of_decide_eq_true (by kernel_rfl)) k2 hB (fun x hx=>hlt x (by simp [hx]))),rfl,hB.frame _,fun h=>by cases h⟩
theorem x3C {a b : Bool} (ha : a = true) (hb : b = true) : (a && b) = true:=by rw [ha,hb]; rfl
theorem rec_of {P : Program} {f g h : FuncId} {fn : Func} (h1 : (P.closure f).contains g = true) (h2 : P.funcs[g]? = some fn) (h3 : (P.leadsTo fn).contains h = true) (h4 : (P.closure h).contains g = true) : P.recurses f = true:=by
  unfold Program.recurses
  rw [Bool.or_eq_true]
  refine .inr (List.any_eq_true.2 ⟨g,by simpa using h1,List.any_eq_true.2 ⟨h, ?_,h4⟩⟩)
  rw [h2]
  simpa using h3
theorem units_k1 : (Rows.layoutUnitsRow.wf (OpenSpec.ofChange Rows.layoutUnitsSpec)) = true:=by kernel_rfl
theorem units_k2 : (laidOutB Tryz.prog) = true:=by kernel_rfl
theorem units_k3 : (mapsRowed Tryz.prog) = true:=by kernel_rfl
theorem units_k4 : (Tryz.f6.params.all (Tryz.prog.readableRec ·)) = true:=by kernel_rfl
theorem units_k5 : (namedTie Tryz.prog Rows.layoutUnitsRow.named Rows.layoutUnitsSpec.vars) = true:=by kernel_rfl
theorem units_k6 : ((Rows.layoutUnitsRow.stops == [])) = true:=by kernel_rfl
theorem units_k7 : ((Tryz.prog.stops == [])) = true:=by kernel_rfl
theorem units_k8 : ((Rows.layoutUnitsRow.knobs == [])) = true:=by kernel_rfl
theorem units_k9 : ((Tryz.prog.stopKnobs == [])) = true:=by kernel_rfl
theorem u9M : ((Rows.layoutUnitsRow.inPlace == Tryz.prog.inPlace 6)) = true:=by kernel_rfl
theorem u9L : ((Rows.layoutUnitsRow.unfollowed == Tryz.prog.unfollowed 6)) = true:=by kernel_rfl
theorem u8S : Tryz.prog.recurses 6 = true:=rec_of (g:= 91) (h:= 91) (by kernel_rfl) Tryz.func91 (by kernel_rfl) (by kernel_rfl)
theorem u9K : (Rows.layoutUnitsRow.recurses == Tryz.prog.recurses 6) = true:=by rw [u8S]; rfl
theorem u9J : ((Rows.layoutUnitsRow.named == Tryz.prog.varsNamed 6)) = true:=by kernel_rfl
theorem u9H : ((Rows.layoutUnitsRow.maps == (Tryz.f6.params.toList ++ Rows.layoutUnitsSpec.plain.varTypes Tryz.prog).any (Tryz.prog.mapsRec ·))) = true:=by kernel_rfl
theorem u9G : ((Rows.layoutUnitsRow.ifaces == (Tryz.f6.params.toList ++ Rows.layoutUnitsSpec.plain.varTypes Tryz.prog).any (Tryz.prog.ifacesRec ·))) = true:=by kernel_rfl
theorem u9F : ((Rows.layoutUnitsRow.mapsOut == Tryz.prog.mapsAmong Tryz.f6.resultTypes.toList)) = true:=by kernel_rfl
theorem u9E : ((Rows.layoutUnitsRow.loops == (Tryz.f6.params.toList ++ Rows.layoutUnitsSpec.plain.varTypes Tryz.prog).any (Tryz.prog.loopsFrom ·))) = true:=by kernel_rfl
theorem u4Z : ((Rows.layoutUnitsRow.wideKeys == (Tryz.f6.params.toList ++ Rows.layoutUnitsSpec.plain.varTypes Tryz.prog ++ Tryz.f6.resultTypes.toList).any (Tryz.prog.wideKeysFrom ·))) = true:=by kernel_rfl
theorem u9D : (Rows.layoutUnitsSpec.vars.all (Tryz.prog.varReadable ·)) = true:=by kernel_rfl
theorem u9C : (Tryz.f6.resultTypes.all (fun t=>Tryz.prog.readableRec t && decide (t < Tryz.prog.types.size))) = true:=by kernel_rfl
theorem u9B : ((Rows.layoutUnitsRow.ifacesOut == Tryz.f6.resultTypes.toList.any (Tryz.prog.ifacesRec ·))) = true:=by kernel_rfl
theorem u9A : ((Rows.layoutUnitsRow.loopsOut == Tryz.f6.resultTypes.toList.any (Tryz.prog.loopsFrom ·))) = true:=by kernel_rfl
theorem u8Z : ((Rows.layoutUnitsRow.plainKeys == Tryz.prog.plainKeys)) = true:=by kernel_rfl
theorem u8Y : (Rows.layoutUnitsRow.shortTexts.isNone) = true:=by kernel_rfl
theorem u4Y : (Tryz.prog.stopsHeard) = true:=by kernel_rfl
theorem u8X : (Tryz.prog.mayEnter) = true:=by kernel_rfl
theorem u4X : ((Rows.layoutUnitsRow.lifted == Tryz.prog.liftsFinal)) = true:=by kernel_rfl
theorem u4W : ((Tryz.prog.make == some Rows.layoutUnitsRow.make)) = true:=by kernel_rfl
theorem u8W : ((Rows.layoutUnitsRow.kinds == (if Rows.layoutUnitsRow.domain.isEmpty then [] else Tryz.f6.params.toList.map fun t=>match Tryz.prog.underlying t with | some (.int k)=>some k | _=>none))) = true:=by kernel_rfl
theorem u8V : ((Rows.layoutUnitsRow.pinned == Rows.layoutUnitsRow.pinnedBy)) = true:=by kernel_rfl
theorem u8U : ((Rows.layoutUnitsRow.veiled == (Tryz.f6.params.toList ++ Rows.layoutUnitsSpec.plain.varTypes Tryz.prog ++ Tryz.f6.resultTypes.toList).any (Tryz.prog.veiledRec ·))) = true:=by kernel_rfl
theorem u8T : (Rows.layoutUnitsRow.veiledFits Tryz.prog Tryz.f6.params.toList (Tryz.f6.params.toList ++ Rows.layoutUnitsSpec.plain.varTypes Tryz.prog ++ Tryz.f6.resultTypes.toList)) = true:=by kernel_rfl
set_option maxRecDepth 100000 in
theorem z3E : joinedFacts Tryz.prog 6 Tryz.f6 Rows.layoutUnitsSpec Rows.layoutUnitsRow = true:=by
  unfold joinedFacts
  exact x3C (x3C (x3C (x3C (x3C (x3C (x3C (x3C (x3C (x3C (x3C (x3C (x3C (x3C (x3C (x3C (x3C (x3C (x3C (x3C (x3C (x3C (x3C (x3C (x3C (x3C (x3C (x3C (x3C (x3C (x3C (units_k1) units_k2) units_k3) units_k4) units_k5) units_k6) units_k7) units_k8) units_k9) u9M) u9L) u9K) u9J) u9H) u9G) u9F) u9E) u4Z) u9D) u9C) u9B) u9A) u8Z) u8Y) u4Y) u8X) u4X) u4W) u8W) u8V) u8U) u8T
theorem u8R : Rows.LayoutUnitsSaid :=
  OpenClaim.holds_of_wide 6 Tryz.f6 rfl rfl rfl rfl rfl rfl rfl ⟨rfl,rfl,rfl,rfl,rfl⟩ rfl rfl rfl rfl rfl (by kernel_rfl) Tryz.func6 z3E
    (of_decide_eq_true (by kernel_rfl)) (by unfold Func.isWrapper; rw [if_neg (of_decide_eq_false (by kernel_rfl))]; exact ⟨rfl,rfl⟩)
    (fun os started H enc _=>z3D os started H enc)
theorem units_wf : Rows.layoutUnitsRow.wfByText (OpenSpec.ofChange Rows.layoutUnitsSpec) = true:=by kernel_rfl
theorem u4V : Tryz.pinned.checked.prog.mainIs = some (true, "0b37673327b5ed7bc480cf8098c4a44163534662d2a1e5311548fec35bbad9f8".toList):=by kernel_rfl
theorem units_name : Tryz.prog.funcNamed "pliant/pliantlaw09.LayoutUnits" = some 6:=by kernel_rfl
theorem z7D : true = Tryz.pinned.checked.prog.looks []:=by kernel_rfl
theorem z7C : ([27, 42, 42].all fun u=> !Tryz.prog.wantsStandIn u) = true:=by kernel_rfl
theorem u5A : false = Rows.layoutUnitsRow.goesBy Tryz.pinned.checked.prog:=by kernel_rfl
theorem units_card : Rows.LayoutUnitsCardSaid :=
  Claim7.holds_tied_plain_at .later [] [.data, .data, .data, .data, .sentinel, .sentinel, .data, .pinned] true (true, "0b37673327b5ed7bc480cf8098c4a44163534662d2a1e5311548fec35bbad9f8") true
    u8R (fun _ h=>by cases h) units_wf (fun _ h=>by cases h) layoutUnits_row_tie rfl ⟨rfl,rfl⟩ u4V rfl
    (fun f fn hf hfn=>by
      obtain rfl : f = 6:=Option.some.inj (units_name.symm.trans hf) |>.symm
      obtain rfl : fn = Tryz.f6:=(Option.some.inj (Tryz.func6.symm.trans hfn)).symm
      exact ⟨z7D,fun j t ht=>by
        rw [Tryz.params6] at ht
        have hm : t ∈ [27, 42, 42]:=by simpa using Array.mem_of_getElem? ht
        exact (show Tryz.prog.wantsStandIn t = false by simpa using List.all_eq_true.1 z7C t hm)⟩)
    u5A
end Go.Proofs.YtadehgdfijjikaaGreatDoor
