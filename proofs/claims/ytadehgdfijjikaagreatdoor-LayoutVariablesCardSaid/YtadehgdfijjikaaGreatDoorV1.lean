/-
  LAYOUTVARIABLES: for every address, list of shapes and shape (more than 20 shapes, or one of more than 30 nodes, are let by), the law returns true and leaves its arguments as they were. Conditions: the eight listed package variables read as the program's text lays them.
-/
import Derived.Test.YtadehgdfijjikaaGreatDoorCards
import Derived.Test.YtadehgdfijjikaaGreatDoorTie
import Derived.Test.YtadehgdfijjikaaGreatDoorS10
import Derived.Test.YtadehgdfijjikaaGreatDoorO1
import Derived.Test.YtadehgdfijjikaaGreatDoorT4
import Derived.Carry
import Derived.SevenTiedAt
import Derived.Stop.Joined
import Derived.ChangeMaps5
set_option linter.all false
namespace Go.Proofs.YtadehgdfijjikaaGreatDoor
open Go.ChangeShapes Go.WideShapes Go.ChangeAt Go.RowKit Go.Joins Go.Deep
open Go.ChangeMaps (open_string shut_string)
theorem laidOut : laidOutB Tryz.prog = true:=by kernel_rfl
set_option maxRecDepth 100000 in
theorem y3B (os : Os) (started : os.Started) (H : Type) (enc : TypeId × Value -> H) :
    ReturnsInHanded {} Tryz.checked os 3 .any (fun w args=>(Rows.layoutVariablesSpec.pre enc Tryz.prog Tryz.f3 Rows.layoutVariablesRow.domain false w args /\ laidMetH Tryz.prog Rows.layoutVariablesRow.laid w) /\ sizedMet enc Tryz.prog Tryz.f3 (OpenSpec.ofChange Rows.layoutVariablesSpec) false w args)
      (Rows.layoutVariablesSpec.post enc Tryz.prog Tryz.f3 false true false false):=by
  refine returnsInHanded_of_change_and (C:=Tryz.checked) (X:=fun w _=>laidMetH Tryz.prog Rows.layoutVariablesRow.laid w) (fun _ _ _ hh h=>h.of_heap hh) z5H started (by kernel_rfl) Tryz.func3
    (ChangeSpec.witness_shaped (enc:=enc) (C:=Tryz.checked) (os:=os) (X:=fun w _=>laidMetH Tryz.prog Rows.layoutVariablesRow.laid w) false (World.laidAll Tryz.prog os Rows.layoutVariablesRow.laid) #[.int .i64 0, .slice none 0 0, .agg #[.slice none 0 0, .slice none 0 0, .int .i64 0, .int .i64 0, .int .i64 0, .bool false, .string ⟨#[]⟩, .bool false]] 8 (World.laidAll_os _ _ _)
      (World.shaped_of_ZipB (by kernel_rfl) (by kernel_rfl)) (by kernel_rfl) (by kernel_rfl) (by kernel_rfl)
      (by rw [MakeChecks.laidMetH_plain _ _ _ (by kernel_rfl)]; exact laidMet_laidAll _ (by kernel_rfl) (by kernel_rfl))) ?_
  intro W base args ds gs before hval0 hW hc _ hL _
  have hL2 : laidMetH Tryz.prog Rows.layoutVariablesRow.laid W:=hL
  rw [MakeChecks.laidMetH_plain _ _ _ (by kernel_rfl)] at hL2
  have hgl : Xec.Glob W:=v4S hL2 (by simp [Rows.layoutVariablesRow])
  have hval : ∀ (j : Nat) t v,Tryz.f3.params[j]? = some t -> args[j]? = some v -> Value.okWide Tryz.prog W .any base t v:=hval0
  have hW':=hW
  obtain ⟨p,q,hA0,hV,rfl,_,_⟩:=hW
  have hA : DataW.TrodAll enc Tryz.prog W 0 (fun _=>true) true Tryz.f3.params.toList args.toList ds p:=hA0
  rw [Tryz.params3] at hA hval
  obtain ⟨v0,v1,v2,d0,d1,d2,p0,p1,p2,rfl,rfl,rfl,h0,h1,h2⟩:=trodAll_three hA
  obtain ⟨rfl,rfl⟩:=trodVars_none hV
  have hlt : ∀ x ∈ p0 ++ p1 ++ p2,x.block < W.heap.size:=fun x hx=>by
    have:=hW'.lt x (by simpa using hx)
    simpa using this
  have k0:=h0
  have k1:=h1
  have k2:=h2
  obtain ⟨x0,hx0, -, -, -⟩:=open_int Tryz.underlying3 (hval 0 3 v0 rfl rfl) h0
  subst hx0
  obtain ⟨x1,y1⟩:=v2X (hval 1 22 v1 rfl rfl) h1
  obtain ⟨dv2,pv2,x2,hx2,y2⟩:=v2W (hval 2 27 v2 rfl rfl) h2
  subst hx2
  clear hA0 hval0
  simp only [List.append_nil] at hW'
  refine (z1N x0 x1 x2 v1 dv2 pv2 W hgl y1 y2).mono fun e W' ⟨he,hB⟩=> ?_
  subst he
  exact ⟨_,rfl,_,_,_,[],p0 ++ (p1 ++ p2),[],hW',trodAll_mk1 (shut_bool Tryz.underlying4 _),trodAll_mk3 (Below.trod laidOut (by kernel_rfl) (of_decide_eq_true (by kernel_rfl)) k0 hB (fun x hx=>hlt x (by simp [hx]))) (Below.trod laidOut (by kernel_rfl) (of_decide_eq_true (by kernel_rfl)) k1 hB (fun x hx=>hlt x (by simp [hx]))) (Below.trod laidOut (by kernel_rfl) (of_decide_eq_true (by kernel_rfl)) k2 hB (fun x hx=>hlt x (by simp [hx]))),rfl,hB.frame _,fun h=>by cases h⟩
theorem and_t {a b : Bool} (ha : a = true) (hb : b = true) : (a && b) = true:=by rw [ha,hb]; rfl
theorem rec_of {P : Program} {f g h : FuncId} {fn : Func} (h1 : (P.closure f).contains g = true) (h2 : P.funcs[g]? = some fn) (h3 : (P.leadsTo fn).contains h = true) (h4 : (P.closure h).contains g = true) : P.recurses f = true:=by
  unfold Program.recurses
  rw [Bool.or_eq_true]
  refine .inr (List.any_eq_true.2 ⟨g,by simpa using h1,List.any_eq_true.2 ⟨h, ?_,h4⟩⟩)
  rw [h2]
  simpa using h3
theorem z5F : (Rows.layoutVariablesRow.wf (OpenSpec.ofChange Rows.layoutVariablesSpec)) = true:=by kernel_rfl
theorem z5E : (laidOutB Tryz.prog) = true:=by kernel_rfl
theorem z5D : (mapsRowed Tryz.prog) = true:=by kernel_rfl
theorem z5C : (Tryz.f3.params.all (Tryz.prog.readableRec ·)) = true:=by kernel_rfl
theorem z5B : (namedTie Tryz.prog Rows.layoutVariablesRow.named Rows.layoutVariablesSpec.vars) = true:=by kernel_rfl
theorem z5A : ((Rows.layoutVariablesRow.stops == [])) = true:=by kernel_rfl
theorem z4Z : ((Tryz.prog.stops == [])) = true:=by kernel_rfl
theorem z4Y : ((Rows.layoutVariablesRow.knobs == [])) = true:=by kernel_rfl
theorem z4X : ((Tryz.prog.stopKnobs == [])) = true:=by kernel_rfl
theorem z1M : ((Rows.layoutVariablesRow.inPlace == Tryz.prog.inPlace 3)) = true:=by kernel_rfl
theorem z1L : ((Rows.layoutVariablesRow.unfollowed == Tryz.prog.unfollowed 3)) = true:=by kernel_rfl
theorem z0S : Tryz.prog.recurses 3 = true:=rec_of (g:= 91) (h:= 91) (by kernel_rfl) Tryz.func91 (by kernel_rfl) (by kernel_rfl)
theorem z1K : (Rows.layoutVariablesRow.recurses == Tryz.prog.recurses 3) = true:=by rw [z0S]; rfl
theorem z1J : ((Rows.layoutVariablesRow.named == Tryz.prog.varsNamed 3)) = true:=by kernel_rfl
theorem z1H : ((Rows.layoutVariablesRow.maps == (Tryz.f3.params.toList ++ Rows.layoutVariablesSpec.plain.varTypes Tryz.prog).any (Tryz.prog.mapsRec ·))) = true:=by kernel_rfl
theorem z1G : ((Rows.layoutVariablesRow.ifaces == (Tryz.f3.params.toList ++ Rows.layoutVariablesSpec.plain.varTypes Tryz.prog).any (Tryz.prog.ifacesRec ·))) = true:=by kernel_rfl
theorem z1F : ((Rows.layoutVariablesRow.mapsOut == Tryz.prog.mapsAmong Tryz.f3.resultTypes.toList)) = true:=by kernel_rfl
theorem z1E : ((Rows.layoutVariablesRow.loops == (Tryz.f3.params.toList ++ Rows.layoutVariablesSpec.plain.varTypes Tryz.prog).any (Tryz.prog.loopsFrom ·))) = true:=by kernel_rfl
theorem y8F : ((Rows.layoutVariablesRow.wideKeys == (Tryz.f3.params.toList ++ Rows.layoutVariablesSpec.plain.varTypes Tryz.prog ++ Tryz.f3.resultTypes.toList).any (Tryz.prog.wideKeysFrom ·))) = true:=by kernel_rfl
theorem z1D : (Rows.layoutVariablesSpec.vars.all (Tryz.prog.varReadable ·)) = true:=by kernel_rfl
theorem z1C : (Tryz.f3.resultTypes.all (fun t=>Tryz.prog.readableRec t && decide (t < Tryz.prog.types.size))) = true:=by kernel_rfl
theorem z1B : ((Rows.layoutVariablesRow.ifacesOut == Tryz.f3.resultTypes.toList.any (Tryz.prog.ifacesRec ·))) = true:=by kernel_rfl
theorem z1A : ((Rows.layoutVariablesRow.loopsOut == Tryz.f3.resultTypes.toList.any (Tryz.prog.loopsFrom ·))) = true:=by kernel_rfl
theorem z0Z : ((Rows.layoutVariablesRow.plainKeys == Tryz.prog.plainKeys)) = true:=by kernel_rfl
theorem z0Y : (Rows.layoutVariablesRow.shortTexts.isNone) = true:=by kernel_rfl
theorem y8E : (Tryz.prog.stopsHeard) = true:=by kernel_rfl
theorem z0X : (Tryz.prog.mayEnter) = true:=by kernel_rfl
theorem y8D : ((Rows.layoutVariablesRow.lifted == Tryz.prog.liftsFinal)) = true:=by kernel_rfl
theorem y8C : ((Tryz.prog.make == some Rows.layoutVariablesRow.make)) = true:=by kernel_rfl
theorem z0W : ((Rows.layoutVariablesRow.kinds == (if Rows.layoutVariablesRow.domain.isEmpty then [] else Tryz.f3.params.toList.map fun t=>match Tryz.prog.underlying t with | some (.int k)=>some k | _=>none))) = true:=by kernel_rfl
theorem z0V : ((Rows.layoutVariablesRow.pinned == Rows.layoutVariablesRow.pinnedBy)) = true:=by kernel_rfl
theorem z0U : ((Rows.layoutVariablesRow.veiled == (Tryz.f3.params.toList ++ Rows.layoutVariablesSpec.plain.varTypes Tryz.prog ++ Tryz.f3.resultTypes.toList).any (Tryz.prog.veiledRec ·))) = true:=by kernel_rfl
theorem z0T : (Rows.layoutVariablesRow.veiledFits Tryz.prog Tryz.f3.params.toList (Tryz.f3.params.toList ++ Rows.layoutVariablesSpec.plain.varTypes Tryz.prog ++ Tryz.f3.resultTypes.toList)) = true:=by kernel_rfl
set_option maxRecDepth 100000 in
theorem y3C : joinedFacts Tryz.prog 3 Tryz.f3 Rows.layoutVariablesSpec Rows.layoutVariablesRow = true:=by
  unfold joinedFacts
  exact and_t (and_t (and_t (and_t (and_t (and_t (and_t (and_t (and_t (and_t (and_t (and_t (and_t (and_t (and_t (and_t (and_t (and_t (and_t (and_t (and_t (and_t (and_t (and_t (and_t (and_t (and_t (and_t (and_t (and_t (and_t (z5F) z5E) z5D) z5C) z5B) z5A) z4Z) z4Y) z4X) z1M) z1L) z1K) z1J) z1H) z1G) z1F) z1E) y8F) z1D) z1C) z1B) z1A) z0Z) z0Y) y8E) z0X) y8D) y8C) z0W) z0V) z0U) z0T
theorem z0R : Rows.LayoutVariablesSaid :=
  OpenClaim.holds_of_wide 3 Tryz.f3 rfl rfl rfl rfl rfl rfl rfl ⟨rfl,rfl,rfl,rfl,rfl⟩ rfl rfl rfl rfl rfl (by kernel_rfl) Tryz.func3 y3C
    (of_decide_eq_true (by kernel_rfl)) (by unfold Func.isWrapper; rw [if_neg (of_decide_eq_false (by kernel_rfl))]; exact ⟨rfl,rfl⟩)
    (fun os started H enc _=>y3B os started H enc)
theorem z4W : Rows.layoutVariablesRow.wfByText (OpenSpec.ofChange Rows.layoutVariablesSpec) = true:=by kernel_rfl
theorem y8B : Tryz.pinned.checked.prog.mainIs = some (true, "0b37673327b5ed7bc480cf8098c4a44163534662d2a1e5311548fec35bbad9f8".toList):=by kernel_rfl
theorem variables_name : Tryz.prog.funcNamed "pliant/pliantlaw09.LayoutVariables" = some 3:=by kernel_rfl
theorem y4K : true = Tryz.pinned.checked.prog.looks []:=by kernel_rfl
theorem y4J : ([3, 22, 27].all fun u=> !Tryz.prog.wantsStandIn u) = true:=by kernel_rfl
theorem y8G : false = Rows.layoutVariablesRow.goesBy Tryz.pinned.checked.prog:=by kernel_rfl
theorem variables_card : Rows.LayoutVariablesCardSaid :=
  Claim7.holds_tied_plain_at .later [] [.data, .data, .data, .data, .sentinel, .sentinel, .data, .pinned] true (true, "0b37673327b5ed7bc480cf8098c4a44163534662d2a1e5311548fec35bbad9f8") true
    z0R (fun _ h=>by cases h) z4W (fun _ h=>by cases h) layoutVariables_row_tie rfl ⟨rfl,rfl⟩ y8B rfl
    (fun f fn hf hfn=>by
      obtain rfl : f = 3:=Option.some.inj (variables_name.symm.trans hf) |>.symm
      obtain rfl : fn = Tryz.f3:=(Option.some.inj (Tryz.func3.symm.trans hfn)).symm
      exact ⟨y4K,fun j t ht=>by
        rw [Tryz.params3] at ht
        have hm : t ∈ [3, 22, 27]:=by simpa using Array.mem_of_getElem? ht
        exact (show Tryz.prog.wantsStandIn t = false by simpa using List.all_eq_true.1 y4J t hm)⟩)
    y8G
end Go.Proofs.YtadehgdfijjikaaGreatDoor
