/-
  LAYOUTFRAMES: for every address, list of shapes and shape (more than 20 shapes, or one that is not valid or of more than 30 nodes, are let by), the law returns true and leaves its arguments as they were. Conditions: the eight listed package variables read as the program's text lays them.
-/
import Derived.Test.YtadehgdfijjikaaGreatDoorCards
import Derived.Test.YtadehgdfijjikaaGreatDoorTie
import Derived.Test.YtadehgdfijjikaaGreatDoorS11
import Derived.Test.YtadehgdfijjikaaGreatDoorO1
import Derived.Test.YtadehgdfijjikaaGreatDoorT4
import Derived.Carry
import Derived.SevenTiedAt
import Derived.Stop.Joined
import Derived.ChangeMaps5
set_option linter.all false
namespace Go.Proofs.YtadehgdfijjikaaGreatDoor
open Go.ChangeShapes Go.WideShapes Go.ChangeAt Go.RowKit Go.Joins Go.Deep
open Go.ChangeMaps (open_string shut_string)
theorem laidOut : laidOutB Tryz.prog = true:=by kernel_rfl
set_option maxRecDepth 100000 in
theorem z2V (os : Os) (started : os.Started) (H : Type) (enc : TypeId × Value -> H) :
    ReturnsInHanded {} Tryz.checked os 5 .any (fun w args=>(Rows.layoutFramesSpec.pre enc Tryz.prog Tryz.f5 Rows.layoutFramesRow.domain false w args /\ laidMetH Tryz.prog Rows.layoutFramesRow.laid w) /\ sizedMet enc Tryz.prog Tryz.f5 (OpenSpec.ofChange Rows.layoutFramesSpec) false w args)
      (Rows.layoutFramesSpec.post enc Tryz.prog Tryz.f5 false true false false):=by
  refine returnsInHanded_of_change_and (C:=Tryz.checked) (X:=fun w _=>laidMetH Tryz.prog Rows.layoutFramesRow.laid w) (fun _ _ _ hh h=>h.of_heap hh) z5H started (by kernel_rfl) Tryz.func5
    (ChangeSpec.witness_shaped (enc:=enc) (C:=Tryz.checked) (os:=os) (X:=fun w _=>laidMetH Tryz.prog Rows.layoutFramesRow.laid w) false (World.laidAll Tryz.prog os Rows.layoutFramesRow.laid) #[.int .i64 0, .slice none 0 0, .agg #[.slice none 0 0, .slice none 0 0, .int .i64 0, .int .i64 0, .int .i64 0, .bool false, .string ⟨#[]⟩, .bool false]] 8 (World.laidAll_os _ _ _)
      (World.shaped_of_ZipB (by kernel_rfl) (by kernel_rfl)) (by kernel_rfl) (by kernel_rfl) (by kernel_rfl)
      (by rw [MakeChecks.laidMetH_plain _ _ _ (by kernel_rfl)]; exact laidMet_laidAll _ (by kernel_rfl) (by kernel_rfl))) ?_
  intro W base args ds gs before hval0 hW hc _ hL _
  have hL2 : laidMetH Tryz.prog Rows.layoutFramesRow.laid W:=hL
  rw [MakeChecks.laidMetH_plain _ _ _ (by kernel_rfl)] at hL2
  have hgl : Xec.Glob W:=v4S hL2 (by simp [Rows.layoutFramesRow])
  have hval : ∀ (j : Nat) t v,Tryz.f5.params[j]? = some t -> args[j]? = some v -> Value.okWide Tryz.prog W .any base t v:=hval0
  have hW':=hW
  obtain ⟨p,q,hA0,hV,rfl,_,_⟩:=hW
  have hA : DataW.TrodAll enc Tryz.prog W 0 (fun _=>true) true Tryz.f5.params.toList args.toList ds p:=hA0
  rw [Tryz.params5] at hA hval
  obtain ⟨v0,v1,v2,d0,d1,d2,p0,p1,p2,rfl,rfl,rfl,h0,h1,h2⟩:=trodAll_three hA
  obtain ⟨rfl,rfl⟩:=trodVars_none hV
  have hlt : ∀ x ∈ p0 ++ p1 ++ p2,x.block < W.heap.size:=fun x hx=>by
    have:=hW'.lt x (by simpa using hx)
    simpa using this
  have k0:=h0
  have k1:=h1
  have k2:=h2
  obtain ⟨x0,hx0, -, -, -⟩:=open_int Tryz.underlying3 (hval 0 3 v0 rfl rfl) h0
  subst hx0
  obtain ⟨x1,y1⟩:=v2X (hval 1 22 v1 rfl rfl) h1
  obtain ⟨dv2,pv2,x2,hx2,y2⟩:=v2W (hval 2 27 v2 rfl rfl) h2
  subst hx2
  clear hA0 hval0
  simp only [List.append_nil] at hW'
  refine (u8U x0 x1 x2 v1 dv2 pv2 W hgl y1 y2).mono fun e W' ⟨he,hB⟩=> ?_
  subst he
  exact ⟨_,rfl,_,_,_,[],p0 ++ (p1 ++ p2),[],hW',trodAll_mk1 (shut_bool Tryz.underlying4 _),trodAll_mk3 (Below.trod laidOut (by kernel_rfl) (of_decide_eq_true (by kernel_rfl)) k0 hB (fun x hx=>hlt x (by simp [hx]))) (Below.trod laidOut (by kernel_rfl) (of_decide_eq_true (by kernel_rfl)) k1 hB (fun x hx=>hlt x (by simp [hx]))) (Below.trod laidOut (by kernel_rfl) (of_decide_eq_true (by kernel_rfl)) k2 hB (fun x hx=>hlt x (by simp [hx]))),rfl,hB.frame _,fun h=>by cases h⟩
theorem and_t {a b : Bool} (ha : a = true) (hb : b = true) : (a && b) = true:=by rw [ha,hb]; rfl
theorem rec_of {P : Program} {f g h : FuncId} {fn : Func} (h1 : (P.closure f).contains g = true) (h2 : P.funcs[g]? = some fn) (h3 : (P.leadsTo fn).contains h = true) (h4 : (P.closure h).contains g = true) : P.recurses f = true:=by
  unfold Program.recurses
  rw [Bool.or_eq_true]
  refine .inr (List.any_eq_true.2 ⟨g,by simpa using h1,List.any_eq_true.2 ⟨h, ?_,h4⟩⟩)
  rw [h2]
  simpa using h3
theorem v5E : (Rows.layoutFramesRow.wf (OpenSpec.ofChange Rows.layoutFramesSpec)) = true:=by kernel_rfl
theorem v5D : (laidOutB Tryz.prog) = true:=by kernel_rfl
theorem v5C : (mapsRowed Tryz.prog) = true:=by kernel_rfl
theorem v5B : (Tryz.f5.params.all (Tryz.prog.readableRec ·)) = true:=by kernel_rfl
theorem v5A : (namedTie Tryz.prog Rows.layoutFramesRow.named Rows.layoutFramesSpec.vars) = true:=by kernel_rfl
theorem v4Z : ((Rows.layoutFramesRow.stops == [])) = true:=by kernel_rfl
theorem v4Y : ((Tryz.prog.stops == [])) = true:=by kernel_rfl
theorem v4X : ((Rows.layoutFramesRow.knobs == [])) = true:=by kernel_rfl
theorem v4W : ((Tryz.prog.stopKnobs == [])) = true:=by kernel_rfl
theorem u8T : ((Rows.layoutFramesRow.inPlace == Tryz.prog.inPlace 5)) = true:=by kernel_rfl
theorem u8S : ((Rows.layoutFramesRow.unfollowed == Tryz.prog.unfollowed 5)) = true:=by kernel_rfl
theorem u7Y : Tryz.prog.recurses 5 = true:=rec_of (g:= 91) (h:= 91) (by kernel_rfl) Tryz.func91 (by kernel_rfl) (by kernel_rfl)
theorem u8R : (Rows.layoutFramesRow.recurses == Tryz.prog.recurses 5) = true:=by rw [u7Y]; rfl
theorem u8Q : ((Rows.layoutFramesRow.named == Tryz.prog.varsNamed 5)) = true:=by kernel_rfl
theorem u8P : ((Rows.layoutFramesRow.maps == (Tryz.f5.params.toList ++ Rows.layoutFramesSpec.plain.varTypes Tryz.prog).any (Tryz.prog.mapsRec ·))) = true:=by kernel_rfl
theorem u8N : ((Rows.layoutFramesRow.ifaces == (Tryz.f5.params.toList ++ Rows.layoutFramesSpec.plain.varTypes Tryz.prog).any (Tryz.prog.ifacesRec ·))) = true:=by kernel_rfl
theorem u8M : ((Rows.layoutFramesRow.mapsOut == Tryz.prog.mapsAmong Tryz.f5.resultTypes.toList)) = true:=by kernel_rfl
theorem u8L : ((Rows.layoutFramesRow.loops == (Tryz.f5.params.toList ++ Rows.layoutFramesSpec.plain.varTypes Tryz.prog).any (Tryz.prog.loopsFrom ·))) = true:=by kernel_rfl
theorem u0Z : ((Rows.layoutFramesRow.wideKeys == (Tryz.f5.params.toList ++ Rows.layoutFramesSpec.plain.varTypes Tryz.prog ++ Tryz.f5.resultTypes.toList).any (Tryz.prog.wideKeysFrom ·))) = true:=by kernel_rfl
theorem u8K : (Rows.layoutFramesSpec.vars.all (Tryz.prog.varReadable ·)) = true:=by kernel_rfl
theorem u8J : (Tryz.f5.resultTypes.all (fun t=>Tryz.prog.readableRec t && decide (t < Tryz.prog.types.size))) = true:=by kernel_rfl
theorem u8H : ((Rows.layoutFramesRow.ifacesOut == Tryz.f5.resultTypes.toList.any (Tryz.prog.ifacesRec ·))) = true:=by kernel_rfl
theorem u8G : ((Rows.layoutFramesRow.loopsOut == Tryz.f5.resultTypes.toList.any (Tryz.prog.loopsFrom ·))) = true:=by kernel_rfl
theorem u8F : ((Rows.layoutFramesRow.plainKeys == Tryz.prog.plainKeys)) = true:=by kernel_rfl
theorem u8E : (Rows.layoutFramesRow.shortTexts.isNone) = true:=by kernel_rfl
theorem u0Y : (Tryz.prog.stopsHeard) = true:=by kernel_rfl
theorem u8D : (Tryz.prog.mayEnter) = true:=by kernel_rfl
theorem u0X : ((Rows.layoutFramesRow.lifted == Tryz.prog.liftsFinal)) = true:=by kernel_rfl
theorem u0W : ((Tryz.prog.make == some Rows.layoutFramesRow.make)) = true:=by kernel_rfl
theorem u8C : ((Rows.layoutFramesRow.kinds == (if Rows.layoutFramesRow.domain.isEmpty then [] else Tryz.f5.params.toList.map fun t=>match Tryz.prog.underlying t with | some (.int k)=>some k | _=>none))) = true:=by kernel_rfl
theorem u8B : ((Rows.layoutFramesRow.pinned == Rows.layoutFramesRow.pinnedBy)) = true:=by kernel_rfl
theorem u8A : ((Rows.layoutFramesRow.veiled == (Tryz.f5.params.toList ++ Rows.layoutFramesSpec.plain.varTypes Tryz.prog ++ Tryz.f5.resultTypes.toList).any (Tryz.prog.veiledRec ·))) = true:=by kernel_rfl
theorem u7Z : (Rows.layoutFramesRow.veiledFits Tryz.prog Tryz.f5.params.toList (Tryz.f5.params.toList ++ Rows.layoutFramesSpec.plain.varTypes Tryz.prog ++ Tryz.f5.resultTypes.toList)) = true:=by kernel_rfl
set_option maxRecDepth 100000 in
theorem z2W : joinedFacts Tryz.prog 5 Tryz.f5 Rows.layoutFramesSpec Rows.layoutFramesRow = true:=by
  unfold joinedFacts
  exact and_t (and_t (and_t (and_t (and_t (and_t (and_t (and_t (and_t (and_t (and_t (and_t (and_t (and_t (and_t (and_t (and_t (and_t (and_t (and_t (and_t (and_t (and_t (and_t (and_t (and_t (and_t (and_t (and_t (and_t (and_t (v5E) v5D) v5C) v5B) v5A) v4Z) v4Y) v4X) v4W) u8T) u8S) u8R) u8Q) u8P) u8N) u8M) u8L) u0Z) u8K) u8J) u8H) u8G) u8F) u8E) u0Y) u8D) u0X) u0W) u8C) u8B) u8A) u7Z
theorem u7X : Rows.LayoutFramesSaid :=
  OpenClaim.holds_of_wide 5 Tryz.f5 rfl rfl rfl rfl rfl rfl rfl ⟨rfl,rfl,rfl,rfl,rfl⟩ rfl rfl rfl rfl rfl (by kernel_rfl) Tryz.func5 z2W
    (of_decide_eq_true (by kernel_rfl)) (by unfold Func.isWrapper; rw [if_neg (of_decide_eq_false (by kernel_rfl))]; exact ⟨rfl,rfl⟩)
    (fun os started H enc _=>z2V os started H enc)
theorem v4V : Rows.layoutFramesRow.wfByText (OpenSpec.ofChange Rows.layoutFramesSpec) = true:=by kernel_rfl
theorem u0V : Tryz.pinned.checked.prog.mainIs = some (true, "0b37673327b5ed7bc480cf8098c4a44163534662d2a1e5311548fec35bbad9f8".toList):=by kernel_rfl
theorem frames_name : Tryz.prog.funcNamed "pliant/pliantlaw09.LayoutFrames" = some 5:=by kernel_rfl
theorem z7C : true = Tryz.pinned.checked.prog.looks []:=by kernel_rfl
theorem z7B : ([3, 22, 27].all fun u=> !Tryz.prog.wantsStandIn u) = true:=by kernel_rfl
theorem u1A : false = Rows.layoutFramesRow.goesBy Tryz.pinned.checked.prog:=by kernel_rfl
theorem frames_card : Rows.LayoutFramesCardSaid :=
  Claim7.holds_tied_plain_at .later [] [.data, .data, .data, .data, .sentinel, .sentinel, .data, .pinned] true (true, "0b37673327b5ed7bc480cf8098c4a44163534662d2a1e5311548fec35bbad9f8") true
    u7X (fun _ h=>by cases h) v4V (fun _ h=>by cases h) layoutFrames_row_tie rfl ⟨rfl,rfl⟩ u0V rfl
    (fun f fn hf hfn=>by
      obtain rfl : f = 5:=Option.some.inj (frames_name.symm.trans hf) |>.symm
      obtain rfl : fn = Tryz.f5:=(Option.some.inj (Tryz.func5.symm.trans hfn)).symm
      exact ⟨z7C,fun j t ht=>by
        rw [Tryz.params5] at ht
        have hm : t ∈ [3, 22, 27]:=by simpa using Array.mem_of_getElem? ht
        exact (show Tryz.prog.wantsStandIn t = false by simpa using List.all_eq_true.1 z7B t hm)⟩)
    u1A
end Go.Proofs.YtadehgdfijjikaaGreatDoor
