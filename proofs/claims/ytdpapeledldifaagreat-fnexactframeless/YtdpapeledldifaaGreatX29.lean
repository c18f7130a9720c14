/- Part 30 of the proof that the law FnExactFrameLess holds of every input; no condition. -/
import Derived.Test.YtdpapeledldifaaGreatX28
set_option autoImplicit true
set_option relaxedAutoImplicit true
set_option linter.all false
noncomputable section
namespace Go.Proofs.YtdpapeledldifaaGreat
open Go Go.AM Go.TM
open Go.Proofs.Tryz
open Sum (inl inr)
set_option maxRecDepth 100000
set_option maxHeartbeats 4000000
abbrev ti250:SPat:=⟨[(0,.sl zAg),(1,.i .i64)],[]⟩
abbrev to250:SPat:=⟨[(4,.i .i64)],[]⟩
abbrev ts250_2:SPat:=⟨[(0,.sl zAg),(1,.i .i64),(5,.i .i64)],[]⟩
abbrev zKR:SPat:=⟨[(1,.i .i64)],[]⟩
def tv250:Nat→Option SPat:=fun k=>bif k==2 then some ts250_2 else bif k==2000000 then some zKR else none
def F250:List (Int×Int)×Int→Option (Int):=fun(a,k) =>
 bindE (zAD (fun(a1,k1,i) =>
 cndO (decide (i<(a1.length:Int)))
 (grdO (decide (0≤i)) (atO (a1) i.toNat fun x=>cndO (!decide (x.1=k1))
 (some (inr (inr (-1:Int))))
 (grdO (decide (0≤i)) (atO (a1) i.toNat fun x1=>cndO (!decide (x1.2=IntKind.wrap .i64 (k1+1)))
 (some (inr (inr (-1:Int))))
 (some (inl (a1,IntKind.wrap .i64 (IntKind.wrap .i64 (k1+1)+1),IntKind.wrap .i64 (i+1))))))))
 (some (inr (inl k1)))) ((a,k,(0:Int)))) fun k1 =>
 some (k1)
def tb250:=insT 250 (mkE 250 true [] ti250 to250 F250 [.tmp 4] 31 []) tb190
theorem ok250:TbOk Tryz.prog tb250:=okI ok190 noPl tv250 func250 rfl call250
abbrev ti191:SPat:=⟨[(0,.sl zBL),(1,.i .i64)],[]⟩
abbrev to191:SPat:=⟨[(4,.i .i64)],[]⟩
abbrev ts191_2:SPat:=⟨[(0,.sl zBL),(1,.i .i64),(5,.i .i64)],[]⟩
abbrev zKw:SPat:=⟨[(1,.i .i64)],[]⟩
def tv191:Nat→Option SPat:=fun k=>bif k==2 then some ts191_2 else bif k==2000000 then some zKw else none
def F191:List Frm×Int→Option (Int):=fun(a,k) =>
 bindE (zAD (fun(a1,k1,i) =>
 cndO (decide (i<(a1.length:Int)))
 (grdO (decide (0≤i)) (atO (a1) i.toNat fun x=>cndO (!decide (x.1=k1))
 (some (inr (inr (-1:Int))))
 (grdO (decide (0≤i)) (atO (a1) i.toNat fun x1=>zAA (F250 (x1.2.1,IntKind.wrap .i64 (k1+1))) fun y =>
 cndO (decide (y<0))
 (some (inr (inr (-1:Int))))
 (grdO (decide (0≤i)) (atO (a1) i.toNat fun x2=>zAA (F250 (x2.2.2,y)) fun y1 =>
 cndO (decide (y1<0))
 (some (inr (inr (-1:Int))))
 (some (inl (a1,y1,IntKind.wrap .i64 (i+1))))))))))
 (some (inr (inl k1)))) ((a,k,(0:Int)))) fun k1 =>
 some (k1)
def tb191:=insT 191 (mkE 191 true [] ti191 to191 F191 [.tmp 4] 40 []) tb250
theorem ok191:TbOk Tryz.prog tb191:=okI ok250 noPl tv191 func191 rfl call191
abbrev ti101:SPat:=⟨[(0,.sl tg53),(1,.i .i64)],[]⟩
abbrev to101:SPat:=⟨[(4,.i .i64)],[]⟩
abbrev ts101_2:SPat:=⟨[(0,.sl tg53),(1,.i .i64),(5,.i .i64)],[]⟩
abbrev zLy:SPat:=⟨[(1,.i .i64)],[]⟩
def tv101:Nat→Option SPat:=fun k=>bif k==2 then some ts101_2 else bif k==2000000 then some zLy else none
def tp101:Nat→List Nat×Plan:=fun id=>bif id==19 then([0,1,2,3,4,5],(.br 6 [5] [0,1,2,3,4] [7] .fin .fin))else([],.fin)
def F101:List Mth×Int→Option (Int):=fun(app,v1) =>
 bindE (zAD (fun(app1,v11,v5) =>
 cndO (decide (v5<(app1.length:Int)))
 (grdO (decide (0≤v5)) (atO (app1) v5.toNat fun x=>cndO (!decide (x.1=v11))
 (some (inr (inr (-1:Int))))
 (grdO (decide (0≤v5)) (atO (app1) v5.toNat fun x1=>cndO (!decide (x1.2.1=IntKind.wrap .i64 (v11+1)))
 (some (inr (inr (-1:Int))))
 (grdO (decide (0≤v5)) (atO (app1) v5.toNat fun x2=>cndO (!decide (x2.2.2.1=IntKind.wrap .i64 (IntKind.wrap .i64 (v11+1)+1)))
 (some (inr (inr (-1:Int))))
 (grdO (decide (0≤v5)) (atO (app1) v5.toNat fun x3=>cndO (!decide (x3.2.2.2.1=IntKind.wrap .i64 (IntKind.wrap .i64 (IntKind.wrap .i64 (v11+1)+1)+1)))
 (some (inr (inr (-1:Int))))
 (grdO (decide (0≤v5)) (atO (app1) v5.toNat fun x4=>cndO (!decide (x4.2.2.2.2.1=IntKind.wrap .i64 (IntKind.wrap .i64 (IntKind.wrap .i64 (IntKind.wrap .i64 (v11+1)+1)+1)+1)))
 (some (inr (inr (-1:Int))))
 (grdO (decide (0≤v5)) (atO (app1) v5.toNat fun x5=>zAA (F187 (IntKind.wrap .i64 (IntKind.wrap .i64 (IntKind.wrap .i64 (IntKind.wrap .i64 (IntKind.wrap .i64 (v11+1)+1)+1)+1)+1))) fun y =>
 seqU (seqU (grdO (decide (app1=app1)) (some ())) (seqU (grdO (decide (v5=v5)) (some ())) (seqU (grdO (decide (0≤v5)) (atO (app1) v5.toNat fun x6=>grdO (decide (x6.1=x5.1)&&(decide (x6.2.1=x5.2.1)&&(decide (x6.2.2.1=x5.2.2.1)&&(decide (x6.2.2.2.1=x5.2.2.2.1)&&(decide (x6.2.2.2.2.1=x5.2.2.2.2.1)&&(decide (x6.2.2.2.2.2.1=x5.2.2.2.2.2.1)&&(decide (x6.2.2.2.2.2.2.1=x5.2.2.2.2.2.2.1)&&(decide (x6.2.2.2.2.2.2.2=x5.2.2.2.2.2.2.2)&&true)))))))) (some ()))) (seqU (grdO (decide (x5.2.2.2.2.2.1=x5.2.2.2.2.2.1)&&(decide (x5.2.2.2.2.2.2.1=x5.2.2.2.2.2.2.1)&&(decide (x5.2.2.2.2.2.2.2=x5.2.2.2.2.2.2.2)&&true))) (some ())) (seqU (grdO (decide (x5.2.2.2.2.2.1=x5.2.2.2.2.2.1)) (some ())) (some ())))))) (cndO (!decide (x5.2.2.2.2.2.1=y))
 (some (inr (inr (-1:Int))))
 (grdO (decide (0≤v5)) (atO (app1) v5.toNat fun x6=>zAA (F190 (x6.2.2.2.2.2.2.1,IntKind.wrap .i64 (IntKind.wrap .i64 (IntKind.wrap .i64 (IntKind.wrap .i64 (IntKind.wrap .i64 (IntKind.wrap .i64 (v11+1)+1)+1)+1)+1)+1))) fun y1 =>
 cndO (decide (y1<0))
 (some (inr (inr (-1:Int))))
 (grdO (decide (0≤v5)) (atO (app1) v5.toNat fun x7=>zAA (F191 (x7.2.2.2.2.2.2.2,y1)) fun y2 =>
 cndO (decide (y2<0))
 (some (inr (inr (-1:Int))))
 (some (inl (app1,y2,IntKind.wrap .i64 (v5+1)))))))))))))))))))))
 (some (inr (inl v11)))) ((app,v1,(0:Int)))) fun v11 =>
 some (v11)
def tb101:=insT 101 (mkE 101 true [] ti101 to101 F101 [.tmp 4] 86 []) tb191
theorem ok101:TbOk Tryz.prog tb101:=okI ok191 tp101 tv101 func101 rfl call101
abbrev ti36:SPat:=⟨[(0,.agg (pl plC)),(1,.i .i64)],[]⟩
abbrev to36:SPat:=⟨[(4,.i .i64)],[]⟩
def F36:(Cls)×Int→Option (Int):=fun((a0,a1,a2,a3,a4,a5,a6),k) =>
 zAA (F98 (a0,k)) fun y =>
 cndO (decide (y<0))
 (some ((-1:Int)))
 (zAA (F99 (a4,y)) fun y1 =>
 cndO (decide (y1<0))
 (some ((-1:Int)))
 (zAA (F100 (a5,y1)) fun y2 =>
 cndO (decide (y2<0))
 (some ((-1:Int)))
 (zAA (F101 (a6,y2)) fun y3 =>
 cndO (decide (y3<0))
 (some ((-1:Int)))
 (some (y3)))))
def tb36:=insT 36 (mkE 36 true [] ti36 to36 F36 [.tmp 4] 30 []) tb101
theorem ok36:TbOk Tryz.prog tb36:=okI ok101 noPl noIv func36 rfl call36
abbrev ti9:SPat:=⟨[(0,.agg (pl plC))],[]⟩
abbrev to9:SPat:=⟨[(2,.b)],[]⟩
abbrev zQT:SPat:=⟨[(1,.ptr 1 0),(4,.ptr 4 0),(6,.ptr 6 0)],[.box 1 (pl plC),.box 4 (pl [.own tg27 false,.i .i64,.i .i64,.i .i64,.own (.int .i64) false,.own tg89 false,.own tg53 true]),.box 6 (pl [.own tg27 false,.i .i64,.i .i64,.i .i64,.own (.int .i64) false,.own tg89 false,.own tg53 true])]⟩
def tv9:Nat→Option SPat:=fun k=>bif k==1000016 then some zQT else none
def tp9:Nat→List Nat×Plan:=fun id=>bif id==10 then([0,1],(.br 2 [1] [0] [] (.br 3 [2,1,0] [] [4] .fin .fin) .fin))else([],.fin)
def F9:Cls→Option (Bool):=fun(app0,app1,app2,app3,app4,app5,app6) =>
 zAA (F23 ((app0,app1,app2,app3,app4,app5,app6),(1048576:Int))) fun y =>
 cndO (decide (y<0))
 (some (true))
 (zAA (F25 (app0,app1,app2,app3,app4,app5,app6)) fun(y1,y2,y3,y4,y5,y6,x) =>
 zAA (F34 (y1,y2,y3,y4,y5,y6,x)) fun(y7,y8,y9,y10,y11,y12,x1) =>
 zAA (F25 (app0,app1,app2,app3,app4,app5,app6)) fun(y13,y14,y15,y16,y17,y18,x2) =>
 zAA (F33 (y13,y14,y15,y16,y17,y18,x2)) fun(y19,y20,y21,y22,y23,y24,x3) =>
 zAA (F27 ((y19,y20,y21,y22,y23,y24,x3),y7,y8,y9,y10,y11,y12,x1)) fun y25 =>
 cndO (!y25)
 (some (false))
 (zAA (F25 (app0,app1,app2,app3,app4,app5,app6)) fun(y26,y27,y28,y29,y30,y31,x4) =>
 seqU (seqU (grdO (decide (y14=y14)&&(decide (y15=y15)&&(decide (y16=y16)&&true))) (some ())) (some ())) (zAA (F27 ((y13,y14,y15,y16,y17,y18,x2),y26,y27,y28,y29,y30,y31,x4)) fun y32 =>
 cndO (!y32)
 (some (false))
 (zAA (F35 ((y14,y15,y16),(1:Int),y13,y17,y18,x2)) fun(y33,y34,y35,y36,y37) =>
 bindE (Y:=(Cls)×(Cls)×Cls) (cndO (decide (y33<0))
 (some (inr false))
 (zAA (F27 ((y19,y20,y21,y22,y23,y24,x3),y7,y8,y9,y10,y11,y12,x1)) fun y38 =>
 cndO (!y38)
 (some (inr false))
 (some (inl ((app0,app1,app2,app3,app4,app5,app6),(y7,y8,y9,y10,y11,y12,x1),y19,y20,y21,y22,y23,y24,x3))))) fun((o0,o1,o2,o3,o4,o5,o6),(o01,o11,o21,o31,o41,o51,o61),o02,o12,o22,o32,o42,o52,o62) =>
 zAA (F35 ((o12,o22,o32),(1:Int),o02,o42,o52,o62)) fun(y38,y39,y40,y41,y42) =>
 zAA (F36 ((y39,o12,o22,o32,y40,y41,y42),(1:Int))) fun y43 =>
 cndO (decide (y43<0))
 (some (false))
 (cndO (!decide (y43=y38))
 (some (false))
 (zAA (F25 (o0,o1,o2,o3,o4,o5,o6)) fun(y44,y45,y46,y47,y48,y49,x5) =>
 zAA (F33 (y44,y45,y46,y47,y48,y49,x5)) fun(y50,y51,y52,y53,y54,y55,x6) =>
 zAA (F27 ((y50,y51,y52,y53,y54,y55,x6),o01,o11,o21,o31,o41,o51,o61)) fun y56 =>
 cndO (!y56)
 (some (false))
 (zAA (F36 ((y39,o12,o22,o32,y40,y41,y42),(1:Int))) fun y57 =>
 cndO (decide (y57<0))
 (some (false))
 (cndO (!decide (y57=y38))
 (some (false))
 (some (true))))))))))
theorem r9 x:funT T tb36 tp9 69 tv9 (bodyOf Tryz.f9) ti9 to9 x=F9 x:=by kernel_rfl
def te9:=mkE 9 true [] ti9 to9 F9 [.tmp 2] 69 []
theorem c9:zHY Tryz.prog 9 te9.W:=zUe ok36 layOk mixed true _ ti9 to9 [] tp9 tv9 func9 rfl results9 ntmps9 (by kernel_rfl) (by kernel_rfl) call9 F9 fun x _ h=>(r9 x).trans h
end Go.Proofs.YtdpapeledldifaaGreat
end
section
namespace Go.Proofs.YtdpapeledldifaaGreat
open Go Go.AM Go.TM Go.RowKit Go.ChangeShapes Go.WideShapes Go.ChangeAt
theorem rd45:rdT Tryz.prog 8 tg33 45=true:=by kernel_rfl
theorem rowL9 (x:tg33.Den)(h:F9 x=some true):AC Tryz.prog 9 [.agg (encC false tg33 x)] [] fun sv _=>sv = .b true :=
 law_args c9 x true rfl rfl h rfl
set_option maxRecDepth 100000 in
theorem lifted9 (hall:∀ x:tg33.Den,small tg33 x→F9 x=some true)(os:Os)(started:os.Started)(H:Type)(enc:TypeId×Value→H) :
  ReturnsInHanded {} Tryz.checked os 9 .any (Rows.fnExactFrameLessSpec.pre6 enc Tryz.prog Tryz.f9 [] false) (Rows.fnExactFrameLessSpec.post enc Tryz.prog Tryz.f9 false true false false):=by
 refine returnsInHanded_of_change_sized (C:=Tryz.checked) own started (by kernel_rfl) Tryz.func9
  (ChangeSpec.witness6 (enc:=enc) (C:=Tryz.checked) false ⟨#[],#[.agg #[.slice none 0 0,.int .i64 0,.int .i64 0,.int .i64 0,.slice none 0 0,.slice none 0 0,.slice none 0 0]],[]⟩ 8 (by kernel_rfl) (by kernel_rfl) (by kernel_rfl) (by kernel_rfl)) ?_
 intro W base args ds gs before hval0 hW _ hsz0 _
 have hval:∀(j:Nat) t v,Tryz.f9.params[j]? = some t→args[j]? = some v→Value.okWide Tryz.prog W .any base t v:=hval0
 have hsz:(DataW.weightsEach Tryz.prog (Tryz.f9.params.toList++[]) (ds++gs)).all (· ≤ reachBytes)=true:=hsz0
 have hW':=hW
 obtain⟨p,q,hA0,hV,rfl,hfz,hnd⟩:=hW
 have hA:DataW.TrodAll enc Tryz.prog W 0 (fun _=>true) true Tryz.f9.params.toList args.toList ds p:=hA0
 rw[Tryz.params9]at hA hval hsz
 obtain⟨v0,d0,rfl,rfl,h0⟩:=trodAll_one hA
 obtain⟨rfl,rfl⟩:=trodVars_none hV
 obtain⟨cs,rfl,hcs⟩:=okWide_struct Tryz.underlying45 (hval 0 45 v0 rfl rfl)
 have h0k:=h0
 obtain⟨fuel,ht⟩:=h0
 obtain⟨x,sx,lx,ox,rx⟩:=opens 8 fuel tg33 45 cs.toList d0 p rd45 ht (fun m hm=>by
  have:=List.all_eq_true.1 hsz m (by simpa[DataW.weightsEach]using hm)
  simpa using this)
 have hlt:∀z∈p,z.block<W.heap.size:=fun z hz=>hW'.lt z (by simpa using hz)
 refine(zUt Tryz.func9 (by kernel_rfl) (by kernel_rfl) (rowL9 x (hall x sx)) (fun _ _ h=>h) rfl (fun G hG=>zIq (by
  simp only[R]
  exact⟨cs,rfl,by rw[zDj];simpa using lx,rx G hG⟩))).mono fun e W' ⟨he,hb⟩=>?_
 subst he
 exact⟨_,rfl,[d0],[],p++[],[],p,[],hW',trodAll_mk1 (shut_bool Tryz.underlying4 true),trodAll_mk1 (Below.trod laidOut (by kernel_rfl) (of_decide_eq_true (by kernel_rfl)) h0k hb hlt),rfl,hb.frame _,fun h=>by cases h⟩
set_option maxHeartbeats 4000000 in
theorem joined9:joinedFacts Tryz.pinned.checked.prog 9 Tryz.f9 Rows.fnExactFrameLessSpec Rows.fnExactFrameLessRow=true:=by
 unfold joinedFacts
 repeat' with_reducible apply band
 all_goals (as_aux_lemma=>kernel_rfl)
theorem zFg (hall:∀ x:tg33.Den,small tg33 x→F9 x=some true):Rows.FnExactFrameLessSaid :=
 OpenClaim.holds_of_wide 9 Tryz.f9 rfl rfl rfl rfl rfl rfl rfl ⟨rfl,rfl,rfl,rfl,rfl⟩ rfl rfl rfl rfl rfl (by kernel_rfl) Tryz.func9 joined9
  (of_decide_eq_true (by kernel_rfl)) (by unfold Func.isWrapper;first|(rw[if_pos (by decide +kernel)];kernel_rfl)|(rw[if_neg (by decide +kernel)];exact⟨rfl,rfl⟩))
  (fun os started H enc _=>lifted9 hall os started H enc)
end Go.Proofs.YtdpapeledldifaaGreat
end
section
namespace Go.TM
open Go.AM
section
variable {R α X Y:Type}
@[simp] theorem zAJ (A B:Option R):cndO true A B=A:=rfl
@[simp] theorem zAI (A B:Option R):cndO false A B=B:=rfl
@[simp] theorem zAC {p:Prop}[Decidable p](A B:Option R):cndO (decide p) A B=if p then A else B:=by
  by_cases h:p<;>simp[h]
@[simp] theorem zAM (b:Bool)(A B:Option R):cndO (!b) A B=cndO b B A:=by cases b<;>rfl
@[simp] theorem zAG (A:Option R):grdO true A=A:=rfl
theorem zAT {p:Prop}[Decidable p]{A:Option R}(h:p):grdO (decide p) A=A:=by simp[h]
theorem zCf (a b:Bool)(A:Option R):grdO (a&&b) A=grdO a (grdO b A):=by cases a<;>rfl
@[simp] theorem zAB (a:α)(k:α→Option R):zAA (some a) k=k a:=rfl
@[simp] theorem zAE (y:Y)(k:Y→Option R):bindE (some (.inl y)) k=k y:=rfl
@[simp] theorem zAH (r:R)(k:Y→Option R):bindE (some (.inr r)) k=some r:=rfl
@[simp] theorem zAU (u:Unit)(k:Option R):seqU (some u) k=k:=rfl
@[simp] theorem mapR_s (r:R):(mapR (some r):Option (Y⊕R))=some (.inr r):=rfl
theorem atO_at {l:List α}{n:Nat}{x:α}{k:α→Option R}(h:l[n]? = some x):atO l n k=k x:=by unfold atO;rw[h]
theorem zAL {l:List α}{n:Nat}{k:α→Option R}(h:n<l.length):atO l n k=k l[n]:=atO_at (List.getElem?_eq_getElem h)
theorem zAr {c:Prop}[Decidable c](A B:Option (Y⊕R))(k:Y→Option R):bindE (if c then A else B) k=if c then bindE A k else bindE B k:=by split<;>rfl
theorem zGY {f:X→Option (X⊕Y)}(μ:X→Nat)(I:X→Prop)(Q:Y→Prop)
  (h:∀x,I x→(∃x',f x=some (.inl x')∧μ x'<μ x∧I x')∨∃y,f x=some (.inr y)∧Q y):∀x,I x→∃y,zAD f x=some y∧Q y:=by
 intro x
 generalize hn:μ x=n
 induction n using Nat.strongRecOn generalizing x with
 | _ n ih =>
   intro hI
   rw[zAW]
   rcases h x hI with⟨x',hf,hlt,hI'⟩|⟨y,hf,hQ⟩
   ·rw[hf]
    exact ih (μ x') (by omega) x' rfl hI'
   ·rw[hf]
    exact⟨y,rfl,hQ⟩
theorem zNB {f:X→Option (X⊕Y)}(μ:X→Nat)(I:X→Prop)(g:X→Y)
  (h:∀x,I x→(∃x',f x=some (.inl x')∧μ x'<μ x∧I x'∧g x'=g x)∨f x=some (.inr (g x))) (x:X) (hI:I x):zAD f x=some (g x):=by
 obtain⟨y,h1,h2⟩:=zGY μ (fun z=>I z∧g z=g x) (fun y=>y=g x) (by
  rintro z ⟨hz,hg⟩
  rcases h z hz with⟨z',h1,h2,h3,h4⟩|h1
  ·exact .inl ⟨z',h1,h2,h3,h4.trans hg⟩
  ·exact .inr ⟨g z,h1,hg⟩) x ⟨hI,rfl⟩
 rw[h1,h2]
theorem zBI {l:List α}{n:Nat}(h:n<l.length):l.drop n=l[n]::l.drop (n+1):=List.drop_eq_getElem_cons h
end
end Go.TM
end
section
namespace Go.TM
open Go.AM
section
variable {α X Y R S:Type}
def mkL (m:α→Int→α×Int):List α→Int→List α×Int
 |[],k=>([],k)
 |x::l,k=>((m x k).1::(mkL m l (m x k).2).1,(mkL m l (m x k).2).2)
def Mks (m:α→Int→α×Int)(K:Int)(x:α):Prop:=∀k,0≤k→k≤(m x k).2∧(m x k).2≤k+K
theorem zCA {m:α→Int→α×Int}{K:Int}:∀(l:List α) (k:Int),(∀x∈l,Mks m K x)→0≤k→k≤(mkL m l k).2∧(mkL m l k).2≤k+l.length*K
 |[],k,_,_=>by simp[mkL]
 | x::l,k,h,h0=>by
   have h1:=h x (by simp) k h0
   have h2:=zCA l (m x k).2 (fun y hy=>h y (by simp[hy])) (by omega)
   have e:((l.length+1:Nat):Int)*K=l.length*K+K:=by rw[Int.natCast_add,Int.add_mul];simp
   simp only[mkL,List.length_cons]
   rw[e]
   omega
theorem zBp {a b:List α}{x:α}{k:α→Option R}:atO (a++x::b) a.length k=k x:=atO_at (by simp)
theorem zBm {a b:List α}{x v:α}:(a++x::b).set a.length v=a++v::b:=by simp
theorem zCu {a b:List α}{x:α}:((a.length:Int)<((a++x::b).length:Int))=True:=by
 simp only[List.length_append,List.length_cons,eq_iff_iff,iff_true];omega
theorem zDO {f:X→Option (X⊕(Y⊕R))}(mk:Int→Nat→List α→X)(fin:Int→List α→Y)(m:α→Int→α×Int)(K:Int)(l:List α)(k:Int){x0:X}{c:Y→Option R}(hx:x0=mk k 0 l)(h0:0≤k)(hM:k+l.length*K≤9223372036854775806)(hl:l.length≤1048576)
  (hm:∀x∈l,Mks m K x)
  (hend:∀k a,f (mk k a.length a)=some (.inr (.inl (fin k a))))
  (hstep:∀k a x b,x∈l→a.length≤1048576→0≤k→k+K≤9223372036854775806→f (mk k a.length (a++x::b))=some (.inl (mk (m x k).2 (a.length+1) (a++(m x k).1::b)))) :
  bindE (zAD f x0) c=c (fin (mkL m l k).2 (mkL m l k).1):=by
 have key:∀(s:List α) (k:Int) (a:List α),(∀x∈s,x∈l)→a.length+s.length≤1048576→0≤k→k+s.length*K≤9223372036854775806→(∀x∈s,0≤K) →
   zAD f (mk k a.length (a++s))=some (.inl (fin (mkL m s k).2 (a++(mkL m s k).1))):=by
  intro s
  induction s with
  |nil=>intro k a _ _ _ _ _;rw[zAW,List.append_nil,hend];simp[mkL]
  | cons x s ih =>
    intro k a hs ha hk0 hk hK
    have e:((s.length+1:Nat):Int)*K=s.length*K+K:=by rw[Int.natCast_add,Int.add_mul];simp
    simp only[List.length_cons]at ha hk
    rw[e]at hk
    have hK0:=hK x (by simp)
    have hn:0≤(s.length:Int)*K:=Int.mul_nonneg (by omega) hK0
    have hx:=hm x (hs x (by simp)) k hk0
    rw[zAW,hstep k a x s (hs x (by simp)) (by omega) hk0 (by omega)]
    simp only
    have:=ih (m x k).2 (a++[(m x k).1]) (fun y hy=>hs y (by simp[hy])) (by simp;omega) (by omega) (by omega) (fun y hy=>hK y (by simp[hy]))
    simp only[List.length_append,List.length_cons,List.length_nil,List.append_assoc,List.cons_append,List.nil_append,Nat.zero_add]at this
    rw[this]
    simp only[mkL]
 have:=key l k [] (fun _ h=>h) (by simpa using hl) h0 hM (fun x hx=>by have:=hm x hx 0 (by omega);omega)
 simp only[List.length_nil,List.nil_append]at this
 rw[hx,this,zAE]
theorem zDP {f:X→Option (X⊕(Y⊕R))}(mk:List α→Int→Nat→X)(fin:Int→Y)(m:α→Int→α×Int)(K:Int)(l:List α)(k:Int){x0:X}{c:Y→Option R}(hx:x0=mk (mkL m l k).1 k 0)(h0:0≤k)(hM:k+l.length*K≤9223372036854775806)(hl:l.length≤1048576)
  (hm:∀x∈l,Mks m K x)
  (hend:∀a k,f (mk a k a.length)=some (.inr (.inl (fin k))))
  (hstep:∀k a x b,x∈l→a.length≤1048576→0≤k→k+K≤9223372036854775806→f (mk (a++(m x k).1::b) k a.length)=some (.inl (mk (a++(m x k).1::b) (m x k).2 (a.length+1)))) :
  bindE (zAD f x0) c=c (fin (mkL m l k).2):=by
 have key:∀(s:List α) (k:Int) (a:List α),(∀x∈s,x∈l)→a.length+s.length≤1048576→0≤k→k+s.length*K≤9223372036854775806→(∀x∈s,0≤K) →
   zAD f (mk (a++(mkL m s k).1) k a.length)=some (.inl (fin (mkL m s k).2)):=by
  intro s
  induction s with
  |nil=>intro k a _ _ _ _ _;simp only[mkL,List.append_nil];rw[zAW,hend]
  | cons x s ih =>
    intro k a hs ha hk0 hk hK
    have e:((s.length+1:Nat):Int)*K=s.length*K+K:=by rw[Int.natCast_add,Int.add_mul];simp
    simp only[List.length_cons]at ha hk
    rw[e]at hk
    have hK0:=hK x (by simp)
    have hn:0≤(s.length:Int)*K:=Int.mul_nonneg (by omega) hK0
    have hx:=hm x (hs x (by simp)) k hk0
    simp only[mkL]
    rw[zAW,hstep k a x _ (hs x (by simp)) (by omega) hk0 (by omega)]
    simp only
    have:=ih (m x k).2 (a++[(m x k).1]) (fun y hy=>hs y (by simp[hy])) (by simp;omega) (by omega) (by omega) (fun y hy=>hK y (by simp[hy]))
    simp only[List.length_append,List.length_cons,List.length_nil,List.append_assoc,List.cons_append,List.nil_append,Nat.zero_add]at this
    exact this
 have:=key l k [] (fun _ h=>h) (by simpa using hl) h0 hM (fun x hx=>by have:=hm x hx 0 (by omega);omega)
 simp only[List.length_nil,List.nil_append]at this
 rw[hx,this,zAE]
theorem zRq {f:X→Option (X⊕(Y⊕R))}(mk:Nat→List α→X)(fin:List α→Y)(g:α→α)(l:List α){x0:X}{c:Y→Option R}(hx:x0=mk 0 l)(hl:l.length≤1048576)
  (hend:∀a,a.length=l.length→f (mk a.length a)=some (.inr (.inl (fin a))))
  (hstep:∀a x b,x∈l→a.length+b.length+1=l.length→f (mk a.length (a++x::b))=some (.inl (mk (a.length+1) (a++g x::b)))) :
  bindE (zAD f x0) c=c (fin (l.map g)):=by
 have key:∀(s a:List α),(∀x∈s,x∈l)→a.length+s.length=l.length→zAD f (mk a.length (a++s))=some (.inl (fin (a++s.map g))):=by
  intro s
  induction s with
  |nil=>intro a _ h;rw[zAW,List.append_nil,hend _ (by simpa using h)];simp
  | cons x s ih =>
    intro a hs h
    simp only[List.length_cons]at h
    rw[zAW,hstep a x s (hs x (by simp)) (by omega)]
    simp only
    have:=ih (a++[g x]) (fun y hy=>hs y (by simp[hy])) (by simp;omega)
    simp only[List.length_append,List.length_cons,List.length_nil,List.append_assoc,List.cons_append,List.nil_append,Nat.zero_add]at this
    rw[this]
    simp
 have:=key l [] (fun _ h=>h) (by simp)
 simp only[List.length_nil,List.nil_append]at this
 rw[hx,this,zAE]
theorem zHa {f:X→Option (X⊕(Y⊕R))}(mk:Nat→X)(fin:Y)(n:Nat){x0:X}{c:Y→Option R}(hx:x0=mk 0)(hend:f (mk n)=some (.inr (.inl fin)))(hstep:∀ i,i<n→f (mk i)=some (.inl (mk (i+1)))) :
  bindE (zAD f x0) c=c fin:=by
 have key:∀m i,i+m=n→zAD f (mk i)=some (.inl fin):=by
  intro m
  induction m with
  |zero=>intro i h;have:i=n:=by omega
         subst this;rw[zAW,hend]
  |succ m ih=>intro i h;rw[zAW,hstep i (by omega)];exact ih (i+1) (by omega)
 rw[hx,key n 0 (by omega),zAE]
end
end Go.TM
end
section
namespace Go.TM
open Go.AM
section
variable {α β:Type}
noncomputable def eqL (g:α×α→Option Bool):List α×List α→Option Bool:=fun(a,b) =>
 cndO (!decide ((a.length:Int)=b.length)) (some false)
  (bindE (zAD (fun(a1,b1,i) =>
    cndO (decide (i<((a1:List α).length:Int)))
     (grdO (decide ((0:Int)≤i)) (atO a1 (Int.toNat i) fun x=>grdO (decide ((0:Int)≤i)) (atO (b1:List α) (Int.toNat i) fun x1=>zAA (g (x,x1)) fun y =>
     cndO (!y) (some (Sum.inr (Sum.inr false))) (some (Sum.inl (a1,b1,IntKind.wrap .i64 (i+1)))))))
     (some (Sum.inr (Sum.inl ())))) (a,b,(0:Int))) fun _=>some true)
theorem zER [DecidableEq α]{g:α×α→Option Bool}{a b:List α}(hg:∀ x∈a,∀ y∈b,g (x,y)=some (decide (x=y)))(hl:a.length<9223372036854775807):eqL g (a,b)=some (decide (a=b)):=by
 simp only[eqL,zAM,zAC]
 by_cases hab:(a.length:Int)=b.length
 ·rw[if_pos hab]
  have hab':a.length=b.length:=by omega
  have key:=zNB (Y:=Unit⊕Bool) (f:=fun(p:List α×List α×Int) =>
    if p.2.2<(p.1.length:Int)then
     (grdO (decide ((0:Int)≤p.2.2)) (atO p.1 (Int.toNat p.2.2) fun x=>grdO (decide ((0:Int)≤p.2.2)) (atO p.2.1 (Int.toNat p.2.2) fun x1=>zAA (g (x,x1)) fun y =>
     cndO y (some (Sum.inl (p.1,p.2.1,IntKind.wrap .i64 (p.2.2+1)))) (some (Sum.inr (Sum.inr false))))))
     else(some (Sum.inr (Sum.inl ()))))
   (fun p=>a.length-p.2.2.toNat) (fun p=>p.1=a∧p.2.1=b∧0≤p.2.2∧p.2.2≤a.length)
   (fun p=>if a.drop p.2.2.toNat=b.drop p.2.2.toNat then .inl ()else .inr false) (by
    rintro⟨a1,b1,i⟩ ⟨ha,hb,h0,h1⟩
    simp only at ha hb h0 h1 ⊢
    subst ha hb
    by_cases hi:i<(a1.length:Int)
    ·rw[if_pos hi]
     have hn:i.toNat<a1.length:=by omega
     have hn2:i.toNat<b1.length:=by omega
     rw[zAT h0,zAL hn,zAT h0,zAL hn2,hg _ (List.getElem_mem hn) _ (List.getElem_mem hn2)]
     simp only[zAB,zAC]
     rw[zBI hn,zBI hn2]
     by_cases hx:a1[i.toNat]=b1[i.toNat]
     ·rw[if_pos hx]
      refine .inl ⟨_,rfl,?_,⟨rfl,rfl,?_,?_⟩,?_⟩
      ·simp only;rw[wrapI (by omega) (by omega)];omega
      ·simp only;rw[wrapI (by omega) (by omega)];omega
      ·simp only;rw[wrapI (by omega) (by omega)];omega
      ·simp only
       rw[wrapI (by omega) (by omega),show(i+1).toNat=i.toNat+1 by omega]
       simp only[hx,List.cons.injEq,true_and]
     ·rw[if_neg hx]
      refine .inr ?_
      rw[if_neg (fun h=>hx (List.cons.inj h).1)]
    ·rw[if_neg hi]
     refine .inr ?_
     rw[List.drop_eq_nil_of_le (by omega),List.drop_eq_nil_of_le (by omega)]
     simp) (a,b,0) ⟨rfl,rfl,by simp,by simp⟩
  simp only at key
  rw[key]
  simp only[Int.toNat_zero,List.drop_zero]
  by_cases h:a=b
  ·simp[h]
  ·simp[h]
 ·rw[if_neg hab]
  have:a≠b:=fun h=>hab (by rw[h])
  simp[this]
noncomputable def szL (g:α×Int→Option Int):List α×Int→Option Int:=fun(a,left) =>
 cndO (decide (IntKind.wrap .i64 (left-(a.length:Int))<(0:Int))) (some (-1))
  (bindE (zAD (fun(a1,left1,i) =>
    cndO (decide (i<((a1:List α).length:Int)))
     (grdO (decide ((0:Int)≤i)) (atO a1 (Int.toNat i) fun x=>zAA (g (x,left1)) fun y =>
     cndO (decide (y<(0:Int))) (some (Sum.inr (Sum.inr (-1:Int)))) (some (Sum.inl (a1,y,IntKind.wrap .i64 (i+1))))))
     (some (Sum.inr (Sum.inl left1)))) (a,IntKind.wrap .i64 (left-(a.length:Int)),(0:Int))) fun left1=>some left1)
def SzOk (r:Option Int)(left:Int)(P:Prop):Prop:=∃y,r=some y ∧ -1≤y∧y≤left∧(0≤y→P)
theorem zMB {g:α×Int→Option Int}{P:α→Prop}{a:List α}{left:Int}(h0:0≤left)(h1:left≤1048576)(hl:a.length<9223372036854775807-1048576)
  (hg:∀x∈a,∀left,0≤left→left≤1048576→SzOk (g (x,left)) left (P x)):SzOk (szL g (a,left)) left (a.length≤1048576∧∀x∈a,P x):=by
 simp only[szL,zAC]
 have w:IntKind.wrap .i64 (left-(a.length:Int))=left-a.length:=wrapI (by omega) (by omega)
 rw[w]
 by_cases hn:left-(a.length:Int)<0
 ·rw[if_pos hn];exact⟨-1,rfl,by omega,by omega,by omega⟩
 ·rw[if_neg hn]
  obtain⟨y,h2,h3⟩:=zGY (Y:=Int⊕Int) (f:=fun(p:List α×Int×Int) =>
    if p.2.2<(p.1.length:Int)then
     (grdO (decide ((0:Int)≤p.2.2)) (atO p.1 (Int.toNat p.2.2) fun x=>zAA (g (x,p.2.1)) fun y =>
     if y<(0:Int)then(some (Sum.inr (Sum.inr (-1:Int))))else(some (Sum.inl (p.1,y,IntKind.wrap .i64 (p.2.2+1))))))
    else(some (Sum.inr (Sum.inl p.2.1))))
   (fun p=>a.length-p.2.2.toNat) (fun p=>p.1=a∧0≤p.2.1∧p.2.1≤left∧0≤p.2.2∧p.2.2≤a.length∧∀j,j<p.2.2.toNat→∀x,a[j]? = some x→P x)
   (fun y=>(∃z,y = .inl z∧0≤z∧z≤left∧∀x∈a,P x)∨y = .inr (-1)) (by
    rintro⟨a1,l1,i⟩ ⟨ha,q1,q2,q3,q4,q5⟩
    simp only at ha q1 q2 q3 q4 q5 ⊢
    subst ha
    by_cases hi:i<(a1.length:Int)
    ·rw[if_pos hi]
     have hn:i.toNat<a1.length:=by omega
     obtain⟨y,e1,e2,e3,e4⟩:=hg _ (List.getElem_mem hn) l1 q1 (by omega)
     rw[zAT q3,zAL hn,e1]
     simp only[zAB]
     by_cases hy:y<0
     ·rw[if_pos hy];exact .inr ⟨_,rfl,.inr rfl⟩
     ·rw[if_neg hy]
      have w:IntKind.wrap .i64 (i+1)=i+1:=wrapI (by omega) (by omega)
      refine .inl ⟨_,rfl,?_,rfl,?_,?_,?_,?_,?_⟩<;>simp only[w]<;>try omega
      intro j hj x hx
      by_cases hji:j<i.toNat
      ·exact q5 j hji x hx
      ·have:j=i.toNat:=by omega
       subst this
       rw[List.getElem?_eq_getElem hn]at hx
       simp only[Option.some.injEq]at hx
       rw[←hx];exact e4 (by omega)
    ·rw[if_neg hi]
     refine .inr ⟨_,rfl,.inl ⟨_,rfl,q1,q2,fun x hx=>?_⟩⟩
     obtain⟨j,hj,rfl⟩:=List.mem_iff_getElem.1 hx
     exact q5 j (by omega) _ (List.getElem?_eq_getElem hj)) (a,left-a.length,0) ⟨rfl,by simp only;omega,by simp only;omega,by simp,by simp,by simp⟩
  rw[h2]
  rcases h3 with⟨z,rfl,h4,h5,h6⟩|rfl
  ·exact⟨z,rfl,by omega,h5,fun _=>⟨by omega,h6⟩⟩
  ·exact⟨-1,rfl,by omega,by omega,by omega⟩
theorem zTd {l:List β}{n:Nat}{v:β}(h:n<l.length):(l.set n v).take (n+1)=l.take n++[v]:=by
 rw[List.take_succ_eq_append_getElem (by simpa using h),List.getElem_set_self,List.take_set_of_le (Nat.le_refl n)]
noncomputable def toL (b:Int)(z:β)(g:α→Option β):List α→Option (List β):=fun a =>
 grdO (decide ((a.length:Int)=a.length)&&decide ((0:Int)≤a.length)&&decide ((a.length:Int)≤9223372036854775807)&&decide ((a.length:Int)*b≤140737488355328)) (bindE (zAD (fun(a1,out,i) =>
   cndO (decide (i<((a1:List α).length:Int)))
    (grdO (decide ((0:Int)≤i)) (atO a1 (Int.toNat i) fun x=>zAA (g x) fun y =>
    grdO (decide ((0:Int)≤i)&&decide (i<((out:List β).length:Int))) (atO out (Int.toNat i) fun x1=>some (Sum.inl (a1,List.set out (Int.toNat i) y,IntKind.wrap .i64 (i+1))))))
    (some (Sum.inr (Sum.inl out)))) (a,List.replicate (Int.toNat (a.length:Int)) z,(0:Int))) fun out=>some out)
theorem toL_spec {b:Int}{z:β}{g:α→Option β}{f:α→β}{a:List α}(hb:(a.length:Int)*b≤140737488355328)(hl:a.length<9223372036854775807)(hg:∀ x∈a,g x=some (f x)):toL b z g a=some (a.map f):=by
 unfold toL
 rw[show(decide ((a.length:Int)=a.length)&&decide ((0:Int)≤a.length)&&decide ((a.length:Int)≤9223372036854775807)&&decide ((a.length:Int)*b≤140737488355328))=true by
  simp only[Bool.and_eq_true,decide_eq_true_eq];exact⟨⟨⟨trivial,by omega⟩,by omega⟩,hb⟩]
 simp only[zAC,zAG]
 have key:=zNB (Y:=List β⊕List β) (f:=fun(p:List α×List β×Int) =>
   if p.2.2<(p.1.length:Int)then
    (grdO (decide ((0:Int)≤p.2.2)) (atO p.1 (Int.toNat p.2.2) fun x=>zAA (g x) fun y =>
    grdO (decide ((0:Int)≤p.2.2)&&decide (p.2.2<(p.2.1.length:Int))) (atO p.2.1 (Int.toNat p.2.2) fun x1=>some (Sum.inl (p.1,List.set p.2.1 (Int.toNat p.2.2) y,IntKind.wrap .i64 (p.2.2+1))))))
   else(some (Sum.inr (Sum.inl p.2.1))))
  (fun p=>a.length-p.2.2.toNat) (fun p=>p.1=a∧p.2.1.length=a.length∧0≤p.2.2∧p.2.2≤a.length)
  (fun p=>.inl (p.2.1.take p.2.2.toNat++(a.drop p.2.2.toNat).map f)) (by
   rintro⟨a1,out,i⟩ ⟨ha,h2,h0,h1⟩
   simp only at ha h0 h1 h2 ⊢
   subst ha
   by_cases hi:i<(a1.length:Int)
   ·rw[if_pos hi]
    have hn:i.toNat<a1.length:=by omega
    have hn2:i.toNat<out.length:=by omega
    rw[zAT h0,zAL hn,hg _ (List.getElem_mem hn)]
    simp only[zAB]
    rw[zCf,zAT h0,zAT (by omega),zAL hn2]
    have w:IntKind.wrap .i64 (i+1)=i+1:=wrapI (by omega) (by omega)
    refine .inl ⟨_,rfl,?_,⟨rfl,?_,?_,?_⟩,?_⟩<;>simp only[w,List.length_set]<;>try omega
    rw[show(i+1).toNat=i.toNat+1 by omega,zBI hn,zTd hn2,List.map_cons,List.append_assoc]
    rfl
   ·rw[if_neg hi]
    refine .inr ?_
    rw[List.drop_eq_nil_of_le (by omega),List.take_of_length_le (by omega)]
    simp) (a,List.replicate a.length z,0) ⟨rfl,by simp,by simp,by simp⟩
 simp only at key
 rw[show Int.toNat (a.length:Int)=a.length by omega,key]
 simp
theorem SzOk.imp {r:Option Int}{left:Int}{P Q:Prop}(h:SzOk r left P)(hq:P→Q):SzOk r left Q:=by
 obtain⟨y,h1,h2,h3,h4⟩:=h;exact⟨y,h1,h2,h3,fun h=>hq (h4 h)⟩
theorem zOx {n:Nat}{left:Int}(h0:0≤left)(h1:left≤1048576)(hl:n≤140737488351232) :
  SzOk (cndO (decide (IntKind.wrap IntKind.i64 (left-(n:Int))<(0:Int))) (some (-1:Int)) (some (IntKind.wrap IntKind.i64 (left-(n:Int))))) left (n≤1048576):=by
 rw[wrapI (by omega) (by omega),zAC]
 by_cases h:left-(n:Int)<0
 ·rw[if_pos h];exact⟨-1,rfl,by omega,by omega,by omega⟩
 ·rw[if_neg h];exact⟨_,rfl,by omega,by omega,by omega⟩
theorem SzOk.bind {r:Option Int}{k:Int→Option Int}{left:Int}{P Q:Prop}(h:SzOk r left P)(hk:∀ y,0≤y→y≤left→SzOk (k y) y Q) :
  SzOk (zAA r fun y=>cndO (decide (y<(0:Int))) (some (-1:Int)) (k y)) left (P∧Q):=by
 obtain⟨y,h1,h2,h3,h4⟩:=h
 rw[h1,zAB,zAC]
 by_cases hy:y<0
 ·rw[if_pos hy];exact⟨-1,rfl,by omega,by omega,by omega⟩
 ·rw[if_neg hy]
  obtain⟨z,g1,g2,g3,g4⟩:=hk y (by omega) h3
  exact⟨z,g1,g2,by omega,fun hz=>⟨h4 (by omega),g4 hz⟩⟩
theorem SzOk.end_ (y:Int)(h:0≤y):SzOk (some y) y True:=⟨y,rfl,by omega,by omega,fun _=>trivial⟩
end
end Go.TM
end
section
namespace Go.Proofs.YtdpapeledldifaaGreat
open Go Go.AM Go.TM
def bCst (c:Cst):Prop:=c.2.1.length≤1048576
def zEx (l:List Knd):Prop:=l.length≤1048576
def bFrm (f:Frm):Prop:=zEx f.2.1∧zEx f.2.2
def bMth (m:Mth):Prop:=m.2.2.2.2.2.1.length≤1048576∧m.2.2.2.2.2.2.1.length≤1048576∧m.2.2.2.2.2.2.2.length≤1048576∧∀f∈m.2.2.2.2.2.2.2,bFrm f
def bCls (c:Cls):Prop:=(c.1.length≤1048576∧∀x∈c.1,bCst x)∧c.2.2.2.2.1.length≤1048576∧c.2.2.2.2.2.1.length≤1048576∧c.2.2.2.2.2.2.length≤1048576∧∀x∈c.2.2.2.2.2.2,bMth x
theorem sz154 (c:Cst)(left:Int)(h0:0≤left)(h1:left≤1048576)(hs:c.2.1.length≤140737488351232):SzOk (F154 (c,left)) left (bCst c):=zOx h0 h1 hs
theorem f71:F71=szL F154:=rfl
theorem f230:F230=szL F283:=rfl
theorem f74:F74=szL F155:=rfl
theorem sz71 (a:List Cst)(left:Int)(h0:0≤left)(h1:left≤1048576)(hs:a.length≤140737488351232∧∀ x∈a,x.2.1.length≤140737488351232):SzOk (F71 (a,left)) left (a.length≤1048576∧∀x∈a,bCst x):=by
 rw[f71];exact zMB h0 h1 (by omega) fun x hx left g0 g1=>sz154 x left g0 g1 (hs.2 x hx)
theorem sz318 (a:List Knd)(left:Int)(h0:0≤left)(h1:left≤1048576)(hs:a.length≤140737488351232):SzOk (F318 (a,left)) left (zEx a):=zOx h0 h1 hs
theorem sz283 (f:Frm)(left:Int)(h0:0≤left)(h1:left≤1048576)(hs:f.2.1.length≤140737488351232∧f.2.2.length≤140737488351232):SzOk (F283 (f,left)) left (bFrm f):=by
 obtain⟨a0,a1,a2⟩:=f
 exact(SzOk.bind (sz318 a1 left h0 h1 hs.1) fun y g0 g1=>SzOk.bind (sz318 a2 y g0 (by omega) hs.2) fun z k0 k1=>SzOk.end_ z k0).imp fun⟨p,q,_⟩=>⟨p,q⟩
theorem sz230 (a:List Frm)(left:Int)(h0:0≤left)(h1:left≤1048576)(hs:a.length≤140737488351232∧∀ f∈a,f.2.1.length≤140737488351232∧f.2.2.length≤140737488351232):SzOk (F230 (a,left)) left (a.length≤1048576∧∀x∈a,bFrm x):=by
 rw[f230];exact zMB h0 h1 (by omega) fun x hx left g0 g1=>sz283 x left g0 g1 (hs.2 x hx)
def lMth (m:Mth):Prop:=m.2.2.2.2.2.1.length≤140737488351232∧m.2.2.2.2.2.2.1.length≤140737488351232∧m.2.2.2.2.2.2.2.length≤140737488351232∧∀f∈m.2.2.2.2.2.2.2,f.2.1.length≤140737488351232∧f.2.2.length≤140737488351232
theorem sz155 (m:Mth)(left:Int)(h0:0≤left)(h1:left≤1048576)(hs:lMth m):SzOk (F155 (m,left)) left (bMth m):=by
 obtain⟨a0,a1,a2,a3,a4,a5,a6,a7⟩:=m
 obtain⟨s1,s2,s3,s4⟩:=hs
 simp only at s1 s2 s3 s4
 show SzOk (cndO _ _ _) _ _
 rw[wrapI (by omega) (by omega),zAC]
 by_cases h:left-(a5.length:Int)<0
 ·rw[if_pos h];exact⟨-1,rfl,by omega,by omega,by omega⟩
 ·rw[if_neg h]
  obtain⟨y,g1,g2,g3,g4⟩:=SzOk.bind (zOx (by omega) (by omega) s2:SzOk (F229 (a6,left-a5.length)) _ _) fun y g0 g1=>SzOk.bind (sz230 a7 y g0 (by omega) ⟨s3,s4⟩) fun z k0 k1=>SzOk.end_ z k0
  exact⟨y,g1,g2,by omega,fun hy=>by
   obtain⟨p,⟨q1,q2⟩,_⟩:=g4 hy
   exact⟨by simp only;omega,p,q1,q2⟩⟩
theorem sz74 (a:List Mth)(left:Int)(h0:0≤left)(h1:left≤1048576)(hs:a.length≤140737488351232∧∀ m∈a,lMth m):SzOk (F74 (a,left)) left (a.length≤1048576∧∀x∈a,bMth x):=by
 rw[f74];exact zMB h0 h1 (by omega) fun x hx left g0 g1=>sz155 x left g0 g1 (hs.2 x hx)
theorem sz23 (c:Cls)(hs:small tg33 c):SzOk (F23 (c,1048576)) 1048576 (bCls c):=by
 obtain⟨a0,a1,a2,a3,a4,a5,a6⟩:=c
 obtain⟨⟨s1,s2⟩,_,_,_,⟨s3,_⟩,⟨s4,_⟩,⟨s5,s6⟩⟩:=hs
 simp only at s1 s2 s3 s4 s5 s6
 exact(SzOk.bind (sz71 a0 1048576 (by omega) (by omega) ⟨s1,fun x hx=>(s2 x hx).2.1⟩) fun y g0 g1=>SzOk.bind (zOx g0 (by omega) s3) fun y2 k0 k1=>SzOk.bind (zOx k0 (by omega) s4) fun y3 l0 l1 =>
  SzOk.bind (sz74 a6 y3 l0 (by omega) ⟨s5,fun m hm=>by
   obtain⟨_,_,_,_,_,t1,⟨t2,_⟩,⟨t3,t4⟩⟩:=s6 m hm
   exact⟨t1,t2,t3,fun f hf=>by obtain⟨_,⟨u1,_⟩,⟨u2,_⟩⟩:=t4 f hf;exact⟨u1,u2⟩⟩⟩) fun y4 m0 m1=>SzOk.end_ y4 m0).imp fun⟨p1,p2,p3,p4,_⟩=>⟨p1,p2,p3,p4.1,p4.2⟩
theorem t75:F75=toL 40 (0,[],0,0) F156:=rfl
theorem t76:F76=toL 8 0 some:=rfl
theorem t77:F77=toL 24 (0,0,0) F157:=rfl
theorem t231:F231=toL 32 (0,0,0,0) F284:=rfl
theorem t319:F319=toL 16 (0,0) F328:=rfl
theorem t232:F232=toL 56 (0,[],[]) F285:=rfl
theorem t78:F78=toL 104 (0,0,0,0,0,[],[],[]) F158:=rfl
theorem zHo {α:Type}{b:Int}{z:α}{g:α→Option α}{a:List α}(h0:0≤b)(h1:b≤128)(hl:a.length≤1048576)(hg:∀ x∈a,g x=some x):toL b z g a=some a:=by
 rw[toL_spec (f:=id) ?_ (by omega) hg,List.map_id]
 have:(a.length:Int)*b≤1048576*128:=Int.mul_le_mul (by omega) h1 h0 (by omega)
 omega
theorem cp319 (l:List Knd)(h:zEx l):F319 l=some l:=by
 rw[t319];exact zHo (by omega) (by omega) h fun _ _=>rfl
theorem cp285 (f:Frm)(h:bFrm f):F285 f=some f:=by
 obtain⟨a,b,c⟩:=f
 show zAA _ _=_
 rw[cp319 b h.1,zAB,cp319 c h.2,zAB]
theorem cp158 (m:Mth)(h:bMth m):F158 m=some m:=by
 obtain⟨a0,a1,a2,a3,a4,a5,a6,a7⟩:=m
 obtain⟨h1,h2,h3,h4⟩:=h
 show zAA _ _=_
 simp only at h2 h3 h4
 rw[t231,zHo (g:=F284) (by omega) (by omega) h2 fun _ _=>rfl,zAB,t232,zHo (by omega) (by omega) h3 fun x hx=>cp285 x (h4 x hx),zAB]
theorem cp25 (c:Cls)(h:bCls c):F25 c=some c:=by
 obtain⟨a0,a1,a2,a3,a4,a5,a6⟩:=c
 obtain⟨⟨h1,_⟩,h2,h3,h4,h5⟩:=h
 show zAA _ _=_
 simp only at h1 h2 h3 h4 h5
 rw[t75,zHo (g:=F156) (by omega) (by omega) h1 fun _ _=>rfl,zAB,t76,zHo (g:=some) (by omega) (by omega) h2 fun _ _=>rfl,zAB,t77,zHo (g:=F157) (by omega) (by omega) h3 fun _ _=>rfl,zAB,
  t78,zHo (by omega) (by omega) h4 fun x hx=>cp158 x (h5 x hx),zAB]
theorem e79:F79=eqL F159:=rfl
theorem e80:F80=eqL fun p=>some (decide (p.1=p.2)):=rfl
theorem e81:F81=eqL F160:=rfl
theorem e233:F233=eqL F286:=rfl
theorem e320:F320=eqL F329:=rfl
theorem e234:F234=eqL F287:=rfl
theorem e82:F82=eqL F161:=rfl
theorem eq159 (x y:Cst):F159 (x,y)=some (decide (x=y)):=by
 obtain⟨a0,a1,a2,a3⟩:=x;obtain⟨b0,b1,b2,b3⟩:=y
 simp only[F159,zAM,zAC,Prod.mk.injEq]
 by_cases h0:a0=b0<;>by_cases h1:a1=b1<;>by_cases h2:a2=b2<;>by_cases h3:a3=b3<;>simp[h0,h1,h2,h3]
theorem eq160 (x y:Fld):F160 (x,y)=some (decide (x=y)):=by
 obtain⟨a0,a1,a2⟩:=x;obtain⟨b0,b1,b2⟩:=y
 simp only[F160,zAM,zAC,Prod.mk.injEq]
 by_cases h0:a0=b0<;>by_cases h1:a1=b1<;>by_cases h2:a2=b2<;>simp[h0,h1,h2]
theorem eq286 (x y:Trp):F286 (x,y)=some (decide (x=y)):=by
 obtain⟨a0,a1,a2,a3⟩:=x;obtain⟨b0,b1,b2,b3⟩:=y
 simp only[F286,zAM,zAC,Prod.mk.injEq]
 by_cases h0:a0=b0<;>by_cases h1:a1=b1<;>by_cases h2:a2=b2<;>by_cases h3:a3=b3<;>simp[h0,h1,h2,h3]
theorem eq329 (x y:Knd):F329 (x,y)=some (decide (x=y)):=by
 obtain⟨a0,a1⟩:=x;obtain⟨b0,b1⟩:=y
 simp only[F329,zAM,zAC,Prod.mk.injEq]
 by_cases h0:a0=b0<;>by_cases h1:a1=b1<;>simp[h0,h1]
theorem eq320 (a b:List Knd)(h:zEx a):F320 (a,b)=some (decide (a=b)):=by
 rw[e320];exact zER (fun x _ y _=>eq329 x y) (by simp only[zEx]at h;omega)
theorem eq287 (x y:Frm)(h:bFrm x):F287 (x,y)=some (decide (x=y)):=by
 obtain⟨a0,a1,a2⟩:=x;obtain⟨b0,b1,b2⟩:=y
 simp only[F287,eq320 a1 b1 h.1,eq320 a2 b2 h.2,zAB,zAM,zAC,Prod.mk.injEq]
 by_cases h0:a0=b0<;>by_cases h1:a1=b1<;>by_cases h2:a2=b2<;>simp[h0,h1,h2]
theorem eq161 (x y:Mth)(h:bMth x):F161 (x,y)=some (decide (x=y)):=by
 obtain⟨a0,a1,a2,a3,a4,a5,a6,a7⟩:=x;obtain⟨b0,b1,b2,b3,b4,b5,b6,b7⟩:=y
 obtain⟨h1,h2,h3,h4⟩:=h
 simp only at h1 h2 h3 h4
 have q1:F233 (a6,b6)=some (decide (a6=b6)):=by rw[e233];exact zER (fun x _ y _=>eq286 x y) (by omega)
 have q2:F234 (a7,b7)=some (decide (a7=b7)):=by rw[e234];exact zER (fun x hx y _=>eq287 x y (h4 x hx)) (by omega)
 simp only[F161,q1,q2,zAB,zAM,zAC,Prod.mk.injEq]
 by_cases h0:a0=b0
 ·by_cases h1:a1=b1
  ·by_cases h2:a2=b2
   ·by_cases h3:a3=b3
    ·by_cases h4:a4=b4
     ·by_cases h5:a5=b5
      ·by_cases h6:a6=b6<;>by_cases h7:a7=b7<;>simp[*]
      ·simp[*]
     ·simp[*]
    ·simp[*]
   ·simp[*]
  ·simp[*]
 ·simp[*]
theorem eq27 (x:Cls)(h:bCls x):F27 (x,x)=some true:=by
 obtain⟨a0,a1,a2,a3,a4,a5,a6⟩:=x
 obtain⟨⟨h1,_⟩,h2,h3,h4,h5⟩:=h
 simp only at h1 h2 h3 h4 h5
 have q1:F79 (a0,a0)=some true:=by rw[e79,zER (fun x _ y _=>eq159 x y) (by omega)];simp
 have q2:F80 (a4,a4)=some true:=by rw[e80,zER (fun x _ y _=>rfl) (by omega)];simp
 have q3:F81 (a5,a5)=some true:=by rw[e81,zER (fun x _ y _=>eq160 x y) (by omega)];simp
 have q4:F82 (a6,a6)=some true:=by rw[e82,zER (fun x hx y _=>eq161 x y (h5 x hx)) (by omega)];simp
 simp only[F27,q1,q2,q3,q4,zAB,zAM,zAC,zAJ,if_true]
end Go.Proofs.YtdpapeledldifaaGreat
end
section
namespace Go.TM
open Go.AM
section
variable {σ α β:Type}
def Sm (Re:σ→Option (List UInt8)→Prop)(r:Option (α×σ))(m:Option (α×List UInt8)):Prop :=
 ∃v s,r=some (v,s)∧Re s (m.map (·.2))∧∀v' l,m=some (v',l)→v=v'
variable {Re:σ→Option (List UInt8)→Prop}
theorem Sm.bind {r:Option (α×σ)}{m:Option (α×List UInt8)}{k:α×σ→Option (β×σ)}{k':α→List UInt8→Option (β×List UInt8)}(h:Sm Re r m)
  (hk:∀v s st,Re s st→(∀l,st=some l→m=some (v,l))→Sm Re (k (v,s)) (st.bind (k' v))):Sm Re (zAA r k) (m.bind fun p=>k' p.1 p.2):=by
 obtain⟨v,s,rfl,h1,h2⟩:=h
 rw[zAB]
 have:=hk v s (m.map (·.2)) h1 (by
  intro l hl
  cases m with
  |none=>cases hl
  |some p=>obtain⟨a,b⟩:=p;simp only[Option.map_some,Option.some.injEq]at hl;subst hl;rw[h2 a b rfl])
 cases m with
 |none=>exact this
 | some p =>
   obtain⟨a,b⟩:=p
   have e:=h2 a b rfl
   subst e
   exact this
theorem Sm.ret {s:σ}{st:Option (List UInt8)}(h:Re s st)(v:α):Sm Re (some (v,s)) (st.bind fun l=>some (v,l)):=by
 refine⟨v,s,rfl,?_,fun v' l hl=>?_⟩
 ·cases st with
  |none=>exact h
  |some l=>exact h
 ·cases st with
  |none=>cases hl
  |some l=>simp only[Option.bind_some,Option.some.injEq,Prod.mk.injEq]at hl;exact hl.1
def gRep (g:List UInt8→Option (β×List UInt8)):Nat→List UInt8→Option (List β×List UInt8)
 |0,l=>some ([],l)
 |n+1,l=>(g l).bind fun p=>(gRep g n p.2).bind fun q=>some (p.1::q.1,q.2)
theorem zSM {g:List UInt8→Option (β×List UInt8)}:∀(n:Nat) (l:List UInt8) (vs:List β) (l':List UInt8),gRep g n l=some (vs,l')→vs.length=n
 |0,l,vs,l',h=>by simp only[gRep,Option.some.injEq,Prod.mk.injEq]at h;rw[←h.1];rfl
 | n+1,l,vs,l',h=>by
   simp only[gRep]at h
   cases hg:g l with
   |none=>rw[hg]at h;cases h
   | some p =>
     rw[hg]at h
     simp only[Option.bind_some]at h
     cases hr:gRep g n p.2 with
     |none=>rw[hr]at h;cases h
     | some q =>
       rw[hr]at h
       simp only[Option.bind_some,Option.some.injEq,Prod.mk.injEq]at h
       rw[←h.1,List.length_cons,zSM n p.2 q.1 q.2 hr]
theorem zSN {g:List UInt8→Option (β×List UInt8)}{P:β→Prop}(hg:∀ l v l',g l=some (v,l')→P v):∀(n:Nat) (l:List UInt8) (vs:List β) (l':List UInt8),gRep g n l=some (vs,l')→∀v∈vs,P v
 |0,l,vs,l',h=>by simp only[gRep,Option.some.injEq,Prod.mk.injEq]at h;rw[←h.1];simp
 | n+1,l,vs,l',h=>by
   simp only[gRep]at h
   cases hgl:g l with
   |none=>rw[hgl]at h;cases h
   | some p =>
     rw[hgl]at h
     simp only[Option.bind_some]at h
     cases hr:gRep g n p.2 with
     |none=>rw[hr]at h;cases h
     | some q =>
       rw[hr]at h
       simp only[Option.bind_some,Option.some.injEq,Prod.mk.injEq]at h
       rw[←h.1]
       intro v hv
       simp only[List.mem_cons]at hv
       rcases hv with rfl|hv
       ·exact hg l _ _ hgl
       ·exact zSN hg n p.2 q.1 q.2 hr v hv
theorem loop_sim {X Y:Type}{f:X→Option (X⊕Y)}(mk:List β→Nat→σ→X)(fin:List β→σ→Y)(n:Nat)(g:List UInt8→Option (β×List UInt8))
  (hbad:∀out i s,i≤n→Re s none→f (mk out i s)=some (.inr (fin out s)))
  (hend:∀out s l,Re s (some l)→f (mk out n s)=some (.inr (fin out s)))
  (hstep:∀out i s l,i<n→out.length=i→Re s (some l)→∃v s',f (mk out i s)=some (.inl (mk (out++[v]) (i+1) s'))∧Re s' ((g l).map (·.2))∧∀v' l',g l=some (v',l')→v=v') :
  ∀(out:List β) (i:Nat) (s:σ) (st:Option (List UInt8)),i≤n→(∀l,st=some l→out.length=i)→Re s st →
   ∃out' s',zAD f (mk out i s)=some (fin out' s')∧Re s' ((st.bind (gRep g (n-i))).map (·.2))∧∀vs l',st.bind (gRep g (n-i))=some (vs,l')→out'=out++vs:=by
 intro out i s st hi
 generalize hm:n-i=m
 induction m generalizing out i s st with
 | zero =>
   intro ho h
   have:i=n:=by omega
   subst this
   rw[zAW]
   cases st with
   |none=>rw[hbad out i s hi h];exact⟨out,s,rfl,h,fun _ _ h=>by cases h⟩
   | some l =>
     rw[hend out s l h]
     exact⟨out,s,rfl,h,fun vs l' h=>by simp only[Option.bind_some,gRep,Option.some.injEq,Prod.mk.injEq]at h;simp[←h.1]⟩
 | succ m ih =>
   intro ho h
   rw[zAW]
   cases st with
   |none=>rw[hbad out i s hi h];exact⟨out,s,rfl,h,fun _ _ h=>by cases h⟩
   | some l =>
     obtain⟨v,s',h1,h2,h3⟩:=hstep out i s l (by omega) (ho l rfl) h
     rw[h1]
     obtain⟨out',s'',q1,q2,q3⟩:=ih (out++[v]) (i+1) s' ((g l).map (·.2)) (by omega) (by omega) (by intro l' hl;simp[ho l rfl]) h2
     refine⟨out',s'',q1,?_,fun vs l' hv=>?_⟩
     ·cases hg:g l with
      |none=>rw[hg]at q2;simpa[gRep,hg]using q2
      | some p =>
        rw[hg]at q2
        simp only[Option.map_some,Option.bind_some]at q2
        simp only[Option.bind_some,gRep,hg]
        cases hr:gRep g m p.2 with
        |none=>rw[hr]at q2;exact q2
        |some q=>rw[hr]at q2;exact q2
     ·cases hg:g l with
      |none=>simp[gRep,hg]at hv
      | some p =>
        obtain⟨a,b⟩:=p
        have e:=h3 a b hg
        subst e
        rw[hg]at q3
        simp only[Option.map_some,Option.bind_some]at q3
        simp only[Option.bind_some,gRep,hg]at hv
        cases hr:gRep g m b with
        |none=>rw[hr]at hv;cases hv
        | some q =>
          rw[hr]at hv
          simp only[Option.bind_some,Option.some.injEq,Prod.mk.injEq]at hv
          rw[q3 q.1 q.2 hr,←hv.1]
          simp
end
def g1:List UInt8→Option (Int×List UInt8)
 |[]=>none
 |x::l=>some ((x.toNat:Int),l)
def g2 (l:List UInt8):Option (Int×List UInt8):=(g1 l).bind fun p=>(g1 p.2).bind fun q=>some (p.1*256+q.1,q.2)
def gT (n:Int)(l:List UInt8):Option (List UInt8×List UInt8):=if n≤l.length then some (l.take n.toNat,l.drop n.toNat)else none
theorem zDS {l l':List UInt8}{v:Int}(h:g1 l=some (v,l')):0≤v∧v≤255:=by
 cases l with
 |nil=>cases h
 | cons x l =>
   simp only[g1,Option.some.injEq,Prod.mk.injEq]at h
   have:=x.toNat_lt
   omega
theorem zUc {l l':List UInt8}{v:Int}(h:g2 l=some (v,l')):0≤v∧v≤65535:=by
 unfold g2 at h
 cases h1:g1 l with
 |none=>rw[h1]at h;cases h
 | some p =>
   rw[h1]at h
   simp only[Option.bind_some]at h
   cases h2:g1 p.2 with
   |none=>rw[h2]at h;cases h
   | some q =>
     rw[h2]at h
     simp only[Option.bind_some,Option.some.injEq,Prod.mk.injEq]at h
     have:=zDS (l:=l) (v:=p.1) (l':=p.2) h1
     have:=zDS (l:=p.2) (v:=q.1) (l':=q.2) h2
     omega
end Go.TM
end
section
namespace Go.Proofs.YtdpapeledldifaaGreat
open Go Go.AM Go.TM
def Re3 (s0:List UInt8)(p:List UInt8×Int×Bool)(st:Option (List UInt8)):Prop :=
 p.1=s0∧0≤p.2.1∧p.2.1≤s0.length∧s0.length≤900∧(st=none→p.2.2=true)∧∀l,st=some l→p.2.2=false∧l=s0.drop p.2.1.toNat
def Re2 (p:List UInt8×Bool)(st:Option (List UInt8)):Prop :=
 p.1.length≤900∧(st=none→p.2=true)∧∀l,st=some l→p.2=false∧l=p.1
theorem wI {x:Int}(h1 : -9223372036854775808≤x)(h2:x≤9223372036854775807):IntKind.wrap .i64 x=x:=AM.wrapI h1 h2
theorem Re3.bad {s0:List UInt8}{p:List UInt8×Int×Bool}{st:Option (List UInt8)}(h:Re3 s0 p st):Re3 s0 (p.1,p.2.1,true) none:=⟨h.1,h.2.1,h.2.2.1,h.2.2.2.1,fun _=>rfl,fun _ h=>by cases h⟩
theorem Re2.bad {p:List UInt8×Bool}{st:Option (List UInt8)}(h:Re2 p st):Re2 (p.1,true) none:=⟨h.1,fun _=>rfl,fun _ h=>by cases h⟩
theorem s221 {s0:List UInt8}(s:List UInt8×Int×Bool)(st:Option (List UInt8))(h:Re3 s0 s st):Sm (Re3 s0) (F221 s) (st.bind g1):=by
 obtain⟨o0,o1,o2⟩:=s
 obtain⟨h1,h2,h3,h4,h5,h6⟩:=h
 simp only at h1 h2 h3 h5 h6
 subst h1
 cases st with
 | none =>
   have:=h5 rfl
   subst this
   refine⟨0,(o0,o1,true),rfl,⟨rfl,h2,h3,h4,fun _=>rfl,fun _ h=>by cases h⟩,fun _ _ h=>by cases h⟩
 | some l =>
   obtain⟨rfl,rfl⟩:=h6 l rfl
   simp only[F221,zAI,zAE,zAC]
   by_cases hl:(o0.length:Int)≤o1
   ·rw[if_pos hl]
    have:o0.drop o1.toNat=[]:=List.drop_eq_nil_of_le (by omega)
    refine⟨_,_,rfl,?_,?_⟩
    ·simp only[Option.bind_some,this,g1,Option.map_none]
     exact⟨rfl,h2,h3,h4,fun _=>rfl,fun _ h=>by cases h⟩
    ·intro v' l' hv
     simp[this,g1]at hv
   ·rw[if_neg hl]
    rw[wI (x:=o1+1) (by omega) (by omega),wI (x:=o1+1-1) (by omega) (by omega),show o1+1-1=o1 by omega]
    have hn:o1.toNat<o0.length:=by omega
    rw[zAT h2,zAL hn]
    have hr:=o0[o1.toNat].toNat_lt
    rw[wI (by omega) (by omega)]
    refine⟨_,_,rfl,?_,?_⟩
    ·simp only[Option.bind_some,zBI hn,g1,Option.map_some]
     refine⟨rfl,by simp only;omega,by simp only;omega,h4,(fun h=>by cases h),fun l h=>⟨rfl,?_⟩⟩
     simp only[Option.some.injEq]at h
     rw[←h]
     simp only
     rw[show(o1+1).toNat=o1.toNat+1 by omega]
    ·intro v' l' hv
     simp only[Option.bind_some,zBI hn,g1,Option.some.injEq,Prod.mk.injEq]at hv
     exact hv.1
theorem s222 {s0:List UInt8}(s:List UInt8×Int×Bool)(st:Option (List UInt8))(h:Re3 s0 s st):Sm (Re3 s0) (F222 s) (st.bind g2):=by
 have e:st.bind g2=(st.bind g1).bind fun p=>(g1 p.2).bind fun q=>some (p.1*256+q.1,q.2):=by cases st<;>rfl
 rw[e]
 refine Sm.bind (k':=fun a l=>(g1 l).bind fun q=>some (a*256+q.1,q.2)) (s221 s st h) fun v s1 st1 h1 e1=>?_
 have e:(st1.bind fun l=>(g1 l).bind fun q=>some (v*256+q.1,q.2))=(st1.bind g1).bind fun q=>some (v*256+q.1,q.2):=by cases st1<;>rfl
 rw[e]
 refine Sm.bind (k':=fun a l=>some (v*256+a,l)) (s221 s1 st1 h1) fun v2 s2 st2 h2 e2=>?_
 cases st2 with
 |none=>exact⟨_,_,rfl,h2,fun _ _ h=>by cases h⟩
 | some l2 =>
   have q2:=e2 l2 rfl
   cases st1 with
   |none=>cases q2
   | some l1 =>
     have q1:=e1 l1 rfl
     cases st with
     |none=>cases q1
     | some l =>
       have r1:=zDS (l:=l) q1
       have r2:=zDS (l:=l1) q2
       refine⟨_,_,rfl,h2,fun v' l' hv=>?_⟩
       simp only[Option.bind_some,Option.some.injEq,Prod.mk.injEq]at hv
       rw[←hv.1]
       rw[wI (x:=v*256) (by omega) (by omega),wI (by omega) (by omega)]
theorem s219 {s0:List UInt8}(n:Int)(s:List UInt8×Int×Bool)(st:Option (List UInt8))(h:Re3 s0 s st)(hn:∀ l,st=some l→0≤n∧n≤65535):Sm (Re3 s0) (F219 (n,s)) (st.bind (gT n)):=by
 obtain⟨o0,o1,o2⟩:=s
 obtain⟨h1,h2,h3,h4,h5,h6⟩:=h
 simp only at h1 h2 h3 h5 h6
 subst h1
 cases st with
 | none =>
   have:=h5 rfl
   subst this
   refine⟨[],(o0,o1,true),rfl,⟨rfl,h2,h3,h4,fun _=>rfl,fun _ h=>by cases h⟩,fun _ _ h=>by cases h⟩
 | some l =>
   obtain⟨rfl,rfl⟩:=h6 l rfl
   obtain⟨n0,n1⟩:=hn _ rfl
   simp only[F219,zAI,zAE,zAC]
   rw[wI (x:=o1+n) (by omega) (by omega),wI (x:=o1+n-n) (by omega) (by omega),show o1+n-n=o1 by omega]
   by_cases hl:(o0.length:Int)<o1+n
   ·rw[if_pos hl]
    refine⟨_,_,rfl,?_,?_⟩
    ·have:¬n≤((o0.drop o1.toNat).length:Int):=by simp only[List.length_drop];omega
     simp only[Option.bind_some,gT,if_neg this,Option.map_none]
     exact⟨rfl,h2,h3,h4,fun _=>rfl,fun _ h=>by cases h⟩
    ·intro v' l' hv
     have:¬n≤((o0.drop o1.toNat).length:Int):=by simp only[List.length_drop];omega
     simp only[Option.bind_some,gT,if_neg this]at hv
     cases hv
   ·rw[if_neg hl]
    have hle:n≤((o0.drop o1.toNat).length:Int):=by simp only[List.length_drop];omega
    rw[zCf,zCf,zAT h2,zAT (by omega),zAT (by omega)]
    refine⟨_,_,rfl,?_,?_⟩
    ·simp only[Option.bind_some,gT,if_pos hle,Option.map_some]
     refine⟨rfl,by simp only;omega,by simp only;omega,h4,(fun h=>by cases h),fun l h=>⟨rfl,?_⟩⟩
     simp only[Option.some.injEq]at h
     rw[←h,List.drop_drop]
     simp only
     rw[show(o1+n).toNat=o1.toNat+n.toNat by omega]
    ·intro v' l' hv
     simp only[Option.bind_some,gT,if_pos hle,Option.some.injEq,Prod.mk.injEq]at hv
     rw[←hv.1,show(o1+n).toNat=o1.toNat+n.toNat by omega,List.drop_take]
     congr 1
     omega
theorem i57 (n:Int)(s:List UInt8×Bool)(st:Option (List UInt8))(h:Re2 s st)(hn:∀ l,st=some l→0≤n):Sm Re2 (F57 (n,s)) (st.bind (gT n)):=by
 obtain⟨o0,o1⟩:=s
 obtain⟨h4,h5,h6⟩:=h
 simp only at h4 h5 h6
 cases st with
 | none =>
   have:=h5 rfl
   subst this
   refine⟨[],(o0,true),rfl,⟨h4,fun _=>rfl,fun _ h=>by cases h⟩,fun _ _ h=>by cases h⟩
 | some l =>
   obtain⟨rfl,rfl⟩:=h6 l rfl
   have n0:=hn _ rfl
   simp only[F57,zAI,zAE,zAC]
   by_cases hl:(l.length:Int)<n
   ·rw[if_pos hl]
    refine⟨_,_,rfl,?_,?_⟩
    ·simp only[Option.bind_some,gT,if_neg (show ¬n≤(l.length:Int)by omega),Option.map_none]
     exact⟨h4,fun _=>rfl,fun _ h=>by cases h⟩
    ·intro v' l' hv
     simp only[Option.bind_some,gT,if_neg (show ¬n≤(l.length:Int)by omega)]at hv
     cases hv
   ·rw[if_neg hl]
    have hle:n≤(l.length:Int):=by omega
    rw[zCf,zAT n0,zAT hle,zCf,zCf,zAT n0,zAT hle,zAT (Int.le_refl _)]
    have et:List.take (Int.toNat (l.length:Int)) l=l:=by rw[show Int.toNat (l.length:Int)=l.length by omega,List.take_length]
    refine⟨_,_,rfl,?_,?_⟩
    ·simp only[Option.bind_some,gT,if_pos hle,Option.map_some]
     refine⟨by rw[et];simp only[List.length_drop];omega,(fun h=>by cases h),fun l' h=>⟨rfl,?_⟩⟩
     simp only[Option.some.injEq]at h
     rw[←h,et]
    ·intro v' l' hv
     simp only[Option.bind_some,gT,if_pos hle,Option.some.injEq,Prod.mk.injEq]at hv
     rw[←hv.1,List.drop_zero]
theorem i59 (s:List UInt8×Bool)(st:Option (List UInt8))(h:Re2 s st):Sm Re2 (F59 s) (st.bind g1):=by
 obtain⟨v,s1,e1,e2,e3⟩:=i57 1 s st h fun _ _=>by omega
 obtain⟨o0,o1⟩:=s
 obtain⟨p0,p1⟩:=s1
 simp only[F59]
 rw[e1,zAB]
 simp only
 cases st with
 | none =>
   have:=e2.2.1 rfl
   simp only at this
   subst this
   exact⟨_,_,rfl,e2,fun _ _ h=>by cases h⟩
 | some l =>
   cases l with
   | nil =>
     have hb:=e2.2.1 (by simp[gT])
     simp only at hb
     subst hb
     refine⟨_,_,rfl,?_,fun _ _ h=>by simp[g1]at h⟩
     simpa[gT,g1]using e2
   | cons x l =>
     have hg:(some (x::l)).bind (gT 1)=some ([x],l):=by simp[gT];omega
     rw[hg]at e2 e3
     have:=e3 _ _ rfl
     subst this
     have hb:=(e2.2.2 l rfl).1
     simp only at hb
     subst hb
     have hr:=x.toNat_lt
     simp only[zAI,atO,List.getElem?_cons_zero,Int.toNat_zero]
     rw[wI (by omega) (by omega)]
     exact⟨_,_,rfl,e2,fun v' l' hv=>by simp only[Option.bind_some,g1,Option.some.injEq,Prod.mk.injEq]at hv;exact hv.1⟩
theorem i61 (s:List UInt8×Bool)(st:Option (List UInt8))(h:Re2 s st):Sm Re2 (F61 s) (st.bind g2):=by
 have e:st.bind g2=(st.bind g1).bind fun p=>(g1 p.2).bind fun q=>some (p.1*256+q.1,q.2):=by cases st<;>rfl
 rw[e]
 refine Sm.bind (k':=fun a l=>(g1 l).bind fun q=>some (a*256+q.1,q.2)) (i59 s st h) fun v s1 st1 h1 e1=>?_
 have e:(st1.bind fun l=>(g1 l).bind fun q=>some (v*256+q.1,q.2))=(st1.bind g1).bind fun q=>some (v*256+q.1,q.2):=by cases st1<;>rfl
 rw[e]
 refine Sm.bind (k':=fun a l=>some (v*256+a,l)) (i59 s1 st1 h1) fun v2 s2 st2 h2 e2=>?_
 cases st2 with
 |none=>exact⟨_,_,rfl,h2,fun _ _ h=>by cases h⟩
 | some l2 =>
   have q2:=e2 l2 rfl
   cases st1 with
   |none=>cases q2
   | some l1 =>
     have q1:=e1 l1 rfl
     cases st with
     |none=>cases q1
     | some l =>
       have r1:=zDS (l:=l) q1
       have r2:=zDS (l:=l1) q2
       refine⟨_,_,rfl,h2,fun v' l' hv=>?_⟩
       simp only[Option.bind_some,Option.some.injEq,Prod.mk.injEq]at hv
       rw[←hv.1]
       rw[wI (x:=256*v) (by omega) (by omega),wI (by omega) (by omega)]
       omega
end Go.Proofs.YtdpapeledldifaaGreat
end
section
namespace Go.TM
open Go.AM
section
variable {σ α β R Y:Type}
theorem zAz {r:Option α}{k:α→Option (Y⊕R)}{k2:Y→Option R}:bindE (zAA r k) k2=zAA r fun x=>bindE (k x) k2:=by cases r<;>rfl
theorem zCS {c:Prop}[Decidable c](A B:Y)(k:Y→Option R):bindE (cndO (decide c) (some (.inl A)) (some (.inl B))) k=k (if c then A else B):=by by_cases h:c<;>simp[h]
variable {Re:σ→Option (List UInt8)→Prop}
theorem Sm.step {F:Option (α×σ)}{g:List UInt8→Option (α×List UInt8)}{st:Option (List UInt8)}{k:α×σ→Option (β×σ)}{k':α→List UInt8→Option (β×List UInt8)}
  (hF:Sm Re F (st.bind g)) (hk:∀v s' st',Re s' st'→(∀l',st'=some l'→∃l,st=some l∧g l=some (v,l'))→Sm Re (k (v,s')) (st'.bind (k' v))) :
  Sm Re (zAA F k) (st.bind fun l=>(g l).bind fun p=>k' p.1 p.2):=by
 have e:(st.bind fun l=>(g l).bind fun p=>k' p.1 p.2)=(st.bind g).bind fun p=>k' p.1 p.2:=by cases st<;>rfl
 rw[e]
 refine Sm.bind hF fun v s' st' h1 h2=>hk v s' st' h1 fun l' hl=>?_
 have:=h2 l' hl
 cases st with
 |none=>cases this
 |some l=>exact⟨l,rfl,this⟩
theorem zBD {c:Prop}[Decidable c](st:Option (List UInt8))(M:List UInt8→Option (β×List UInt8)):(st.bind fun l=>if c then none else M l)=(if c then none else st).bind M:=by
 by_cases h:c<;>cases st<;>simp[h]
theorem zJR {X Y:Type}{f:X→Option (X⊕Y)}(mk:List β→Nat→σ→X)(fin:List β→σ→Y)(n:Nat)(g:List UInt8→Option (β×List UInt8))(s:σ)(st:Option (List UInt8))(h:Re s st)
  (hbad:∀out i s,Re s none→f (mk out i s)=some (.inr (fin out s)))
  (hg:∀l,st=some l→(∀out s l,Re s (some l)→f (mk out n s)=some (.inr (fin out s))) ∧
   ∀out i s l,i<n→out.length=i→Re s (some l)→∃v s',f (mk out i s)=some (.inl (mk (out++[v]) (i+1) s'))∧Re s' ((g l).map (·.2))∧∀v' l',g l=some (v',l')→v=v') :
   ∃out' s',zAD f (mk [] 0 s)=some (fin out' s')∧Re s' ((st.bind (gRep g n)).map (·.2))∧∀vs l',st.bind (gRep g n)=some (vs,l')→out'=vs:=by
 cases st with
 | none =>
   rw[zAW,hbad [] 0 s h]
   exact⟨[],s,rfl,h,fun _ _ h=>by cases h⟩
 | some l =>
   obtain⟨h1,h2⟩:=hg l rfl
   obtain⟨o,s',q1,q2,q3⟩:=loop_sim mk fin n g (fun out i s _ h=>hbad out i s h) h1 h2 [] 0 s (some l) (Nat.zero_le _) (fun _ _=>rfl) h
   exact⟨o,s',q1,q2,fun vs l' h=>by simpa using q3 vs l' h⟩
theorem Sm.loop {X Y γ:Type}{f:X→Option (X⊕(Y⊕(γ×σ)))}(mk:List β→Nat→σ→X)(fin:List β→σ→Y)(n:Nat)(g:List UInt8→Option (β×List UInt8)){s:σ}{st:Option (List UInt8)}(h:Re s st)
  {k:Y→Option (γ×σ)} {k':List β→List UInt8→Option (γ×List UInt8)} {x0:X} (hx:x0=mk [] 0 s)
  (hbad:∀out i s,Re s none→f (mk out i s)=some (.inr (.inl (fin out s))))
  (hg:∀l,st=some l→(∀out s l,Re s (some l)→f (mk out n s)=some (.inr (.inl (fin out s)))) ∧
   ∀out i s l,i<n→out.length=i→Re s (some l)→∃v s',f (mk out i s)=some (.inl (mk (out++[v]) (i+1) s'))∧Re s' ((g l).map (·.2))∧∀v' l',g l=some (v',l')→v=v')
  (hk:∀out s' st',Re s' st'→Sm Re (k (fin out s')) (st'.bind (k' out))) :
  Sm Re (bindE (zAD f x0) k) (st.bind fun l=>(gRep g n l).bind fun p=>k' p.1 p.2):=by
 obtain⟨o,s',q1,q2,q3⟩:=zJR mk (fun out s=>(.inl (fin out s):Y⊕(γ×σ))) n g s st h hbad hg
 rw[hx,q1,zAE]
 have:=hk o s' _ q2
 have e:(st.bind fun l=>(gRep g n l).bind fun p=>k' p.1 p.2)=(st.bind (gRep g n)).bind fun p=>k' p.1 p.2:=by cases st<;>rfl
 rw[e]
 cases hm:st.bind (gRep g n)with
 |none=>rw[hm]at this;exact this
 | some p =>
   rw[hm]at this
   rw[q3 p.1 p.2 hm]at this ⊢
   exact this
theorem Sm.one {X Y:Type}{r:Option (β×σ)}{m:Option (β×List UInt8)}{q:Option (X⊕Y)}{mk:β→σ→X}(h:Sm Re r m)(hq:∀ v s,r=some (v,s)→q=some (.inl (mk v s))) :
  ∃v s',q=some (.inl (mk v s'))∧Re s' (m.map (·.2))∧∀v' l',m=some (v',l')→v=v':=by
 obtain⟨v,s,h1,h2,h3⟩:=h
 exact⟨v,s,hq v s h1,h2,h3⟩
end
end Go.TM
namespace Go.Proofs.YtdpapeledldifaaGreat
open Go Go.AM Go.TM
theorem Re3.cut {s0 a:List UInt8}{b:Int}{t:Bool}{st:Option (List UInt8)}(c:Prop)[Decidable c](h:Re3 s0 (a,b,t) st):Re3 s0 (a,b,if c then true else t) (if c then none else st):=by
 by_cases hc:c
 ·simp only[if_pos hc];exact h.bad
 ·simp only[if_neg hc];exact h
def gEnt (t:Int)(l:List UInt8):Option (Cst×List UInt8) :=
 if t=1 then(g1 l).bind fun p=>(gT p.1 p.2).bind fun q=>some ((1,q.1,0,0),q.2)
 else if t=2 then(g2 l).bind fun p=>some ((2,[],p.1,0),p.2)
 else if t=3∨t=4∨t=5∨t=6 then(g2 l).bind fun p=>(g2 p.2).bind fun q=>some ((t,[],p.1,q.1),q.2)
 else none
def zCv (l:List UInt8):Option (Cst×List UInt8):=(g1 l).bind fun p=>gEnt p.1 p.2
theorem s280 {s0:List UInt8}(s:List UInt8×Int×Bool)(st:Option (List UInt8))(h:Re3 s0 s st):Sm (Re3 s0) (F280 s) (st.bind zCv):=by
 obtain⟨o0,o1,o2⟩:=s
 simp only[F280]
 refine Sm.step (s221 _ st h) (k':=gEnt) fun v ⟨a,b,c⟩ st1 h1 e1=>?_
 simp only[zAC,zAr]
 by_cases t1:v=1
 ·subst t1
  simp only[gEnt,if_true,zAz,zAE]
  refine Sm.step (s221 _ st1 h1) (k':=fun n l=>(gT n l).bind fun q=>some ((1,q.1,0,0),q.2)) fun n ⟨a2,b2,c2⟩ st2 h2 e2=>?_
  simp only[zAz,zAE]
  refine Sm.step (s219 n _ st2 h2 fun l hl=>?_) (k':=fun q l=>some ((1,q,0,0),l)) fun n ⟨a3,b3,c3⟩ st3 h3 e3=>Sm.ret h3 _
  obtain⟨_,_,hg⟩:=e2 l hl
  have:=zDS hg
  omega
 ·by_cases t2:v=2
  ·subst t2
   simp only[gEnt,t1,if_false,if_true,zAz,zAE]
   exact Sm.step (s222 _ st1 h1) (k':=fun n l=>some ((2,[],n,0),l)) fun n ⟨a2,b2,c2⟩ st2 h2 e2=>Sm.ret h2 _
  ·by_cases t3:v=3∨v=4∨v=5∨v=6
   ·have two:Sm (Re3 s0) (zAA (F222 (a,b,c)) fun x=>match x with
      | (y4,y5,y6,y7)=>zAA (F222 (y5,y6,y7)) fun x=>match x with
        |(y8,y9,y10,y11)=>some ((v,([]:List UInt8),y4,y8),y9,y10,y11)) (st1.bind fun l=>(g2 l).bind fun p=>(g2 p.2).bind fun q=>some ((v,[],p.1,q.1),q.2)) :=
     Sm.step (s222 _ st1 h1) (k':=fun n l=>(g2 l).bind fun q=>some ((v,[],n,q.1),q.2)) fun n ⟨a2,b2,c2⟩ st2 h2 e2 =>
      Sm.step (s222 _ st2 h2) (k':=fun q l=>some ((v,[],n,q),l)) fun n ⟨a3,b3,c3⟩ st3 h3 e3=>Sm.ret h3 _
    rcases t3 with rfl|rfl|rfl|rfl <;>
    ·simp only[gEnt,Int.reduceEq,↓reduceIte,zAz,zAE,zAJ,decide_true,or_true,true_or]
     exact two
   ·have h3:¬v=3:=fun h=>t3 (.inl h)
    have h4:¬v=4:=fun h=>t3 (.inr (.inl h))
    have h5:¬v=5:=fun h=>t3 (.inr (.inr (.inl h)))
    have h6:¬v=6:=fun h=>t3 (.inr (.inr (.inr h)))
    simp only[t1,t2,h3,h4,h5,h6,↓reduceIte,zAE,zAI,decide_false]
    refine⟨_,_,rfl,?_,?_⟩
    ·cases st1<;>simp only[Option.bind_none,Option.bind_some,gEnt,t1,t2,h3,h4,h5,h6,↓reduceIte,or_false]<;>exact h1.bad
    ·intro _ _ h;cases st1<;>simp only[Option.bind_none,Option.bind_some,gEnt,t1,t2,h3,h4,h5,h6,↓reduceIte,or_false]at h<;>cases h
theorem i60 (s:List UInt8×Bool)(st:Option (List UInt8))(h:Re2 s st):Sm Re2 (F60 s) (st.bind zCv):=by
 obtain⟨o0,o1⟩:=s
 simp only[F60]
 refine Sm.step (i59 _ st h) (k':=gEnt) fun v ⟨a,c⟩ st1 h1 e1=>?_
 simp only[zAC,zAr]
 by_cases t1:v=1
 ·subst t1
  simp only[gEnt,if_true,zAz,zAE]
  refine Sm.step (i59 _ st1 h1) (k':=fun n l=>(gT n l).bind fun q=>some ((1,q.1,0,0),q.2)) fun n ⟨a2,c2⟩ st2 h2 e2=>?_
  simp only[zAz,zAE]
  refine Sm.step (i57 n _ st2 h2 fun l hl=>?_) (k':=fun q l=>some ((1,q,0,0),l)) fun n ⟨a3,c3⟩ st3 h3 e3=>Sm.ret h3 _
  obtain⟨_,_,hg⟩:=e2 l hl
  have:=zDS hg
  omega
 ·by_cases t2:v=2
  ·subst t2
   simp only[gEnt,t1,if_false,if_true,zAz,zAE]
   exact Sm.step (i61 _ st1 h1) (k':=fun n l=>some ((2,[],n,0),l)) fun n ⟨a2,c2⟩ st2 h2 e2=>Sm.ret h2 _
  ·by_cases t3:v=3∨v=4∨v=5∨v=6
   ·have two:Sm Re2 (zAA (F61 (a,c)) fun x=>match x with
      | (y4,y5,y7)=>zAA (F61 (y5,y7)) fun x=>match x with
        |(y8,y9,y11)=>some ((v,([]:List UInt8),y4,y8),y9,y11)) (st1.bind fun l=>(g2 l).bind fun p=>(g2 p.2).bind fun q=>some ((v,[],p.1,q.1),q.2)) :=
     Sm.step (i61 _ st1 h1) (k':=fun n l=>(g2 l).bind fun q=>some ((v,[],n,q.1),q.2)) fun n ⟨a2,c2⟩ st2 h2 e2 =>
      Sm.step (i61 _ st2 h2) (k':=fun q l=>some ((v,[],n,q),l)) fun n ⟨a3,c3⟩ st3 h3 e3=>Sm.ret h3 _
    rcases t3 with rfl|rfl|rfl|rfl <;>
    ·simp only[gEnt,Int.reduceEq,↓reduceIte,zAz,zAE,zAJ,decide_true,or_true,true_or]
     exact two
   ·have h3:¬v=3:=fun h=>t3 (.inl h)
    have h4:¬v=4:=fun h=>t3 (.inr (.inl h))
    have h5:¬v=5:=fun h=>t3 (.inr (.inr (.inl h)))
    have h6:¬v=6:=fun h=>t3 (.inr (.inr (.inr h)))
    simp only[t1,t2,h3,h4,h5,h6,↓reduceIte,zAE,zAI,decide_false]
    refine⟨_,_,rfl,?_,?_⟩
    ·cases st1<;>simp only[Option.bind_none,Option.bind_some,gEnt,t1,t2,h3,h4,h5,h6,↓reduceIte,or_false]<;>exact h1.bad
    ·intro _ _ h;cases st1<;>simp only[Option.bind_none,Option.bind_some,gEnt,t1,t2,h3,h4,h5,h6,↓reduceIte,or_false]at h<;>cases h
def zBn {β:Type}(most:Int)(g:List UInt8→Option (β×List UInt8))(l:List UInt8):Option (List β×List UInt8) :=
 (g1 l).bind fun p=>if most<p.1 then none else gRep g p.1.toNat p.2
theorem s220 {s0:List UInt8}(s:List UInt8×Int×Bool)(st:Option (List UInt8))(h:Re3 s0 s st):Sm (Re3 s0) (F220 s) (st.bind (zBn 60 zCv)):=by
 obtain⟨o0,o1,o2⟩:=s
 simp only[F220]
 refine Sm.step (s221 _ st h) (k':=fun n l=>if 60<n then none else gRep zCv n.toNat l) fun v ⟨a,b,c⟩ st1 h1 e1=>?_
 simp only[zCS]
 rw[show(if(60:Int)<v then(([]:List Cst),v,a,b,true)else([],v,a,b,c))=([],v,a,b,if 60<v then true else c)by split<;>rfl]
 simp only
 rw[zBD]
 have h2:=h1.cut (60<v)
 have e:((if 60<v then none else st1).bind fun l=>gRep zCv v.toNat l)=(if 60<v then none else st1).bind fun l=>(gRep zCv v.toNat l).bind fun p=>some (p.1,p.2):=by
  congr 1;funext l;cases gRep zCv v.toNat l<;>rfl
 rw[e]
 refine Sm.loop (fun out i s=>(out,v,(i:Int),s)) (fun out s=>(out,s)) v.toNat zCv h2 (k':=fun p l=>some (p,l)) rfl ?_ ?_ ?_
 ·intro out i ⟨a,b,c⟩ hs
  have:=hs.2.2.2.2.1 rfl
  simp only at this
  subst this
  by_cases hi:(i:Int)<v<;>simp only[hi,decide_true,decide_false,zAJ,zAI,Bool.not_true,zAH]
 ·intro l hl
  have hv:0≤v∧v≤60:=by
   split at hl
   ·cases hl
   ·obtain⟨_,_,hg⟩:=e1 l hl
    have:=zDS hg
    omega
  refine⟨fun out ⟨a,b,c⟩ l hs=>?_,fun out i ⟨a,b,c⟩ l hi ho hs=>?_⟩
  ·have hi:¬((v.toNat:Int)<v):=by omega
   simp only[hi,decide_false,zAI,zAH]
  ·have hi':(i:Int)<v:=by omega
   have hc:=(hs.2.2.2.2.2 l rfl).1
   simp only at hc
   subst hc
   obtain⟨w,⟨a2,b2,c2⟩,r1,r2,r3⟩:=s280 (a,b,false) (some l) hs
   simp only[hi',decide_true,zAJ,Bool.not_false,zAE,r1,zAB]
   rw[zCf,zAT (by omega),zAT (by omega),wI (by omega) (by omega)]
   exact⟨w,_,rfl,r2,r3⟩
 ·intro out ⟨a,b,c⟩ st' hs
  exact Sm.ret hs _
end Go.Proofs.YtdpapeledldifaaGreat
end
section
namespace Go.Proofs.YtdpapeledldifaaGreat
open Go Go.AM Go.TM
end Go.Proofs.YtdpapeledldifaaGreat
namespace Go.TM
open Go.AM
section
variable {σ α β Z:Type}
def St (Re:σ→Option (List UInt8)→Prop)(q:Option Z)(mk:β→σ→Z)(m:Option (β×List UInt8)):Prop :=
 ∃v s,q=some (mk v s)∧Re s (m.map (·.2))∧∀v' l,m=some (v',l)→v=v'
variable {Re:σ→Option (List UInt8)→Prop}
theorem St.step {F:Option (α×σ)}{g:List UInt8→Option (α×List UInt8)}{st:Option (List UInt8)}{k:α×σ→Option Z}{mk:β→σ→Z}{k':α→List UInt8→Option (β×List UInt8)}
  (hF:Sm Re F (st.bind g)) (hk:∀v s' st',Re s' st'→St Re (k (v,s')) mk (st'.bind (k' v))) :
  St Re (zAA F k) mk (st.bind fun l=>(g l).bind fun p=>k' p.1 p.2):=by
 have e:(st.bind fun l=>(g l).bind fun p=>k' p.1 p.2)=(st.bind g).bind fun p=>k' p.1 p.2:=by cases st<;>rfl
 rw[e]
 obtain⟨v,s,hr,h1,h2⟩:=hF
 rw[hr,zAB]
 have:=hk v s _ h1
 cases hm:st.bind g with
 |none=>rw[hm]at this;exact this
 | some p =>
   rw[hm]at this h2
   have e:=h2 p.1 p.2 rfl
   subst e
   exact this
theorem St.last {F:Option (β×σ)}{g:List UInt8→Option (β×List UInt8)}{st:Option (List UInt8)}{k:β×σ→Option Z}{mk:β→σ→Z}(hF:Sm Re F (st.bind g))(hk:∀ v s',k (v,s')=some (mk v s')):St Re (zAA F k) mk (st.bind g):=by
 obtain⟨v,s,hr,h1,h2⟩:=hF
 rw[hr,zAB,hk]
 exact⟨v,s,rfl,h1,h2⟩
theorem St.ret {s:σ}{st:Option (List UInt8)}{mk:β→σ→Z}(h:Re s st)(v:β):St Re (some (mk v s)) mk (st.bind fun l=>some (v,l)):=by
 refine⟨v,s,rfl,?_,fun v' l hl=>?_⟩
 ·cases st with
  |none=>exact h
  |some l=>exact h
 ·cases st with
  |none=>cases hl
  |some l=>simp only[Option.bind_some,Option.some.injEq,Prod.mk.injEq]at hl;exact hl.1
end
end Go.TM
namespace Go.Proofs.YtdpapeledldifaaGreat
open Go Go.AM Go.TM
theorem zBP {β γ:Type}(most:Int)(g:List UInt8→Option (β×List UInt8))(K:List β→List UInt8→Option (γ×List UInt8)) :
  (fun l=>(zBn most g l).bind fun p=>K p.1 p.2)=fun l=>(g1 l).bind fun p=>if most<p.1 then none else(gRep g p.1.toNat p.2).bind fun q=>K q.1 q.2:=by
 funext l
 unfold zBn
 cases g1 l with
 |none=>rfl
 |some p=>simp only[Option.bind_some];split<;>rfl
theorem zRx {β:Type}(m:List UInt8→Option (β×List UInt8)):(fun l=>(m l).bind fun p=>some (p.1,p.2))=m:=by funext l;cases m l<;>rfl
theorem zEA {most v:Int}{st st1:Option (List UInt8)}(e1:∀ l',st1=some l'→∃ l,st=some l∧g1 l=some (v,l')){l:List UInt8}(hl:(if most<v then none else st1)=some l):0≤v∧v≤most:=by
 split at hl
 ·cases hl
 ·obtain⟨_,_,hg⟩:=e1 l hl
  have:=zDS hg
  omega
def gKnd (l:List UInt8):Option (Knd×List UInt8):=(g1 l).bind fun p=>if p.1=3 then(g2 p.2).bind fun q=>some ((3,q.1),q.2)else if 3<p.1 then none else some ((p.1,0),p.2)
def gTrp (l:List UInt8):Option (Trp×List UInt8):=(g2 l).bind fun p=>(g2 p.2).bind fun q=>(g2 q.2).bind fun r=>(g2 r.2).bind fun s=>some ((p.1,q.1,r.1,s.1),s.2)
def gFrm (l:List UInt8):Option (Frm×List UInt8):=(g2 l).bind fun p=>(zBn 8 gKnd p.2).bind fun q=>(zBn 8 gKnd q.2).bind fun r=>some ((p.1,q.1,r.1),r.2)
def gFld (l:List UInt8):Option (Fld×List UInt8):=(g1 l).bind fun p=>(g2 p.2).bind fun q=>(g2 q.2).bind fun r=>some ((p.1,q.1,r.1),r.2)
def zQs (y:Int):Prop:=Int.tdiv (Int.tmod y 16) 8=1
instance (y:Int):Decidable (zQs y):=inferInstanceAs (Decidable (Int.tdiv (Int.tmod y 16) 8=1))
def b7 (f n d s lo:Int)(code:List UInt8)(tr:List Trp)(l:List UInt8):Option (Mth×List UInt8):=(zBn 8 gFrm l).bind fun p=>some ((f,n,d,s,lo,code,tr,p.1),p.2)
def b6 (f n d s lo:Int)(code:List UInt8)(l:List UInt8):Option (Mth×List UInt8):=(zBn 3 gTrp l).bind fun p=>b7 f n d s lo code p.1 p.2
def b5 (f n d s lo c:Int)(l:List UInt8):Option (Mth×List UInt8):=if 120<c then none else(gT c l).bind fun p=>b6 f n d s lo p.1 p.2
def b4 (f n d s lo:Int)(l:List UInt8):Option (Mth×List UInt8):=(g2 l).bind fun p=>b5 f n d s lo p.1 p.2
def b3 (f n d s:Int)(l:List UInt8):Option (Mth×List UInt8):=(g1 l).bind fun p=>b4 f n d s p.1 p.2
def zUb (f n d:Int)(l:List UInt8):Option (Mth×List UInt8):=(g1 l).bind fun p=>b3 f n d p.1 p.2
def m3 (f n d:Int)(l:List UInt8):Option (Mth×List UInt8):=if zQs f then some ((f,n,d,0,0,[],[],[]),l)else zUb f n d l
def m2 (f n:Int)(l:List UInt8):Option (Mth×List UInt8):=(g2 l).bind fun p=>m3 f n p.1 p.2
def m1 (f:Int)(l:List UInt8):Option (Mth×List UInt8):=(g2 l).bind fun p=>m2 f p.1 p.2
def gMth (l:List UInt8):Option (Mth×List UInt8):=(g1 l).bind fun p=>m1 p.1 p.2
def gc8 (pool:List Cst)(f n s:Int)(fa:List Int)(fi:List Fld)(l:List UInt8):Option (Cls×List UInt8):=(zBn 6 gMth l).bind fun p=>some ((pool,f,n,s,fa,fi,p.1),p.2)
def gc7 (pool:List Cst)(f n s:Int)(fa:List Int)(l:List UInt8):Option (Cls×List UInt8):=(zBn 5 gFld l).bind fun p=>gc8 pool f n s fa p.1 p.2
def gc6' (pool:List Cst)(f n s:Int)(l:List UInt8):Option (Cls×List UInt8):=(zBn 3 g2 l).bind fun p=>gc7 pool f n s p.1 p.2
def gc5 (pool:List Cst)(f n:Int)(l:List UInt8):Option (Cls×List UInt8):=(g2 l).bind fun p=>gc6' pool f n p.1 p.2
def gc4 (pool:List Cst)(f:Int)(l:List UInt8):Option (Cls×List UInt8):=(g2 l).bind fun p=>gc5 pool f p.1 p.2
def gc3 (pool:List Cst)(l:List UInt8):Option (Cls×List UInt8):=(g1 l).bind fun p=>gc4 pool p.1 p.2
def gc2 (l:List UInt8):Option (Cls×List UInt8):=(zBn 60 zCv l).bind fun p=>gc3 p.1 p.2
def gc1 (t:List UInt8)(l:List UInt8):Option (Cls×List UInt8):=if ¬t=[83,84,79,87]then none else gc2 l
def gCls (l:List UInt8):Option (Cls×List UInt8):=(gT 4 l).bind fun p=>gc1 p.1 p.2
theorem s317 {s0:List UInt8}(s:List UInt8×Int×Bool)(st:Option (List UInt8))(h:Re3 s0 s st):Sm (Re3 s0) (F317 s) (st.bind (zBn 8 gKnd)):=by
 obtain⟨o0,o1,o2⟩:=s
 simp only[F317]
 rw[←zRx (zBn 8 gKnd),zBP 8 gKnd fun p l=>some (p,l)]
 refine Sm.step (s221 _ st h) (k':=fun n l=>if 8<n then none else(gRep gKnd n.toNat l).bind fun q=>some (q.1,q.2)) fun v ⟨a,b,c⟩ st1 h1 e1=>?_
 simp only[zCS]
 rw[show(if(8:Int)<v then(([]:List Knd),v,a,b,true)else([],v,a,b,c))=([],v,a,b,if 8<v then true else c)by split<;>rfl]
 simp only
 rw[zBD]
 have h2:=h1.cut (8<v)
 refine Sm.loop (fun out i s=>(out,v,(i:Int),s)) (fun out s=>(out,s)) v.toNat gKnd h2 (k':=fun p l=>some (p,l)) rfl ?_ ?_ ?_
 ·intro out i ⟨a,b,c⟩ hs
  have:=hs.2.2.2.2.1 rfl
  simp only at this
  subst this
  by_cases hi:(i:Int)<v<;>simp only[hi,decide_true,decide_false,zAJ,zAI,Bool.not_true,zAH]
 ·intro l hl
  have hv:=zEA e1 hl
  refine⟨fun out ⟨a,b,c⟩ l hs=>?_,fun out i ⟨a,b,c⟩ l hi ho hs=>?_⟩
  ·have hi:¬((v.toNat:Int)<v):=by omega
   simp only[hi,decide_false,zAI,zAH]
  ·have hi':(i:Int)<v:=by omega
   have hc:=(hs.2.2.2.2.2 l rfl).1
   simp only at hc
   subst hc
   simp only[hi',decide_true,zAJ,Bool.not_false,zAE]
   have hk:Sm (Re3 s0) (zAA (F221 (a,b,false)) fun x=>match x with
     | (y4,y5,y6,y7)=>bindE (Y:=(Int×Int)×List UInt8×Int×Bool) (cndO (decide (y4=3)) (zAA (F222 (y5,y6,y7)) fun x=>match x with|(y8,y9,y10,y11)=>some (.inl ((y4,y8),y9,y10,y11))) (some (.inl ((y4,0),y5,y6,y7))))
       fun x=>match x with|((o04,o14),o05,o15,o24)=>cndO (decide (3<o04)) (some ((o04,o14),o05,o15,true)) (some ((o04,o14),o05,o15,o24))) ((some l).bind gKnd):=by
    refine Sm.step (s221 _ _ hs) (k':=fun p l=>if p=3 then(g2 l).bind fun q=>some ((3,q.1),q.2)else if 3<p then none else some ((p,0),l)) fun w ⟨a2,b2,gc2⟩ st2 h2 e2=>?_
    simp only[zAC,zAr]
    by_cases hw:w=3
    ·subst hw
     simp only[↓reduceIte,zAz,zAE,Int.lt_irrefl]
     exact Sm.step (s222 _ st2 h2) (k':=fun q l=>some ((3,q),l)) fun n ⟨a3,b3,gc3⟩ st3 h3 e3=>Sm.ret h3 _
    ·simp only[hw,↓reduceIte,zAE]
     rw[zBD]
     by_cases h3:3<w
     ·simp only[h3,↓reduceIte]
      exact⟨_,_,rfl,h2.bad,fun _ _ h=>by cases h⟩
     ·simp only[h3,↓reduceIte]
      exact Sm.ret h2 _
   refine hk.one (mk:=fun w s=>(out++[w],v,((i+1:Nat):Int),s)) fun w s' hr=>?_
   rcases h221:F221 (a,b,false)with _|⟨y4,y5,y6,y7⟩
   ·rw[h221]at hr;cases hr
   ·rw[h221]at hr
    simp only[zAB,zAC,zAr]at hr ⊢
    have ho1:out.length+1≤9223372036854775807:=by omega
    have ho2:(out.length+1)*16≤140737488355328:=by omega
    have hwi:IntKind.wrap .i64 ((i:Int)+1)=((i+1:Nat):Int):=by rw[wI (by omega) (by omega)];omega
    by_cases hy:y4=3
    ·subst hy
     simp only[↓reduceIte,zAz,zAE,Int.lt_irrefl]at hr ⊢
     rcases h222:F222 (y5,y6,y7)with _|⟨y8,y9,y10,y11⟩
     ·rw[h222]at hr;cases hr
     ·rw[h222]at hr
      simp only[zAB,Option.some.injEq,Prod.mk.injEq]at hr ⊢
      obtain⟨rfl,rfl⟩:=hr
      simp only[ho1,ho2,decide_true,Bool.and_true,zAG,zAE,hwi]
    ·simp only[hy,↓reduceIte,zAE]at hr ⊢
     by_cases h3:3<y4
     ·simp only[h3,↓reduceIte,Option.some.injEq,Prod.mk.injEq]at hr ⊢
      obtain⟨rfl,rfl⟩:=hr
      simp only[ho1,ho2,decide_true,Bool.and_true,zAG,zAE,hwi]
     ·simp only[h3,↓reduceIte,Option.some.injEq,Prod.mk.injEq]at hr ⊢
      obtain⟨rfl,rfl⟩:=hr
      simp only[ho1,ho2,decide_true,Bool.and_true,zAG,zAE,hwi]
 ·intro out ⟨a,b,c⟩ st' hs
  exact Sm.ret hs _
theorem s281 {s0:List UInt8}(vf vn vd:Int)(s:List UInt8×Int×Bool)(st:Option (List UInt8))(h:Re3 s0 s st):Sm (Re3 s0) (F281 ((vf,vn,vd,0,0,[]),s)) (st.bind (zUb vf vn vd)):=by
 obtain⟨o0,o1,o2⟩:=s
 simp only[F281]
 refine Sm.step (s221 _ st h) (k':=b3 vf vn vd) fun vs ⟨a,b,c⟩ st1 h1 e1=>?_
 refine Sm.step (s221 _ st1 h1) (k':=b4 vf vn vd vs) fun vl ⟨a,b,c⟩ st2 h2 e2=>?_
 refine Sm.step (s222 _ st2 h2) (k':=b5 vf vn vd vs vl) fun v ⟨a,b,c⟩ st3 h3 e3=>?_
 show Sm _ _ (st3.bind fun l=>if 120<v then none else(gT v l).bind fun p=>b6 vf vn vd vs vl p.1 p.2)
 simp only[zCS]
 rw[show(if(120:Int)<v then(v,(vf,vn,vd,vs,vl,([]:List UInt8),([]:List Trp),([]:List Frm)),((0:Int),(0:Int),(0:Int),(0:Int),(0:Int),([]:List UInt8),([]:List Trp),([]:List Frm)),a,b,true)else(v,(vf,vn,vd,vs,vl,([]:List UInt8),([]:List Trp),([]:List Frm)),((0:Int),(0:Int),(0:Int),(0:Int),(0:Int),([]:List UInt8),([]:List Trp),([]:List Frm)),a,b,c))=(v,(vf,vn,vd,vs,vl,([]:List UInt8),([]:List Trp),([]:List Frm)),((0:Int),(0:Int),(0:Int),(0:Int),(0:Int),([]:List UInt8),([]:List Trp),([]:List Frm)),a,b,if 120<v then true else c)by split<;>rfl]
 simp only
 rw[zBD]
 have h4:=h3.cut (120<v)
 refine Sm.step (s219 v _ _ h4 fun l hl=>?_) (k':=b6 vf vn vd vs vl) fun vc ⟨a,b,c⟩ st4 h5 e4=>?_
 ·split at hl
  ·cases hl
  ·obtain⟨_,_,hg⟩:=e3 l hl
   exact zUc hg
 show Sm _ _ (st4.bind fun l=>(zBn 3 gTrp l).bind fun p=>b7 vf vn vd vs vl vc p.1 p.2)
 rw[zBP 3 gTrp (b7 vf vn vd vs vl vc)]
 refine Sm.step (s221 _ st4 h5) (k':=fun n l=>if 3<n then none else(gRep gTrp n.toNat l).bind fun q=>b7 vf vn vd vs vl vc q.1 q.2) fun v2 ⟨a,b,c⟩ st5 h6 e5=>?_
 simp only[zCS]
 rw[show(if(3:Int)<v2 then(v2,(vf,vn,vd,vs,vl,vc,([]:List Trp),([]:List Frm)),((0:Int),(0:Int),(0:Int),(0:Int),(0:Int),([]:List UInt8),([]:List Trp),([]:List Frm)),a,b,true)else(v2,(vf,vn,vd,vs,vl,vc,([]:List Trp),([]:List Frm)),((0:Int),(0:Int),(0:Int),(0:Int),(0:Int),([]:List UInt8),([]:List Trp),([]:List Frm)),a,b,c))=(v2,(vf,vn,vd,vs,vl,vc,([]:List Trp),([]:List Frm)),((0:Int),(0:Int),(0:Int),(0:Int),(0:Int),([]:List UInt8),([]:List Trp),([]:List Frm)),a,b,if 3<v2 then true else c)by split<;>rfl]
 simp only
 rw[zBD]
 have h7:=h6.cut (3<v2)
 refine Sm.loop (fun out i s=>(v2,(i:Int),(vf,vn,vd,vs,vl,vc,out,([]:List Frm)),((0:Int),(0:Int),(0:Int),(0:Int),(0:Int),([]:List UInt8),([]:List Trp),([]:List Frm)),s)) (fun out s=>((vf,vn,vd,vs,vl,vc,out,([]:List Frm)),((0:Int),(0:Int),(0:Int),(0:Int),(0:Int),([]:List UInt8),([]:List Trp),([]:List Frm)),s)) v2.toNat gTrp h7 (k':=b7 vf vn vd vs vl vc) rfl ?_ ?_ ?_
 ·intro out i ⟨a,b,c⟩ hs
  have:=hs.2.2.2.2.1 rfl
  simp only at this
  subst this
  by_cases hi:(i:Int)<v2<;>simp only[hi,decide_true,decide_false,zAJ,zAI,Bool.not_true,zAH]
 ·intro l hl
  have hv:=zEA e5 hl
  refine⟨fun out ⟨a,b,c⟩ l hs=>?_,fun out i ⟨a,b,c⟩ l hi ho hs=>?_⟩
  ·have hi:¬((v2.toNat:Int)<v2):=by omega
   simp only[hi,decide_false,zAI,zAH]
  ·have hi':(i:Int)<v2:=by omega
   have hc:=(hs.2.2.2.2.2 l rfl).1
   simp only at hc
   subst hc
   simp only[hi',decide_true,zAJ,Bool.not_false,zAE]
   have ho1:out.length+1≤9223372036854775807:=by omega
   have ho2:(out.length+1)*32≤140737488355328:=by omega
   have hwi:IntKind.wrap .i64 ((i:Int)+1)=((i+1:Nat):Int):=by rw[wI (by omega) (by omega)];omega
   show St (Re3 s0) _ (fun w s'=>Sum.inl ((v2,((i+1:Nat):Int),(vf,vn,vd,vs,vl,vc,out++[w],([]:List Frm)),((0:Int),(0:Int),(0:Int),(0:Int),(0:Int),([]:List UInt8),([]:List Trp),([]:List Frm)),s'))) ((some l).bind gTrp)
   refine St.step (s222 _ _ hs) (k':=fun p l=>(g2 l).bind fun q=>(g2 q.2).bind fun r=>(g2 r.2).bind fun s=>some ((p,q.1,r.1,s.1),s.2)) fun w0 ⟨a5,b5,gc5⟩ t0 g0=>?_
   refine St.step (s222 _ _ g0) (k':=fun q l=>(g2 l).bind fun r=>(g2 r.2).bind fun s=>some ((w0,q,r.1,s.1),s.2)) fun w1 ⟨a6,b6,gc6⟩ t1 g1=>?_
   refine St.step (s222 _ _ g1) (k':=fun r l=>(g2 l).bind fun s=>some ((w0,w1,r,s.1),s.2)) fun w2 ⟨a7,b7,gc7⟩ t2 g2=>?_
   refine St.step (s222 _ _ g2) (k':=fun s l=>some ((w0,w1,w2,s),l)) fun w3 ⟨a8,b8,gc8⟩ t3 g3=>?_
   simp only[ho1,ho2,decide_true,Bool.and_true,zAG,hwi]
   exact St.ret (mk:=fun w s'=>Sum.inl ((v2,((i+1:Nat):Int),(vf,vn,vd,vs,vl,vc,out++[w],([]:List Frm)),((0:Int),(0:Int),(0:Int),(0:Int),(0:Int),([]:List UInt8),([]:List Trp),([]:List Frm)),s'))) g3 _
 ·intro out ⟨a,b,c⟩ st' hs
  show Sm _ _ (st'.bind fun l=>(zBn 8 gFrm l).bind fun p=>some ((vf,vn,vd,vs,vl,vc,out,p.1),p.2))
  rw[zBP 8 gFrm fun p l=>some ((vf,vn,vd,vs,vl,vc,out,p),l)]
  refine Sm.step (s221 _ _ hs) (k':=fun n l=>if 8<n then none else(gRep gFrm n.toNat l).bind fun q=>some ((vf,vn,vd,vs,vl,vc,out,q.1),q.2)) fun v3 ⟨a,b,c⟩ st6 h8 e6=>?_
  simp only[zCS]
  rw[show(if(8:Int)<v3 then(v3,(vf,vn,vd,vs,vl,vc,out,([]:List Frm)),((0:Int),(0:Int),(0:Int),(0:Int),(0:Int),([]:List UInt8),([]:List Trp),([]:List Frm)),a,b,true)else(v3,(vf,vn,vd,vs,vl,vc,out,([]:List Frm)),((0:Int),(0:Int),(0:Int),(0:Int),(0:Int),([]:List UInt8),([]:List Trp),([]:List Frm)),a,b,c))=(v3,(vf,vn,vd,vs,vl,vc,out,([]:List Frm)),((0:Int),(0:Int),(0:Int),(0:Int),(0:Int),([]:List UInt8),([]:List Trp),([]:List Frm)),a,b,if 8<v3 then true else c)by split<;>rfl]
  simp only
  rw[zBD]
  have h9:=h8.cut (8<v3)
  generalize out=tr
  refine Sm.loop (fun out i s=>(v3,(i:Int),(vf,vn,vd,vs,vl,vc,tr,out),((0:Int),(0:Int),(0:Int),(0:Int),(0:Int),([]:List UInt8),([]:List Trp),([]:List Frm)),s)) (fun out s=>((vf,vn,vd,vs,vl,vc,tr,out),((0:Int),(0:Int),(0:Int),(0:Int),(0:Int),([]:List UInt8),([]:List Trp),([]:List Frm)),s)) v3.toNat gFrm h9 (k':=fun p l=>some ((vf,vn,vd,vs,vl,vc,tr,p),l)) rfl ?_ ?_ ?_
  ·intro out i ⟨a,b,c⟩ hs
   have:=hs.2.2.2.2.1 rfl
   simp only at this
   subst this
   by_cases hi:(i:Int)<v3<;>simp only[hi,decide_true,decide_false,zAJ,zAI,Bool.not_true,zAH]
  ·intro l hl
   have hv:=zEA e6 hl
   refine⟨fun out ⟨a,b,c⟩ l hs=>?_,fun out i ⟨a,b,c⟩ l hi ho hs=>?_⟩
   ·have hi:¬((v3.toNat:Int)<v3):=by omega
    simp only[hi,decide_false,zAI,zAH]
   ·have hi':(i:Int)<v3:=by omega
    have hc:=(hs.2.2.2.2.2 l rfl).1
    simp only at hc
    subst hc
    simp only[hi',decide_true,zAJ,Bool.not_false,zAE]
    have ho1:out.length+1≤9223372036854775807:=by omega
    have ho2:(out.length+1)*56≤140737488355328:=by omega
    have hwi:IntKind.wrap .i64 ((i:Int)+1)=((i+1:Nat):Int):=by rw[wI (by omega) (by omega)];omega
    show St (Re3 s0) _ (fun w s'=>Sum.inl ((v3,((i+1:Nat):Int),(vf,vn,vd,vs,vl,vc,tr,out++[w]),((0:Int),(0:Int),(0:Int),(0:Int),(0:Int),([]:List UInt8),([]:List Trp),([]:List Frm)),s'))) ((some l).bind gFrm)
    refine St.step (s222 _ _ hs) (k':=fun p l=>(zBn 8 gKnd l).bind fun q=>(zBn 8 gKnd q.2).bind fun r=>some ((p,q.1,r.1),r.2)) fun w0 ⟨a5,b5,gc5⟩ t0 g0=>?_
    refine St.step (s317 _ _ g0) (k':=fun q l=>(zBn 8 gKnd l).bind fun r=>some ((w0,q,r.1),r.2)) fun w1 ⟨a6,b6,gc6⟩ t1 g1=>?_
    refine St.step (s317 _ _ g1) (k':=fun r l=>some ((w0,w1,r),l)) fun w2 ⟨a7,b7,gc7⟩ t2 g2=>?_
    simp only[ho1,ho2,decide_true,Bool.and_true,zAG,hwi]
    exact St.ret (mk:=fun w s'=>Sum.inl ((v3,((i+1:Nat):Int),(vf,vn,vd,vs,vl,vc,tr,out++[w]),((0:Int),(0:Int),(0:Int),(0:Int),(0:Int),([]:List UInt8),([]:List Trp),([]:List Frm)),s'))) g2 _
  ·intro out ⟨a,b,c⟩ st' hs
   exact Sm.ret hs _
theorem s223 {s0:List UInt8}(s:List UInt8×Int×Bool)(st:Option (List UInt8))(h:Re3 s0 s st):Sm (Re3 s0) (F223 s) (st.bind gMth):=by
 obtain⟨o0,o1,o2⟩:=s
 simp only[F223]
 refine Sm.step (s221 _ st h) (k':=m1) fun vf ⟨a,b,c⟩ st1 h1 e1=>?_
 refine Sm.step (s222 _ st1 h1) (k':=m2 vf) fun vn ⟨a,b,c⟩ st2 h2 e2=>?_
 refine Sm.step (s222 _ st2 h2) (k':=m3 vf vn) fun vd ⟨a,b,c⟩ st3 h3 e3=>?_
 have hw:IntKind.wrap .i64 (Int.tdiv (Int.tmod vf 16) 8)=Int.tdiv (Int.tmod vf 16) 8:=by
  have h1:=Int.tmod_lt_of_pos vf (show(0:Int)<16 by omega)
  have h2 : -16<Int.tmod vf 16:=by
   rcases Int.lt_or_le vf 0 with hv|hv
   ·have e:Int.tmod vf 16 = - Int.tmod (-vf) 16:=by rw[Int.neg_tmod];omega
    have:=Int.tmod_lt_of_pos (-vf) (show(0:Int)<16 by omega)
    omega
   ·have:=Int.tmod_nonneg 16 hv;omega
  generalize Int.tmod vf 16=q at h1 h2
  have h3 : -3<Int.tdiv q 8:=by
   rcases Int.lt_or_le q 0 with hq|hq
   ·have e:Int.tdiv q 8 = - Int.tdiv (-q) 8:=by rw[Int.neg_tdiv];omega
    have:Int.tdiv (-q) 8=(-q) / 8:=Int.tdiv_eq_ediv_of_nonneg (by omega)
    omega
   ·have:Int.tdiv q 8=q / 8:=Int.tdiv_eq_ediv_of_nonneg hq
    omega
  have h4:Int.tdiv q 8<3:=by
   rcases Int.lt_or_le q 0 with hq|hq
   ·have e:Int.tdiv q 8 = - Int.tdiv (-q) 8:=by rw[Int.neg_tdiv];omega
    have:Int.tdiv (-q) 8=(-q) / 8:=Int.tdiv_eq_ediv_of_nonneg (by omega)
    omega
   ·have:Int.tdiv q 8=q / 8:=Int.tdiv_eq_ediv_of_nonneg hq
    omega
  exact wI (by omega) (by omega)
 simp only[hw,zAC]
 by_cases hab:zQs vf
 ·rw[if_pos (show Int.tdiv (Int.tmod vf 16) 8=1 from hab)]
  have e:m3 vf vn vd=fun l=>some ((vf,vn,vd,0,0,[],[],[]),l):=by funext l;simp only[m3,if_pos hab]
  rw[e]
  exact Sm.ret h3 _
 ·rw[if_neg (show ¬Int.tdiv (Int.tmod vf 16) 8=1 from hab)]
  have e:m3 vf vn vd=fun l=>(zUb vf vn vd l).bind fun p=>some (p.1,p.2):=by funext l;simp only[m3,if_neg hab];cases zUb vf vn vd l<;>rfl
  rw[e]
  exact Sm.step (s281 vf vn vd _ st3 h3) (k':=fun p l=>some (p,l)) fun m ⟨a,b,c⟩ st4 h4 e4=>Sm.ret h4 _
theorem s142 {s0:List UInt8}(s:List UInt8×Int×Bool)(st:Option (List UInt8))(h:Re3 s0 s st):Sm (Re3 s0) (F142 s) (st.bind gCls):=by
 obtain⟨o0,o1,o2⟩:=s
 simp only[F142,zAz,zAM,zCS]
 refine Sm.step (s219 4 _ st h fun _ _=>by omega) (k':=gc1) fun vt ⟨a,b,c⟩ st1 h1 e1=>?_
 simp only
 rw[show(if vt=[83,84,79,87]then((([]:List Cst),(0:Int),(0:Int),(0:Int),([]:List Int),([]:List Fld),([]:List Mth)),(([]:List Cst),(0:Int),(0:Int),(0:Int),([]:List Int),([]:List Fld),([]:List Mth)),a,b,c)else((([]:List Cst),(0:Int),(0:Int),(0:Int),([]:List Int),([]:List Fld),([]:List Mth)),(([]:List Cst),(0:Int),(0:Int),(0:Int),([]:List Int),([]:List Fld),([]:List Mth)),a,b,true))=((([]:List Cst),(0:Int),(0:Int),(0:Int),([]:List Int),([]:List Fld),([]:List Mth)),(([]:List Cst),(0:Int),(0:Int),(0:Int),([]:List Int),([]:List Fld),([]:List Mth)),a,b,if ¬vt=[83,84,79,87]then true else c)by by_cases hvt:vt=[83,84,79,87]<;>simp[hvt]]
 simp only
 show Sm _ _ (st1.bind fun l=>if ¬vt=[83,84,79,87]then none else gc2 l)
 rw[zBD]
 refine Sm.step (s220 _ _ (h1.cut _)) (k':=gc3) fun vp ⟨a,b,c⟩ st2 h2 e2=>?_
 refine Sm.step (s221 _ _ h2) (k':=gc4 vp) fun vf ⟨a,b,c⟩ st3 h3 e3=>?_
 refine Sm.step (s222 _ _ h3) (k':=gc5 vp vf) fun vn ⟨a,b,c⟩ st4 h4 e4=>?_
 refine Sm.step (s222 _ _ h4) (k':=gc6' vp vf vn) fun vs ⟨a,b,c⟩ st5 h5 e5=>?_
 show Sm _ _ (st5.bind fun l=>(zBn 3 g2 l).bind fun p=>gc7 vp vf vn vs p.1 p.2)
 rw[zBP 3 g2 (gc7 vp vf vn vs)]
 refine Sm.step (s221 _ _ h5) (k':=fun n l=>if 3<n then none else(gRep g2 n.toNat l).bind fun q=>gc7 vp vf vn vs q.1 q.2) fun v1 ⟨a,b,c⟩ st6 h6 e6=>?_
 simp only[zCS]
 rw[show(if(3:Int)<v1 then(v1,(([]:List Cst),(0:Int),(0:Int),(0:Int),([]:List Int),([]:List Fld),([]:List Mth)),(vp,vf,vn,vs,([]:List Int),([]:List Fld),([]:List Mth)),a,b,true)else(v1,(([]:List Cst),(0:Int),(0:Int),(0:Int),([]:List Int),([]:List Fld),([]:List Mth)),(vp,vf,vn,vs,([]:List Int),([]:List Fld),([]:List Mth)),a,b,c))=(v1,(([]:List Cst),(0:Int),(0:Int),(0:Int),([]:List Int),([]:List Fld),([]:List Mth)),(vp,vf,vn,vs,([]:List Int),([]:List Fld),([]:List Mth)),a,b,if 3<v1 then true else c)by split<;>rfl]
 simp only
 rw[zBD]
 have h7:=h6.cut (3<v1)
 refine Sm.loop (fun out i s=>(v1,(i:Int),(([]:List Cst),(0:Int),(0:Int),(0:Int),([]:List Int),([]:List Fld),([]:List Mth)),(vp,vf,vn,vs,out,([]:List Fld),([]:List Mth)),s)) (fun out s=>((([]:List Cst),(0:Int),(0:Int),(0:Int),([]:List Int),([]:List Fld),([]:List Mth)),(vp,vf,vn,vs,out,([]:List Fld),([]:List Mth)),s)) v1.toNat g2 h7 (k':=gc7 vp vf vn vs) rfl ?_ ?_ ?_
 ·intro out i ⟨a,b,c⟩ hs
  have:=hs.2.2.2.2.1 rfl
  simp only at this
  subst this
  by_cases hi:(i:Int)<v1<;>simp only[hi,decide_true,decide_false,zAJ,zAI,Bool.not_true,zAH]
 ·intro l hl
  have hv:=zEA e6 hl
  refine⟨fun out ⟨a,b,c⟩ l hs=>?_,fun out i ⟨a,b,c⟩ l hi ho hs=>?_⟩
  ·have hi:¬((v1.toNat:Int)<v1):=by omega
   simp only[hi,decide_false,zAI,zAH]
  ·have hi':(i:Int)<v1:=by omega
   have hc:=(hs.2.2.2.2.2 l rfl).1
   simp only at hc
   subst hc
   simp only[hi',decide_true,zAJ,Bool.not_false,zAE]
   have ho1:out.length+1≤9223372036854775807:=by omega
   have ho2:(out.length+1)*8≤140737488355328:=by omega
   have hwi:IntKind.wrap .i64 ((i:Int)+1)=((i+1:Nat):Int):=by rw[wI (by omega) (by omega)];omega
   show St (Re3 s0) _ (fun w s'=>Sum.inl ((v1,((i+1:Nat):Int),(([]:List Cst),(0:Int),(0:Int),(0:Int),([]:List Int),([]:List Fld),([]:List Mth)),(vp,vf,vn,vs,out++[w],([]:List Fld),([]:List Mth)),s'))) ((some l).bind g2)
   refine St.last (s222 _ _ hs) fun w0 ⟨a5,b5,gc5⟩=>?_
   simp only[ho1,ho2,decide_true,Bool.and_true,zAG,hwi]
 ·intro out ⟨a,b,c⟩ st' hs
  generalize out=fa
  show Sm _ _ (st'.bind fun l=>(zBn 5 gFld l).bind fun p=>gc8 vp vf vn vs fa p.1 p.2)
  rw[zBP 5 gFld (gc8 vp vf vn vs fa)]
  refine Sm.step (s221 _ _ hs) (k':=fun n l=>if 5<n then none else(gRep gFld n.toNat l).bind fun q=>gc8 vp vf vn vs fa q.1 q.2) fun v2 ⟨a,b,c⟩ st8 h8 e8=>?_
  simp only[zCS]
  rw[show(if(5:Int)<v2 then(v2,(([]:List Cst),(0:Int),(0:Int),(0:Int),([]:List Int),([]:List Fld),([]:List Mth)),(vp,vf,vn,vs,fa,([]:List Fld),([]:List Mth)),a,b,true)else(v2,(([]:List Cst),(0:Int),(0:Int),(0:Int),([]:List Int),([]:List Fld),([]:List Mth)),(vp,vf,vn,vs,fa,([]:List Fld),([]:List Mth)),a,b,c))=(v2,(([]:List Cst),(0:Int),(0:Int),(0:Int),([]:List Int),([]:List Fld),([]:List Mth)),(vp,vf,vn,vs,fa,([]:List Fld),([]:List Mth)),a,b,if 5<v2 then true else c)by split<;>rfl]
  simp only
  rw[zBD]
  have h9:=h8.cut (5<v2)
  refine Sm.loop (fun out i s=>(v2,(i:Int),(([]:List Cst),(0:Int),(0:Int),(0:Int),([]:List Int),([]:List Fld),([]:List Mth)),(vp,vf,vn,vs,fa,out,([]:List Mth)),s)) (fun out s=>((([]:List Cst),(0:Int),(0:Int),(0:Int),([]:List Int),([]:List Fld),([]:List Mth)),(vp,vf,vn,vs,fa,out,([]:List Mth)),s)) v2.toNat gFld h9 (k':=gc8 vp vf vn vs fa) rfl ?_ ?_ ?_
  ·intro out i ⟨a,b,c⟩ hs
   have:=hs.2.2.2.2.1 rfl
   simp only at this
   subst this
   by_cases hi:(i:Int)<v2<;>simp only[hi,decide_true,decide_false,zAJ,zAI,Bool.not_true,zAH]
  ·intro l hl
   have hv:=zEA e8 hl
   refine⟨fun out ⟨a,b,c⟩ l hs=>?_,fun out i ⟨a,b,c⟩ l hi ho hs=>?_⟩
   ·have hi:¬((v2.toNat:Int)<v2):=by omega
    simp only[hi,decide_false,zAI,zAH]
   ·have hi':(i:Int)<v2:=by omega
    have hc:=(hs.2.2.2.2.2 l rfl).1
    simp only at hc
    subst hc
    simp only[hi',decide_true,zAJ,Bool.not_false,zAE]
    have ho1:out.length+1≤9223372036854775807:=by omega
    have ho2:(out.length+1)*24≤140737488355328:=by omega
    have hwi:IntKind.wrap .i64 ((i:Int)+1)=((i+1:Nat):Int):=by rw[wI (by omega) (by omega)];omega
    show St (Re3 s0) _ (fun w s'=>Sum.inl ((v2,((i+1:Nat):Int),(([]:List Cst),(0:Int),(0:Int),(0:Int),([]:List Int),([]:List Fld),([]:List Mth)),(vp,vf,vn,vs,fa,out++[w],([]:List Mth)),s'))) ((some l).bind gFld)
    refine St.step (s221 _ _ hs) (k':=fun p l=>(g2 l).bind fun q=>(g2 q.2).bind fun r=>some ((p,q.1,r.1),r.2)) fun w0 ⟨a5,b5,gc5⟩ t0 g0=>?_
    refine St.step (s222 _ _ g0) (k':=fun q l=>(g2 l).bind fun r=>some ((w0,q,r.1),r.2)) fun w1 ⟨a6,b6,gc6⟩ t1 g1=>?_
    refine St.step (s222 _ _ g1) (k':=fun r l=>some ((w0,w1,r),l)) fun w2 ⟨a7,b7,gc7⟩ t2 g2=>?_
    simp only[ho1,ho2,decide_true,Bool.and_true,zAG,hwi]
    exact St.ret (mk:=fun w s'=>Sum.inl ((v2,((i+1:Nat):Int),(([]:List Cst),(0:Int),(0:Int),(0:Int),([]:List Int),([]:List Fld),([]:List Mth)),(vp,vf,vn,vs,fa,out++[w],([]:List Mth)),s'))) g2 _
  ·intro out ⟨a,b,c⟩ st' hs
   generalize out=fi
   show Sm _ _ (st'.bind fun l=>(zBn 6 gMth l).bind fun p=>some ((vp,vf,vn,vs,fa,fi,p.1),p.2))
   rw[zBP 6 gMth fun p l=>some ((vp,vf,vn,vs,fa,fi,p),l)]
   refine Sm.step (s221 _ _ hs) (k':=fun n l=>if 6<n then none else(gRep gMth n.toNat l).bind fun q=>some ((vp,vf,vn,vs,fa,fi,q.1),q.2)) fun v3 ⟨a,b,c⟩ st10 h10 e10=>?_
   simp only[zCS]
   rw[show(if(6:Int)<v3 then(v3,(([]:List Cst),(0:Int),(0:Int),(0:Int),([]:List Int),([]:List Fld),([]:List Mth)),(vp,vf,vn,vs,fa,fi,([]:List Mth)),a,b,true)else(v3,(([]:List Cst),(0:Int),(0:Int),(0:Int),([]:List Int),([]:List Fld),([]:List Mth)),(vp,vf,vn,vs,fa,fi,([]:List Mth)),a,b,c))=(v3,(([]:List Cst),(0:Int),(0:Int),(0:Int),([]:List Int),([]:List Fld),([]:List Mth)),(vp,vf,vn,vs,fa,fi,([]:List Mth)),a,b,if 6<v3 then true else c)by split<;>rfl]
   simp only
   rw[zBD]
   have h11:=h10.cut (6<v3)
   refine Sm.loop (fun out i s=>(v3,(i:Int),(([]:List Cst),(0:Int),(0:Int),(0:Int),([]:List Int),([]:List Fld),([]:List Mth)),(vp,vf,vn,vs,fa,fi,out),s)) (fun out s=>((([]:List Cst),(0:Int),(0:Int),(0:Int),([]:List Int),([]:List Fld),([]:List Mth)),(vp,vf,vn,vs,fa,fi,out),s)) v3.toNat gMth h11 (k':=fun p l=>some ((vp,vf,vn,vs,fa,fi,p),l)) rfl ?_ ?_ ?_
   ·intro out i ⟨a,b,c⟩ hs
    have:=hs.2.2.2.2.1 rfl
    simp only at this
    subst this
    by_cases hi:(i:Int)<v3<;>simp only[hi,decide_true,decide_false,zAJ,zAI,Bool.not_true,zAH]
   ·intro l hl
    have hv:=zEA e10 hl
    refine⟨fun out ⟨a,b,c⟩ l hs=>?_,fun out i ⟨a,b,c⟩ l hi ho hs=>?_⟩
    ·have hi:¬((v3.toNat:Int)<v3):=by omega
     simp only[hi,decide_false,zAI,zAH]
    ·have hi':(i:Int)<v3:=by omega
     have hc:=(hs.2.2.2.2.2 l rfl).1
     simp only at hc
     subst hc
     simp only[hi',decide_true,zAJ,Bool.not_false,zAE]
     have ho1:out.length+1≤9223372036854775807:=by omega
     have ho2:(out.length+1)*104≤140737488355328:=by omega
     have hwi:IntKind.wrap .i64 ((i:Int)+1)=((i+1:Nat):Int):=by rw[wI (by omega) (by omega)];omega
     show St (Re3 s0) _ (fun w s'=>Sum.inl ((v3,((i+1:Nat):Int),(([]:List Cst),(0:Int),(0:Int),(0:Int),([]:List Int),([]:List Fld),([]:List Mth)),(vp,vf,vn,vs,fa,fi,out++[w]),s'))) ((some l).bind gMth)
     refine St.last (s223 _ _ hs) fun w0 ⟨a5,b5,gc5⟩=>?_
     simp only[ho1,ho2,decide_true,Bool.and_true,zAG,hwi]
   ·intro out ⟨a,b,c⟩ st' hs
    exact Sm.ret hs _
end Go.Proofs.YtdpapeledldifaaGreat
end
