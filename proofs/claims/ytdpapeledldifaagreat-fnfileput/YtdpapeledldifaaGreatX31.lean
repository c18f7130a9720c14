/- Part 32 of the proof that the law FnFilePut holds of every input; no condition. -/
import Derived.Test.YtdpapeledldifaaGreatX30
set_option autoImplicit true
set_option relaxedAutoImplicit true
set_option linter.all false
noncomputable section
namespace Go.Proofs.YtdpapeledldifaaGreat
open Go Go.AM Go.TM
set_option maxRecDepth 100000
set_option maxHeartbeats 4000000
abbrev ti227:SPat:=⟨[(0,.sl zBB),(1,.sl zBB)],[]⟩
abbrev to227:SPat:=⟨[(4,.b)],[]⟩
abbrev ts227_4:SPat:=⟨[(0,.sl zBB),(1,.sl zBB),(12,.i .i64),(13,.i .i64)],[]⟩
abbrev zKj:SPat:=⟨[],[]⟩
def tv227:Nat→Option SPat:=fun k=>bif k == 4 then some ts227_4 else bif k == 2000000 then some zKj else none
def tp227:Nat→List Nat×Plan:=fun id=>bif id == 6 then ([0,1,2,3,4,5,6,7,8],.fin) else ([],.fin)
def F227:List (Int×Int)×List (Int×Int)→Option (Bool):=fun (s1,s2) =>
 cndO (!decide ((s1.length:Int)=(s2.length:Int)))
  (some (false))
  (bindE (zAF (fun (s11,s21,v12,v13) =>
    cndO (decide (v13<v12))
     (grdO (decide (0≤v13)) (atO (s11) v13.toNat fun x=>grdO (decide (0≤v13)) (atO (s21) v13.toNat fun x1=>cndO (!(decide (x.1=x1.1) && (decide (x.2=x1.2) && true)))
      (some (Sum.inr (Sum.inr false)))
      (some (Sum.inl (s11,s21,v12,IntKind.wrap .i64 (v13+1)))))))
     (some (Sum.inr (Sum.inl ())))) ((s1,s2,(s1.length:Int),(0:Int)))) fun _ =>
  some (true))
theorem r227 x:funT T tb224 tp227 26 tv227 (zAD Tryz.f227) ti227 to227 x=F227 x:=by kernel_rfl
def te227:=mkE 227 true [] ti227 to227 F227 [.tmp 4] 26 []
def tb227:=insT 227 te227 tb224
theorem ok227:TbOk Tryz.prog tb227:=okI ok224 tp227 tv227 Tryz.func227 rfl Tryz.results227 Tryz.ntmps227 (by kernel_rfl) (by kernel_rfl) Tryz.call227 r227
abbrev ti226:SPat:=⟨[(0,.agg (pl [.i .i64,.sl zBB,.sl zBB])),(1,.agg (pl [.i .i64,.sl zBB,.sl zBB]))],[]⟩
abbrev to226:SPat:=⟨[(4,.b)],[]⟩
def F226:(Frm)×Frm→Option (Bool):=fun ((f0,f1,f2),g0,g1,g2) =>
 cndO (decide (f0=g0))
  (zAA (F227 (f1,g1)) fun y =>
  cndO (y)
   (zAA (F227 (f2,g2)) fun y1 =>
   some (y1))
   (some (false)))
  (some (false))
theorem r226 x:funT T tb227 noPl 24 noIv (zAD Tryz.f226) ti226 to226 x=F226 x:=by kernel_rfl
def te226:=mkE 226 true [] ti226 to226 F226 [.tmp 4] 24 []
def tb226:=insT 226 te226 tb227
theorem ok226:TbOk Tryz.prog tb226:=okI ok227 noPl noIv Tryz.func226 rfl Tryz.results226 Tryz.ntmps226 (by kernel_rfl) (by kernel_rfl) Tryz.call226 r226
abbrev zRR:SPat:=⟨[(0,.sl zBb),(1,.sl zBb),(2,.fn 226 (pl []))],[]⟩
abbrev zRP:SPat:=⟨[(6,.b)],[]⟩
abbrev zSN:SPat:=⟨[(1,.sl zBb),(2,.fn 226 (pl [])),(15,.sl zBb),(16,.i .i64),(17,.i .i64)],[]⟩
abbrev zGl:SPat:=⟨[],[]⟩
def zRM:Nat→Option SPat:=fun k=>bif k == 4 then some zSN else bif k == 2000000 then some zGl else none
def F227225:List Frm×List Frm→Option (Bool):=fun (s1,s2) =>
 cndO (!decide ((s1.length:Int)=(s2.length:Int)))
  (some (false))
  (bindE (zAF (fun (s21,v15,v16,v17) =>
    cndO (decide (v17<v16))
     (grdO (decide (0≤v17)) (atO (v15) v17.toNat fun x=>grdO (decide (0≤v17)) (atO (s21) v17.toNat fun x1=>zAA (F226 ((x.1,x.2.1,x.2.2),x1.1,x1.2.1,x1.2.2)) fun y =>
     cndO (!y)
      (some (Sum.inr (Sum.inr false)))
      (some (Sum.inl (s21,v15,v16,IntKind.wrap .i64 (v17+1)))))))
     (some (Sum.inr (Sum.inl ())))) ((s2,s1,(s1.length:Int),(0:Int)))) fun _ =>
  some (true))
theorem r227225 x:funT T tb226 noPl 32 zRM (zAD Tryz.f225) zRR zRP x=F227225 x:=by kernel_rfl
def te227225:=mkE 225 true [] zRR zRP F227225 [.tmp 6] 32 []
def zMG:=insT 227225 te227225 tb226
theorem ok227225:TbOk Tryz.prog zMG:=okI ok226 noPl zRM Tryz.func225 rfl Tryz.results225 Tryz.ntmps225 (by kernel_rfl) (by kernel_rfl) Tryz.call225 r227225
abbrev ti151:SPat:=⟨[(0,.agg (pl plM)),(1,.agg (pl plM))],[]⟩
abbrev to151:SPat:=⟨[(4,.b)],[]⟩
def F151:(Mth)×Mth→Option (Bool):=fun ((a0,a1,a2,a3,a4,a5,a6,a7),b0,b1,b2,b3,b4,b5,b6,b7) =>
 cndO (decide (a0=b0))
  (cndO (decide (a1=b1))
   (cndO (decide (a2=b2))
    (cndO (decide (a3=b3))
     (cndO (decide (a4=b4))
      (cndO (decide (a5=b5))
       (zAA (F224 (a6,b6)) fun y =>
       cndO (y)
        (zAA (F227225 (a7,b7)) fun y1 =>
        some (y1))
        (some (false)))
       (some (false)))
      (some (false)))
     (some (false)))
    (some (false)))
   (some (false)))
  (some (false))
theorem r151 x:funT T zMG noPl 59 noIv (zAD Tryz.f151) ti151 to151 x=F151 x:=by kernel_rfl
def te151:=mkE 151 true [] ti151 to151 F151 [.tmp 4] 59 []
def tb151:=insT 151 te151 zMG
theorem ok151:TbOk Tryz.prog tb151:=okI ok227225 noPl noIv Tryz.func151 rfl Tryz.results151 Tryz.ntmps151 (by kernel_rfl) (by kernel_rfl) Tryz.call151 r151
abbrev zRS:SPat:=⟨[(0,.sl tg53),(1,.sl tg53),(2,.fn 151 (pl []))],[]⟩
abbrev zRQ:SPat:=⟨[(6,.b)],[]⟩
abbrev zSO:SPat:=⟨[(1,.sl tg53),(2,.fn 151 (pl [])),(15,.sl tg53),(16,.i .i64),(17,.i .i64)],[]⟩
abbrev zGm:SPat:=⟨[],[]⟩
def zRN:Nat→Option SPat:=fun k=>bif k == 4 then some zSO else bif k == 2000000 then some zGm else none
def F152150:List Mth×List Mth→Option (Bool):=fun (s1,s2) =>
 cndO (!decide ((s1.length:Int)=(s2.length:Int)))
  (some (false))
  (bindE (zAF (fun (s21,v15,v16,v17) =>
    cndO (decide (v17<v16))
     (grdO (decide (0≤v17)) (atO (v15) v17.toNat fun x=>grdO (decide (0≤v17)) (atO (s21) v17.toNat fun x1=>zAA (F151 ((x.1,x.2.1,x.2.2.1,x.2.2.2.1,x.2.2.2.2.1,x.2.2.2.2.2.1,x.2.2.2.2.2.2.1,x.2.2.2.2.2.2.2),x1.1,x1.2.1,x1.2.2.1,x1.2.2.2.1,x1.2.2.2.2.1,x1.2.2.2.2.2.1,x1.2.2.2.2.2.2.1,x1.2.2.2.2.2.2.2)) fun y =>
     cndO (!y)
      (some (Sum.inr (Sum.inr false)))
      (some (Sum.inl (s21,v15,v16,IntKind.wrap .i64 (v17+1)))))))
     (some (Sum.inr (Sum.inl ())))) ((s2,s1,(s1.length:Int),(0:Int)))) fun _ =>
  some (true))
theorem r152150 x:funT T tb151 noPl 32 zRN (zAD Tryz.f150) zRS zRQ x=F152150 x:=by kernel_rfl
def te152150:=mkE 150 true [] zRS zRQ F152150 [.tmp 6] 32 []
def zMH:=insT 152150 te152150 tb151
theorem ok152150:TbOk Tryz.prog zMH:=okI ok151 noPl zRN Tryz.func150 rfl Tryz.results150 Tryz.ntmps150 (by kernel_rfl) (by kernel_rfl) Tryz.call150 r152150
abbrev ti68:SPat:=⟨[(0,.agg (pl plC)),(1,.agg (pl plC))],[]⟩
abbrev to68:SPat:=⟨[(4,.b)],[]⟩
def F68:(Cls)×Cls→Option (Bool):=fun ((a0,a1,a2,a3,a4,a5,a6),b0,b1,b2,b3,b4,b5,b6) =>
 zAA (F147 (a0,b0)) fun y =>
 cndO (y)
  (cndO (decide (a1=b1))
   (cndO (decide (a2=b2))
    (cndO (decide (a3=b3))
     (zAA (F148 (a4,b4)) fun y1 =>
     cndO (y1)
      (zAA (F149 (a5,b5)) fun y2 =>
      cndO (y2)
       (zAA (F152150 (a6,b6)) fun y3 =>
       some (y3))
       (some (false)))
      (some (false)))
     (some (false)))
    (some (false)))
   (some (false)))
  (some (false))
theorem r68 x:funT T zMH noPl 52 noIv (zAD Tryz.f68) ti68 to68 x=F68 x:=by kernel_rfl
def te68:=mkE 68 true [] ti68 to68 F68 [.tmp 4] 52 []
def tb68:=insT 68 te68 zMH
theorem ok68:TbOk Tryz.prog tb68:=okI ok152150 noPl noIv Tryz.func68 rfl Tryz.results68 Tryz.ntmps68 (by kernel_rfl) (by kernel_rfl) Tryz.call68 r68
abbrev ti20:SPat:=⟨[(0,.agg (pl plC))],[]⟩
abbrev to20:SPat:=⟨[(2,.s)],[]⟩
def F20:Cls→Option (List UInt8):=fun (c0,c1,c2,c3,c4,c5,c6) =>
 zAA (F66 (c0,c1,c2,c3,c4,c5,c6)) fun y =>
 cndO (!y)
  (some ([]))
  (zAA (F67 (c0,c1,c2,c3,c4,c5,c6)) fun y1 =>
  zAA (F17 y1) fun (y2,y3,y4,y5,y6,y7,x,x1) =>
  cndO (!y2)
   (some ([]))
   (zAA (F68 ((c0,c1,c2,c3,c4,c5,c6),y3,y4,y5,y6,y7,x,x1)) fun y8 =>
   cndO (!y8)
    (some ([]))
    (some (y1))))
theorem r20 x:funT T tb68 noPl 25 noIv (zAD Tryz.f20) ti20 to20 x=F20 x:=by kernel_rfl
def te20:=mkE 20 true [] ti20 to20 F20 [.tmp 2] 25 []
def tb20:=insT 20 te20 tb68
theorem ok20:TbOk Tryz.prog tb20:=okI ok68 noPl noIv Tryz.func20 rfl Tryz.results20 Tryz.ntmps20 (by kernel_rfl) (by kernel_rfl) Tryz.call20 r20
abbrev ti21:SPat:=⟨[(0,.sl .byte)],[]⟩
abbrev to21:SPat:=⟨[(2,.ptr 2 0)],[.box 2 (pl plD)]⟩
def F21:List UInt8→Option (Cls):=fun code =>
 zAA (F49 code) fun (y,y1) =>
 zAA (F50 (y,y1)) fun ((y2,y3,y4,y5,y6,y7,x),x1,x2) =>
 some ((y2,y3,y4,y5,y6,y7,x))
theorem r21 x:funT T tb20 noPl 6 noIv (zAD Tryz.f21) ti21 to21 x=F21 x:=by kernel_rfl
def te21:=mkE 21 false [] ti21 to21 F21 [.cell 2 34] 6 []
def tb21:=insT 21 te21 tb20
theorem ok21:TbOk Tryz.prog tb21:=okI ok20 noPl noIv Tryz.func21 rfl Tryz.results21 Tryz.ntmps21 (by kernel_rfl) (by kernel_rfl) Tryz.call21 r21
abbrev ti5:SPat:=⟨[(0,.sl .byte)],[]⟩
abbrev to5:SPat:=⟨[(2,.b)],[]⟩
abbrev zQC:SPat:=⟨[(3,.ptr 3 0),(4,.s),(21,.b)],[.box 3 (pl plD)]⟩
def tv5:Nat→Option SPat:=fun k=>bif k == 1000006 then some zQC else none
def F5:List UInt8→Option (Bool):=fun code =>
 cndO (decide (1048576<(code.length:Int)))
  (some (true))
  (zAA (F21 code) fun (y,y1,y2,y3,y4,y5,x) =>
  zAA (F20 (y,y1,y2,y3,y4,y5,x)) fun y6 =>
  bindE (Y:=List UInt8×Bool×Cls) (zAA (F22 (y,y1,y2,y3,y4,y5,x)) fun y7 =>
   cndO (!decide (y6=y7))
    (some (Sum.inl (y6,true,y,y1,y2,y3,y4,y5,x)))
    (some (Sum.inl (y6,decide (y6=[]),y,y1,y2,y3,y4,y5,x)))) fun (s,v21,o0,o1,o2,o3,o4,o5,o6) =>
  cndO (v21)
   (zAA (F22 (o0,o1,o2,o3,o4,o5,o6)) fun y7 =>
   some (decide (s=y7)))
   (zAA (F17 s) fun (y7,y8,y9,y10,y11,y12,x1,x2) =>
   cndO (y7)
    (zAA (F19 ((y8,y9,y10,y11,y12,x1,x2),o0,o1,o2,o3,o4,o5,o6)) fun y13 =>
    cndO (y13)
     (some (decide ((s.length:Int)≤900)))
     (some (false)))
    (some (false))))
theorem r5 x:funT T tb21 noPl 42 tv5 (zAD Tryz.f5) ti5 to5 x=F5 x:=by kernel_rfl
def te5:=mkE 5 true [] ti5 to5 F5 [.tmp 2] 42 []
theorem c5:zGt Tryz.prog 5 te5.W:=zUR ok21 layOk mixed true _ ti5 to5 [] noPl tv5 Tryz.func5 rfl Tryz.results5 Tryz.ntmps5 (by kernel_rfl) (by kernel_rfl) Tryz.call5 F5 fun x _ h=>(r5 x).trans h
end Go.Proofs.YtdpapeledldifaaGreat
end
noncomputable section
namespace Go.Proofs.YtdpapeledldifaaGreat
open Go Go.AM Go.TM
set_option maxRecDepth 100000
set_option maxHeartbeats 4000000
end Go.Proofs.YtdpapeledldifaaGreat
end
noncomputable section
namespace Go.Proofs.YtdpapeledldifaaGreat
open Go Go.AM Go.TM
set_option maxRecDepth 100000
set_option maxHeartbeats 4000000
end Go.Proofs.YtdpapeledldifaaGreat
end
noncomputable section
namespace Go.Proofs.YtdpapeledldifaaGreat
open Go Go.AM Go.TM
set_option maxRecDepth 100000
set_option maxHeartbeats 4000000
end Go.Proofs.YtdpapeledldifaaGreat
end
noncomputable section
namespace Go.Proofs.YtdpapeledldifaaGreat
open Go Go.AM Go.TM
set_option maxRecDepth 100000
set_option maxHeartbeats 4000000
end Go.Proofs.YtdpapeledldifaaGreat
end
section
namespace Go.Proofs.YtdpapeledldifaaGreat
open Go Go.AM Go.TM Go.RowKit Go.ChangeShapes Go.WideShapes Go.ChangeAt
theorem rowL5 (x:List UInt8) (h:F5 x=some true):AC Tryz.prog 5 (encC false (.sl .byte) x) [] fun sv _=>sv = .b true :=
 law_args c5 x true rfl rfl h rfl
set_option maxRecDepth 100000 in
theorem lifted5 (hall:∀ x:List UInt8,F5 x=some true) (os:Os) (started:os.Started) (H:Type) (enc:TypeId×Value→H) :
  ReturnsInHanded {} Tryz.checked os 5 .any (Rows.fnFilePutSpec.pre6 enc Tryz.prog Tryz.f5 [] false) (Rows.fnFilePutSpec.post enc Tryz.prog Tryz.f5 false true false false):=by
 refine returnsInHanded_of_change_sized (C:=Tryz.checked) own started (by kernel_rfl) Tryz.func5
  (ChangeSpec.witness6 (enc:=enc) (C:=Tryz.checked) false ⟨#[],#[.slice none 0 0],[]⟩ 8 (by kernel_rfl) (by kernel_rfl) (by kernel_rfl) (by kernel_rfl)) ?_
 intro W base args ds gs before hval0 hW _ hsz0 _
 have hval:∀ (j:Nat) t v,Tryz.f5.params[j]? = some t→args[j]? = some v→Value.okWide Tryz.prog W .any base t v:=hval0
 have hsz:(DataW.weightsEach Tryz.prog (Tryz.f5.params.toList++[]) (ds++gs)).all (· ≤ reachBytes)=true:=hsz0
 have hW':=hW
 obtain ⟨p,q,hA0,hV,rfl,hfz,hnd⟩:=hW
 have hA:DataW.TrodAll enc Tryz.prog W 0 (fun _=>true) true Tryz.f5.params.toList args.toList ds p:=hA0
 rw [Tryz.params5] at hA hval hsz
 obtain ⟨v0,d0,rfl,rfl,h0⟩:=trodAll_one hA
 obtain ⟨rfl,rfl⟩:=trodVars_none hV
 obtain ⟨b0,n0,k0,rfl⟩:=okWide_slice Tryz.underlying22 (hval 0 22 v0 rfl rfl)
 have h0k:=h0
 obtain ⟨fuel,ht⟩:=h0
 obtain ⟨x,sx,lx,ox,rx⟩:=opens 8 fuel (.sl .byte) 22 [.slice b0 n0 k0] d0 p rd22 ht (fun m hm=>by
  have:=List.all_eq_true.1 hsz m (by simpa [DataW.weightsEach] using hm)
  simpa using this)
 have hlt:∀ z∈p,z.block<W.heap.size:=fun z hz=>hW'.lt z (by simpa using hz)
 refine (zUe Tryz.func5 (by kernel_rfl) (by kernel_rfl) (rowL5 x (hall x)) (fun _ _ h=>h) rfl (fun G hG=>rx G hG)).mono fun e W' ⟨he,hb⟩=>?_
 subst he
 exact ⟨_,rfl,[d0],[],p++[],[],p,[],hW',trodAll_mk1 (shut_bool Tryz.underlying4 true),trodAll_mk1 (Below.trod laidOut (by kernel_rfl) (of_decide_eq_true (by kernel_rfl)) h0k hb hlt),rfl,hb.frame _,fun h=>by cases h⟩
end Go.Proofs.YtdpapeledldifaaGreat
end
section
namespace Go.Proofs.YtdpapeledldifaaGreat
open Go Go.AM Go.TM Go.RowKit Go.ChangeShapes Go.WideShapes Go.ChangeAt
set_option maxHeartbeats 4000000 in
theorem joined5:joinedFacts Tryz.pinned.checked.prog 5 Tryz.f5 Rows.fnFilePutSpec Rows.fnFilePutRow=true:=by
 unfold joinedFacts
 repeat' with_reducible apply band
 all_goals (as_aux_lemma=>kernel_rfl)
end Go.Proofs.YtdpapeledldifaaGreat
end
section
namespace Go.Proofs.YtdpapeledldifaaGreat
open Go Go.AM Go.TM Go.RowKit Go.ChangeShapes Go.WideShapes Go.ChangeAt
theorem fnFilePut_of (hall:∀ x:List UInt8,F5 x=some true):Rows.FnFilePutSaid :=
 OpenClaim.holds_of_wide 5 Tryz.f5 rfl rfl rfl rfl rfl rfl rfl ⟨rfl,rfl,rfl,rfl,rfl⟩ rfl rfl rfl rfl rfl (by kernel_rfl) Tryz.func5 joined5
  (of_decide_eq_true (by kernel_rfl)) (by unfold Func.isWrapper;first | (rw [if_pos (by decide +kernel)];kernel_rfl) | (rw [if_neg (by decide +kernel)];exact ⟨rfl,rfl⟩))
  (fun os started H enc _=>lifted5 hall os started H enc)
end Go.Proofs.YtdpapeledldifaaGreat
end
section
namespace Go.TM
open Go.AM
section
variable {α β X Y R:Type} {Q:R→Prop}
def Tot (r:Option R) (Q:R→Prop):Prop:=∃ a,r=some a∧Q a
theorem Tot.ret {a:R} (h:Q a):Tot (some a) Q:=⟨a,rfl,h⟩
theorem Tot.mono {r:Option R} {Q':R→Prop} (h:Tot r Q) (g:∀ a,Q a→Q' a):Tot r Q':=by
 obtain ⟨a,e,h⟩:=h;exact ⟨a,e,g a h⟩
theorem Tot.bind {x:Option α} {P:α→Prop} {k:α→Option R} (h:Tot x P) (hk:∀ a,P a→Tot (k a) Q):Tot (zAA x k) Q:=by
 obtain ⟨a,rfl,h⟩:=h;exact hk a h
theorem Tot.grd {t:Bool} {k:Option R} (ht:t=true) (h:Tot k Q):Tot (grdO t k) Q:=by subst ht;exact h
theorem Tot.cnd {t:Bool} {a b:Option R} (h1:t=true→Tot a Q) (h2:t=false→Tot b Q):Tot (cndO t a b) Q:=by
 cases t
 ·exact h2 rfl
 ·exact h1 rfl
theorem Tot.at {l:List α} {n:Nat} {k:α→Option R} (hn:n<l.length) (h:∀ x,l[n]? = some x→Tot (k x) Q):Tot (atO l n k) Q:=by
 have e:l[n]? = some l[n]:=List.getElem?_eq_getElem hn
 show Tot (match l[n]? with | some x=>k x | none=>none) Q
 rw [e];exact h _ e
theorem Tot.at' {l:List α} {n:Nat} {k:α→Option R} {x:α} (e:l[n]? = some x) (h:Tot (k x) Q):Tot (atO l n k) Q:=by
 show Tot (match l[n]? with | some x=>k x | none=>none) Q
 rw [e];exact h
theorem Tot.seq {u:Option Unit} {k:Option R} (h1:Tot u fun _=>True) (h:Tot k Q):Tot (seqU u k) Q:=by
 obtain ⟨a,rfl,_⟩:=h1;exact h
theorem Tot.bindE {x:Option (Y ⊕ R)} {k:Y→Option R} (P:Y→Prop) (h:Tot x (Sum.elim P Q)) (hk:∀ y,P y→Tot (k y) Q):Tot (bindE x k) Q:=by
 obtain ⟨a,rfl,h⟩:=h
 cases a with
 | inl y=>exact hk y h
 | inr r=>exact ⟨r,rfl,h⟩
theorem Tot.loop {f:X→Option (X ⊕ R)} (I:X→Prop) (μ:X→Nat) (hs:∀ x,I x→Tot (f x) (Sum.elim (fun y=>I y∧μ y<μ x) Q)):∀ {x:X},I x→Tot (zAF f x) Q:=by
 have key:∀ n x,μ x≤n→I x→Tot (zAF f x) Q:=by
  intro n
  induction n with
  | zero =>
    intro x hx hi
    obtain ⟨a,e,h⟩:=hs x hi
    rw [zAn,e]
    cases a with
    | inl y=>exact absurd h.2 (by omega)
    | inr r=>exact ⟨r,rfl,h⟩
  | succ n ih =>
    intro x hx hi
    obtain ⟨a,e,h⟩:=hs x hi
    rw [zAn,e]
    cases a with
    | inl y=>exact ih y (by have:=h.2;omega) h.1
    | inr r=>exact ⟨r,rfl,h⟩
 intro x hi
 exact key _ x (Nat.le_refl _) hi
theorem zDA (a:Option R):zBP a a=a:=by unfold zBP;rw [if_pos rfl]
end
end Go.TM
end
section
namespace Go.TM
open Go.AM
section
variable {R α X Y:Type}
@[simp] theorem zAM (A B:Option R):cndO true A B=A:=rfl
@[simp] theorem zAK (A B:Option R):cndO false A B=B:=rfl
@[simp] theorem zAJ {p:Prop} [Decidable p] (A B:Option R):cndO (decide p) A B=if p then A else B:=by
  by_cases h:p <;> simp [h]
@[simp] theorem zAl (b:Bool) (A B:Option R):cndO (!b) A B=cndO b B A:=by cases b <;> rfl
@[simp] theorem zAG (A:Option R):grdO true A=A:=rfl
theorem zAU {p:Prop} [Decidable p] {A:Option R} (h:p):grdO (decide p) A=A:=by simp [h]
theorem zCg (a b:Bool) (A:Option R):grdO (a && b) A=grdO a (grdO b A):=by cases a <;> rfl
@[simp] theorem zAB (a:α) (k:α→Option R):zAA (some a) k=k a:=rfl
@[simp] theorem zAE (y:Y) (k:Y→Option R):bindE (some (.inl y)) k=k y:=rfl
@[simp] theorem zAH (r:R) (k:Y→Option R):bindE (some (.inr r)) k=some r:=rfl
@[simp] theorem zAa (u:Unit) (k:Option R):seqU (some u) k=k:=rfl
theorem atO_at {l:List α} {n:Nat} {x:α} {k:α→Option R} (h:l[n]? = some x):atO l n k=k x:=by unfold atO;rw [h]
theorem zAR {l:List α} {n:Nat} {k:α→Option R} (h:n<l.length):atO l n k=k l[n]:=atO_at (List.getElem?_eq_getElem h)
theorem zAw {c:Prop} [Decidable c] (A B:Option (Y ⊕ R)) (k:Y→Option R):bindE (if c then A else B) k=if c then bindE A k else bindE B k:=by split <;> rfl
theorem zBM {l:List α} {n:Nat} (h:n<l.length):l.drop n=l[n] :: l.drop (n+1):=List.drop_eq_getElem_cons h
end
end Go.TM
end
section
namespace Go.TM
open Go.AM
section
variable {α β:Type}
def SzOk (r:Option Int) (left:Int) (P:Prop):Prop:=∃ y,r=some y ∧ -1≤y∧y≤left∧(0≤y→P)
theorem SzOk.bind {r:Option Int} {k:Int→Option Int} {left:Int} {P Q:Prop} (h:SzOk r left P) (hk:∀ y,0≤y→y≤left→SzOk (k y) y Q) :
  SzOk (zAA r fun y=>cndO (decide (y<(0:Int))) (some (-1:Int)) (k y)) left (P∧Q):=by
 obtain ⟨y,h1,h2,h3,h4⟩:=h
 rw [h1,zAB,zAJ]
 by_cases hy:y<0
 ·rw [if_pos hy];exact ⟨-1,rfl,by omega,by omega,by omega⟩
 ·rw [if_neg hy]
  obtain ⟨z,g1,g2,g3,g4⟩:=hk y (by omega) h3
  exact ⟨z,g1,g2,by omega,fun hz=>⟨h4 (by omega),g4 hz⟩⟩
end
end Go.TM
end
section
namespace Go.Proofs.YtdpapeledldifaaGreat
open Go Go.AM Go.TM
def Rd (c:Nat) (r:List UInt8×Int):Prop:=r.1.length≤2000∧0≤r.2∧r.2≤c
theorem Rd.mono {c d:Nat} {r:List UInt8×Int} (h:Rd c r) (hc:c≤d):Rd d r:=⟨h.1,h.2.1,by have:=h.2.2;omega⟩
theorem zPx {a b:Int} (ha:0≤a) (ha':a<9223372036854775808) (hb:0≤b) (hb':b<9223372036854775808):0≤xorI .i64 a b:=by
 unfold xorI
 have e:∀ {x:Int},0≤x→x<9223372036854775808→(BitVec.ofInt 64 x).toNat=x.toNat:=by
  intro x h0 h1
  rw [BitVec.toNat_ofInt]
  show (x % ((2 ^ 64:Nat):Int)).toNat=_
  rw [Int.emod_eq_of_lt h0 (by omega)]
 show 0≤IntKind.wrap .i64 ((BitVec.ofInt 64 a ^^^ BitVec.ofInt 64 b).toNat:Int)
 rw [BitVec.toNat_xor,e ha ha',e hb hb']
 have h:=Nat.xor_lt_two_pow (n:=63) (show a.toNat<2 ^ 63 by omega) (show b.toNat<2 ^ 63 by omega)
 rw [wrapI (by omega) (by omega)]
 omega
theorem zGv {a n:Int} (ha:0≤a) (hn:1≤n):0≤Int.tmod a n∧Int.tmod a n<n:=by
 rw [Int.tmod_eq_emod_of_nonneg ha]
 exact ⟨Int.emod_nonneg _ (by omega),Int.emod_lt_of_pos _ (by omega)⟩
theorem zRT {a n:Int} (ha:0≤a) (hn:1≤n):0≤Int.tdiv a n∧Int.tdiv a n≤a:=by
 rw [Int.tdiv_eq_ediv_of_nonneg ha]
 exact ⟨Int.ediv_nonneg ha (by omega),Int.ediv_le_self _ ha⟩
theorem zNA (x:UInt8):(0:Int)≤(x.toNat:Int)∧(x.toNat:Int)≤255:=by
 have:=x.toNat_lt;omega
theorem t51 {n:Int} {r:List UInt8×Int} {c:Nat} (h:Rd c r) (hc:c≤1000000):Tot (F51 (n,r)) fun y=>0≤y.1∧(1≤n→y.1<n)∧(n<1→y.1=0)∧Rd (c+1) y.2:=by
 obtain ⟨b,p⟩:=r
 obtain ⟨hb,h0,h1⟩:=h
 simp only at hb h0 h1
 have hR:Rd (c+1) (b,p+1):=⟨hb,by show (0:Int)≤p+1;omega,by show p+1≤((c+1:Nat):Int);omega⟩
 unfold F51
 simp only [show IntKind.wrap .i64 (p+1)=p+1 from wrapI (by omega) (by omega)]
 refine Tot.bindE (fun y=>y=(n,b,p+1)∧1≤n∧b≠[]) ?_ ?_
 ·refine Tot.cnd (fun hn=>?_) (fun hn=>?_)
  ·simp only [decide_eq_true_eq] at hn
   exact Tot.ret ⟨by simp,fun h=>absurd h (by omega),fun _=>rfl,hR⟩
  ·simp only [decide_eq_false_iff_not] at hn
   refine Tot.cnd (fun hb=>?_) (fun hb=>?_)
   ·exact Tot.ret ⟨by simp,fun h=>by show (0:Int)<n;omega,fun _=>rfl,hR⟩
   ·simp only [decide_eq_false_iff_not] at hb
    exact Tot.ret ⟨rfl,by omega,fun e=>hb (by rw [e];rfl)⟩
 ·rintro _ ⟨rfl,hn,hne⟩
  have hl:1≤b.length:=by cases b;exact absurd rfl hne;simp
  simp only [show IntKind.wrap .i64 (p+1 - 1)=p by rw [show p+1 - 1=p by omega];exact wrapI (by omega) (by omega)]
  have hnz:(!decide (n=0))=true:=by simp;omega
  have hlz:(!decide (((b.length:Nat):Int)=0))=true:=by simp;omega
  refine Tot.cnd (fun hk=>?_) (fun hk=>?_)
  ·simp only [decide_eq_true_eq] at hk
   refine Tot.grd (by simpa using h0) (Tot.at (by omega) fun x hx=>Tot.grd hnz ?_)
   have hx:=zNA x
   have hw:IntKind.wrap .i64 ((x.toNat:Nat):Int)=x.toNat:=wrapI (by omega) (by omega)
   rw [hw]
   have:=zGv (n:=n) hx.1 hn
   exact Tot.ret ⟨this.1,fun _=>this.2,fun h=>absurd h (by omega),hR⟩
  ·have hm1:=zGv (a:=p) (n:=(b.length:Int)) h0 (by omega)
   have w7:IntKind.wrap .i64 (IntKind.wrap .i64 (p*7)+3)=p*7+3:=by
    rw [wrapI (x:=p*7) (by omega) (by omega),wrapI (by omega) (by omega)]
   simp only [w7]
   have hm2:=zGv (a:=p*7+3) (n:=(b.length:Int)) (by omega) (by omega)
   refine Tot.grd hlz (Tot.grd (by simpa using hm1.1) (Tot.at (by omega) fun x hx=>Tot.grd hlz (Tot.grd (by simpa using hm2.1) (Tot.at (by omega) fun x1 hx1=>Tot.grd hlz (Tot.grd hnz ?_)))))
   have hx:=zNA x
   have hx1:=zNA x1
   have hd:=zRT (a:=p) (n:=(b.length:Int)) h0 (by omega)
   generalize (x.toNat:Int)=u at hx ⊢
   generalize (x1.toNat:Int)=v at hx1 ⊢
   generalize Int.tdiv p (b.length:Int)=d at hd ⊢
   have e:IntKind.wrap .i64 (IntKind.wrap .i64 (IntKind.wrap .i64 (IntKind.wrap .i64 (IntKind.wrap .i64 u*131)+IntKind.wrap .i64 (IntKind.wrap .i64 v*1117))+IntKind.wrap .i64 (p*29))+IntKind.wrap .i64 (IntKind.wrap .i64 d*53))=u*131+v*1117+p*29+d*53:=by
    rw [wrapI (x:=u) (by omega) (by omega),wrapI (x:=v) (by omega) (by omega),wrapI (x:=d) (by omega) (by omega),wrapI (x:=u*131) (by omega) (by omega),wrapI (x:=v*1117) (by omega) (by omega),wrapI (x:=p*29) (by omega) (by omega),wrapI (x:=d*53) (by omega) (by omega),wrapI (x:=u*131+v*1117) (by omega) (by omega),wrapI (x:=u*131+v*1117+p*29) (by omega) (by omega),wrapI (by omega) (by omega)]
   simp only [e]
   generalize ht:u*131+v*1117+p*29+d*53=t
   have h64:=zRT (a:=t) (n:=64) (by omega) (by omega)
   rw [wrapI (x:=Int.tdiv t 64) (by omega) (by omega)]
   have hxo:=zPx (a:=t) (b:=Int.tdiv t 64) (by omega) (by omega) (by omega) (by omega)
   have:=zGv (n:=n) hxo hn
   exact Tot.ret ⟨this.1,fun _=>this.2,fun h=>absurd h (by omega),hR⟩
theorem tot_of {α:Type} {F:List α×List UInt8×Int→Option (α×List UInt8×Int)} (hF:∀ l r,F (l,r)=zAA (F51 (((l.length:Nat):Int),r)) fun y=>grdO (decide (0≤y.1)) (atO l y.1.toNat fun x=>some (x,y.2)))
  {l:List α} {r:List UInt8×Int} {c:Nat} (h:Rd c r) (hc:c≤1000000) (hl:l≠[]):Tot (F (l,r)) fun y=>y.1∈l∧Rd (c+1) y.2:=by
 rw [hF]
 have hl:1≤l.length:=by cases l;exact absurd rfl hl;simp
 refine Tot.bind (t51 h hc) fun y hy=>?_
 have:=hy.2.1 (by omega)
 refine Tot.grd (by simpa using hy.1) (Tot.at (by omega) fun x hx=>Tot.ret ⟨List.mem_of_getElem? hx,hy.2.2.2⟩)
theorem t105 {l:List Int} {r:List UInt8×Int} {c:Nat} (h:Rd c r) (hc:c≤1000000) (hl:l≠[]):Tot (F105 (l,r)) fun y=>y.1∈l∧Rd (c+1) y.2 :=
 tot_of (fun l r=>rfl) h hc hl
theorem t119 {l:List (List UInt8)} {r:List UInt8×Int} {c:Nat} (h:Rd c r) (hc:c≤1000000) (hl:l≠[]):Tot (F119 (l,r)) fun y=>y.1∈l∧Rd (c+1) y.2 :=
 tot_of (fun l r=>rfl) h hc hl
theorem t49 (code:List UInt8):Tot (F49 code) (Rd 0):=by
 unfold F49
 refine Tot.cnd (fun h=>?_) (fun h=>?_)
 ·simp only [decide_eq_true_eq] at h
  refine Tot.grd (by simp;omega) (Tot.ret ⟨?_,by simp,by simp⟩)
  simp only [List.drop_zero,List.length_take];omega
 ·simp only [decide_eq_false_iff_not] at h
  exact Tot.ret ⟨by simp only;omega,by simp,by simp⟩
end Go.Proofs.YtdpapeledldifaaGreat
end
section
namespace Go.Proofs.YtdpapeledldifaaGreat
open Go Go.AM Go.TM
theorem zFS (n:Int) : -9223372036854775808≤IntKind.wrap .i64 n∧IntKind.wrap .i64 n≤9223372036854775807:=by
 simp only [IntKind.wrap,IntKind.bits,IntKind.signed]
 simp
 split <;> omega
theorem wrap8' (n:Int):0≤IntKind.wrap .u8 n∧IntKind.wrap .u8 n≤255:=by
 have h:IntKind.wrap .u8 n=n % 256:=by simp [IntKind.wrap,IntKind.bits,IntKind.signed]
 rw [h];omega
theorem u8ok (n:Int):(decide ((0:Int)≤IntKind.wrap .u8 n) && decide (IntKind.wrap .u8 n≤(255:Int)))=true:=by
 have:=wrap8' n;simp [this.1,this.2]
theorem d274:∀ (k:Nat) (n:Int),n≤9223372036854775807→0≤n→n<10 ^ (k+1)→k≤30→Tot (G274 (k+1) n) fun s=>s.length≤k+1
 | 0,n,_,h0,h1,_=>by
   show Tot (H274 (G274 0) n) _
   unfold H274
   refine Tot.cnd (fun h=>?_) (fun _=>Tot.cnd (fun h=>?_) (fun _=>Tot.cnd (fun _=>Tot.grd (u8ok _) (Tot.ret (by simp))) (fun h=>?_)))
   ·simp only [decide_eq_true_eq] at h;omega
   ·simp only [decide_eq_true_eq] at h;omega
   ·simp only [decide_eq_false_iff_not] at h;omega
 | k+1,n,hm,h0,h1,hk=>by
   show Tot (H274 (G274 (k+1)) n) _
   unfold H274
   refine Tot.cnd (fun h=>?_) (fun _=>Tot.cnd (fun h=>?_) (fun _=>Tot.cnd (fun _=>Tot.grd (u8ok _) (Tot.ret (by simp))) (fun h=>?_)))
   ·simp only [decide_eq_true_eq] at h;omega
   ·simp only [decide_eq_true_eq] at h;omega
   ·simp only [decide_eq_false_iff_not] at h
    have hp:(10:Int) ^ (k+1+1)=10 ^ (k+1)*10:=Int.pow_succ _ _
    have hd:Int.tdiv n 10=n / 10:=Int.tdiv_eq_ediv_of_nonneg h0
    have hlt:n / 10<10 ^ (k+1):=by omega
    have hw:IntKind.wrap .i64 (Int.tdiv n 10)=n / 10:=by rw [hd];exact wrapI (by omega) (by omega)
    obtain ⟨y,e,hy⟩:=d274 k (n / 10) (by omega) (by omega) hlt (by omega)
    rw [hw,e]
    simp only [zAB,decide_true,zAG,zAa,u8ok]
    have hl:decide (y.length+1≤9223372036854775807)=true:=by simp only [decide_eq_true_eq];omega
    simp only [hl,zAG,zDA]
    exact Tot.ret (by simp only [List.length_append,List.length_cons,List.length_nil];omega)
theorem t274 {n:Int} (h1 : -9223372036854775808≤n) (h2:n≤9223372036854775807):Tot (F274 n) fun s=>s.length≤25:=by
 have p23:(10:Int) ^ 23=100000000000000000000000:=by decide
 have p24:(10:Int) ^ 24=1000000000000000000000000:=by decide
 by_cases h0:0≤n
 ·exact (d274 23 n h2 h0 (by omega) (by omega)).mono fun s h=>by omega
 ·show Tot (H274 (G274 23) n) _
  unfold H274
  refine Tot.cnd (fun h=>Tot.ret (by simp)) (fun h=>Tot.cnd (fun _=>?_) (fun h=>?_))
  ·simp only [decide_eq_false_iff_not] at h
   rw [wrapI (x:=0 - n) (by omega) (by omega)]
   refine Tot.bind (d274 22 (0 - n) (by omega) (by omega) (by omega) (by omega)) fun y hy=>Tot.grd (by simp only [decide_eq_true_eq];omega) (Tot.ret ?_)
   simp only [List.length_append,List.length_cons,List.length_nil];omega
  ·simp only [decide_eq_false_iff_not] at h;omega
theorem t301 {list:List (List UInt8)} {s:List UInt8} (hl:list.length≤1000000000000):Tot (F301 (list,s)) fun _=>True:=by
 unfold F301
 refine Tot.bindE (fun _=>True) (Tot.loop (fun x=>x.1=list∧0≤x.2.2∧x.2.2≤(list.length:Int)) (fun x=>list.length - x.2.2.toNat) ?_ ⟨rfl,by simp,by simp⟩) (fun _ _=>Tot.ret trivial)
 rintro ⟨l,s,i⟩ ⟨rfl,h0,h1⟩
 simp only at hl
 refine Tot.cnd (fun h=>?_) (fun h=>Tot.ret trivial)
 simp only [decide_eq_true_eq] at h
 simp only at h0 h1
 refine Tot.grd (by simpa using h0) (Tot.at (by omega) fun x _=>Tot.cnd (fun _=>Tot.ret trivial) fun _=>Tot.ret ?_)
 simp only [Sum.elim_inl,true_and]
 rw [wrapI (by omega) (by omega)]
 omega
theorem t107 (a b c:Int):Tot (F107 (a,b,c)) fun _=>True:=by
 unfold F107
 exact Tot.cnd (fun _=>Tot.ret trivial) fun _=>Tot.ret trivial
theorem t251 (n:Int):Tot (F251 n) fun _=>True:=by
 unfold F251
 refine Tot.bindE (fun _=>True) ?_ fun y _=>?_
 ·exact Tot.cnd (fun _=>Tot.ret trivial) fun _=>Tot.cnd (fun _=>Tot.ret trivial) fun _=>Tot.cnd (fun _=>Tot.ret trivial) fun _=>Tot.cnd (fun _=>Tot.ret trivial) fun _=>Tot.cnd (fun _=>Tot.ret trivial) fun _=>Tot.ret trivial
 ·refine Tot.bind (t107 _ _ _) fun y _=>Tot.cnd (fun _=>Tot.ret trivial) fun _=>Tot.bind (t107 _ _ _) fun y _=>Tot.cnd (fun _=>Tot.ret trivial) fun _=>Tot.bind (t107 _ _ _) fun y _=>Tot.cnd (fun _=>Tot.ret trivial) fun _=>Tot.ret trivial
theorem t278 {s:List UInt8} {b most:Int} (hs:s.length≤1000000000000) (hm:0≤most) :
  Tot (F278 (s,b,most)) fun out=>1≤out.length∧out.length≤s.length+1∧(out.length:Int)≤most+1∧∀ x∈out,x.length≤s.length:=by
 unfold F278
 refine Tot.bindE (fun y=>y.1=s∧y.2.1.length≤s.length∧(y.2.1.length:Int)≤most∧(∀ x∈y.2.1,x.length≤s.length)∧0≤y.2.2∧y.2.2≤(s.length:Int))
  (Tot.loop (fun x=>x.1=s∧x.2.2.1=most∧(∀ z∈x.2.2.2.1,z.length≤s.length)∧(x.2.2.2.1.length:Int)≤most∧(x.2.2.2.1.length:Int)≤x.2.2.2.2.2∧0≤x.2.2.2.2.1∧x.2.2.2.2.1≤x.2.2.2.2.2∧x.2.2.2.2.2≤(s.length:Int)) (fun x=>s.length - x.2.2.2.2.2.toNat) ?_ ⟨rfl,rfl,by simp,by simpa using hm,by simp,by simp,by simp,by simp⟩) ?_
 ·rintro ⟨s1,b1,m1,out,fr,i⟩ ⟨rfl,rfl,h1,h2,h3,h4,h5,h6⟩
  simp only at h1 h2 h3 h4 h5 h6 hs
  refine Tot.bindE (fun y=>y=(s1,b1,m1,out,fr,i)∧i<(s1.length:Int)∧(out.length:Int)<m1) ?_ ?_
  ·refine Tot.cnd (fun h=>Tot.cnd (fun g=>?_) fun _=>?_) fun _=>?_
   ·simp only [decide_eq_true_eq] at h g
    exact Tot.ret ⟨rfl,h,g⟩
   ·exact Tot.ret ⟨rfl,by simp only;omega,h2,h1,h4,by simp only;omega⟩
   ·exact Tot.ret ⟨rfl,by simp only;omega,h2,h1,h4,by simp only;omega⟩
  ·rintro _ ⟨rfl,g1,g2⟩
   refine Tot.bindE (fun y=>y.1=s1∧y.2.2.1=m1∧(∀ z∈y.2.2.2.1,z.length≤s1.length)∧(y.2.2.2.1.length:Int)≤m1∧(y.2.2.2.1.length:Int)≤i+1∧0≤y.2.2.2.2.1∧y.2.2.2.2.1≤i+1∧y.2.2.2.2.2=i) ?_ ?_
   ·refine Tot.grd (by simp only [decide_eq_true_eq];omega) (Tot.at (by omega) fun x _=>Tot.cnd (fun _=>?_) fun _=>?_)
    ·refine Tot.grd (by simp only [Bool.and_eq_true,decide_eq_true_eq];omega) (Tot.grd (by simp only [Bool.and_eq_true,decide_eq_true_eq];omega) (Tot.ret ⟨rfl,rfl,?_,?_,?_,?_,?_,rfl⟩))
     ·intro z hz
      simp only [List.mem_append,List.mem_singleton] at hz
      rcases hz with hz | rfl
      ·exact h1 z hz
      ·simp only [List.length_drop,List.length_take];omega
     ·simp only [List.length_append,List.length_cons,List.length_nil];omega
     ·simp only [List.length_append,List.length_cons,List.length_nil];omega
     ·simp only;rw [wrapI (by omega) (by omega)];omega
     ·simp only;rw [wrapI (by omega) (by omega)];omega
    ·exact Tot.ret ⟨rfl,rfl,h1,h2,by simp only;omega,h4,by simp only;omega,rfl⟩
   ·rintro ⟨s2,b2,m2,out2,fr2,i2⟩ ⟨rfl,rfl,k1,k2,k3,k4,k5,rfl⟩
    simp only at k1 k2 k3 k4 k5 hs g1 g2 h4 h5
    have hw:IntKind.wrap .i64 (i2+1)=i2+1:=wrapI (by omega) (by omega)
    refine Tot.ret ⟨⟨rfl,rfl,k1,k2,?_,k4,?_,?_⟩,?_⟩ <;> (simp only;rw [hw];omega)
 ·rintro ⟨s1,out,fr⟩ ⟨rfl,h1,h2,h3,h4,h5⟩
  simp only at h1 h2 h3 h4 h5 hs
  refine Tot.grd (by simp only [Bool.and_eq_true,decide_eq_true_eq];omega) (Tot.grd (by simp only [Bool.and_eq_true,decide_eq_true_eq];omega) (Tot.ret ⟨?_,?_,?_,?_⟩))
  ·simp
  ·simp only [List.length_append,List.length_cons,List.length_nil];omega
  ·simp only [List.length_append,List.length_cons,List.length_nil];omega
  ·intro z hz
   simp only [List.mem_append,List.mem_singleton] at hz
   rcases hz with hz | rfl
   ·exact h3 z hz
   ·simp only [List.length_drop,List.length_take];omega
end Go.Proofs.YtdpapeledldifaaGreat
end
section
namespace Go.Proofs.YtdpapeledldifaaGreat
open Go Go.AM Go.TM
set_option maxRecDepth 10000
def Gt (K:Nat) (g:List UInt8×List UInt8×List UInt8×Int×List UInt8):Prop :=
 g.1.length≤K∧g.2.1.length≤K∧g.2.2.1.length≤K∧((-9223372036854775808:Int)≤g.2.2.2.1∧g.2.2.2.1≤(9223372036854775807:Int))∧g.2.2.2.2.length≤3
theorem Gt.mono {K L:Nat} {g:List UInt8×List UInt8×List UInt8×Int×List UInt8} (h:Gt K g) (hc:K≤L):Gt L g :=
 ⟨Nat.le_trans h.1 hc,Nat.le_trans h.2.1 hc,Nat.le_trans h.2.2.1 hc,h.2.2.2.1,h.2.2.2.2⟩
theorem zCc {m:Nat} {l:List (List UInt8)} {r:List UInt8×Int} {c:Nat} (h:Rd c r) (hc:c≤1000000) (hl:l≠[]) (hm:∀ x∈l,x.length≤m):Tot (F119 (l,r)) fun y=>y.1.length≤m∧Rd (c+1) y.2 :=
 (t119 h hc hl).mono fun y hy=>⟨hm _ hy.1,hy.2⟩
theorem zTQ {m:Int} {l:List Int} {r:List UInt8×Int} {c:Nat} (h:Rd c r) (hc:c≤1000000) (hl:l≠[]) (hm:∀ x∈l,-m≤x∧x≤m):Tot (F105 (l,r)) fun y=>-m≤y.1∧y.1≤m∧Rd (c+1) y.2 :=
 (t105 h hc hl).mono fun y hy=>⟨(hm _ hy.1).1,(hm _ hy.1).2,hy.2⟩
theorem t273 {s:List UInt8} {g:List UInt8×List UInt8×List UInt8×Int×List UInt8} {r:List UInt8×Int} {K:Nat} {c:Nat} (hs:List.length s≤100) (hg:Gt K g) (hr:Rd c r) (hK:K≤950000) (hc:c≤950000):Tot (F273 (s,g,r)) fun y=>Gt (K+110) y.1∧Rd (c+0) y.2:=by
 obtain ⟨o1,o2,o3,o4,o5⟩:=g
 have ko1:List.length o1≤K+0:=hg.1
 have ko2:List.length o2≤K+0:=hg.2.1
 have ko3:List.length o3≤K+0:=hg.2.2.1
 have ko5:List.length o5≤3:=hg.2.2.2.2
 obtain ⟨o0,o11⟩:=r
 unfold F273
 refine Tot.grd (by simp <;> omega) ?_
 refine Tot.grd (by simp <;> omega) ?_
 refine Tot.grd (by simp <;> omega) ?_
 refine Tot.bind (P:=fun y=>y.length≤100) (Tot.ret (by decide)) ?_
 intro y ky
 refine Tot.seq (by repeat first | exact Tot.ret trivial | refine Tot.seq ?_ ?_ | refine Tot.grd (by first | decide | simp <;> omega) ?_) ?_
 refine Tot.bind (t278 (by omega) (by omega)) ?_
 intro y1 ky1
 refine Tot.seq (by repeat first | exact Tot.ret trivial | refine Tot.seq ?_ ?_ | refine Tot.grd (by first | decide | simp <;> omega) ?_) ?_
 refine Tot.at (by omega) fun x _=>?_
 refine Tot.bind (t301 (by omega)) ?_
 intro y2 _
 refine Tot.seq (by repeat first | exact Tot.ret trivial | refine Tot.seq ?_ ?_ | refine Tot.grd (by first | decide | simp <;> omega) ?_) ?_
 refine Tot.bind (t251 _) ?_
 intro y3 _
 refine Tot.seq (by repeat first | exact Tot.ret trivial | refine Tot.seq ?_ ?_ | refine Tot.grd (by first | decide | simp <;> omega) ?_) ?_
 exact Tot.ret ⟨⟨(by show List.length _≤_;first | omega | simp <;> omega),(by show List.length _≤_;first | omega | simp <;> omega),(by show List.length _≤_;first | omega | simp <;> omega),(zFS _),(by show List.length _≤_;first | omega | simp <;> omega)⟩,hr.mono (by omega)⟩
theorem t277 {g:List UInt8×List UInt8×List UInt8×Int×List UInt8} {r:List UInt8×Int} {K:Nat} {c:Nat} (hg:Gt K g) (hr:Rd c r) (hK:K≤950000) (hc:c≤950000):Tot (F277 (g,r)) fun y=>List.length y.1≤25∧Gt (K+0) y.2.1∧Rd (c+1) y.2.2:=by
 obtain ⟨o1,o2,o3,o4,o5⟩:=g
 obtain ⟨o0,o11⟩:=r
 unfold F277
 refine Tot.bind (t51 hr (by omega)) ?_
 rintro ⟨y,y1,y2⟩ ⟨(a2:(0:Int)≤y),(b3:(1:Int)≤(3:Int)→y<(3:Int)),-,hr1⟩
 refine Tot.bind (t274 (by omega) (by omega)) ?_
 intro y3 (ky3:List.length y3≤25)
 exact Tot.ret ⟨(by first | omega | simp <;> omega),hg.mono (by omega),hr1.mono (by omega)⟩
theorem t308 {g:List UInt8×List UInt8×List UInt8×Int×List UInt8} {r:List UInt8×Int} {K:Nat} {c:Nat} (hg:Gt K g) (hr:Rd c r) (hK:K≤950000) (hc:c≤950000):Tot (F308 (g,r)) fun y=>List.length y.1≤20∧Gt (K+0) y.2.1∧Rd (c+0) y.2.2:=by
 obtain ⟨o1,o2,o3,o4,o5⟩:=g
 have ko1:List.length o1≤K+0:=hg.1
 have ko2:List.length o2≤K+0:=hg.2.1
 have ko3:List.length o3≤K+0:=hg.2.2.1
 have ko5:List.length o5≤3:=hg.2.2.2.2
 obtain ⟨o0,o11⟩:=r
 unfold F308
 refine Tot.grd (by simp <;> omega) ?_
 refine Tot.grd (by simp <;> omega) ?_
 refine Tot.grd (by simp <;> omega) ?_
 refine Tot.grd (by simp <;> omega) ?_
 exact Tot.ret ⟨(by first | omega | simp <;> omega),hg.mono (by omega),hr.mono (by omega)⟩
theorem t307 {locals:List UInt8} {stack:List UInt8} {g:List UInt8×List UInt8×List UInt8×Int×List UInt8} {r:List UInt8×Int} {K:Nat} {c:Nat} (hlocals:List.length locals≤20) (hstack:List.length stack≤20) (hg:Gt K g) (hr:Rd c r) (hK:K≤950000) (hc:c≤950000):Tot (F307 (locals,stack,g,r)) fun y=>Gt (K+110) y.1∧Rd (c+0) y.2:=by
 obtain ⟨o1,o2,o3,o4,o5⟩:=g
 have ko1:List.length o1≤K+0:=hg.1
 have ko2:List.length o2≤K+0:=hg.2.1
 have ko3:List.length o3≤K+0:=hg.2.2.1
 have ko5:List.length o5≤3:=hg.2.2.2.2
 obtain ⟨o0,o11⟩:=r
 unfold F307
 refine Tot.grd (by simp <;> omega) ?_
 refine Tot.bind (t274 hg.2.2.2.1.1 hg.2.2.2.1.2) ?_
 intro y (ky:List.length y≤25)
 refine Tot.seq (by repeat first | exact Tot.ret trivial | refine Tot.seq ?_ ?_ | refine Tot.grd (by first | decide | simp <;> omega) ?_) ?_
 refine Tot.grd (by simp <;> omega) ?_
 refine Tot.grd (by simp <;> omega) ?_
 refine Tot.grd (by simp <;> omega) ?_
 refine Tot.grd (by simp <;> omega) ?_
 refine Tot.grd (by simp <;> omega) ?_
 refine Tot.grd (by simp <;> omega) ?_
 exact Tot.ret ⟨⟨(by show List.length _≤_;first | omega | simp <;> omega),(by show List.length _≤_;first | omega | simp <;> omega),(by show List.length _≤_;first | omega | simp <;> omega),⟨hg.2.2.2.1.1,hg.2.2.2.1.2⟩,(by show List.length _≤_;first | omega | simp <;> omega)⟩,hr.mono (by omega)⟩
theorem t303 {g:List UInt8×List UInt8×List UInt8×Int×List UInt8} {r:List UInt8×Int} {K:Nat} {c:Nat} (hg:Gt K g) (hr:Rd c r) (hK:K≤900000) (hc:c≤900000):Tot (F303 (g,r)) fun y=>Gt (K+500) y.1∧Rd (c+10) y.2:=by
 obtain ⟨o1,o2,o3,o4,o5⟩:=g
 obtain ⟨o0,o11⟩:=r
 unfold F303
 refine Tot.bind (t51 hr (by omega)) ?_
 rintro ⟨y,y1,y2⟩ ⟨(a2:(0:Int)≤y),(b3:(1:Int)≤(6:Int)→y<(6:Int)),-,hr1⟩
 refine Tot.bindE (fun y=>Gt (K+330) y.1∧Rd (c+4) y.2) ?_ ?_
 ·refine Tot.cnd (fun c4=>?_) (fun c4=>?_)
  ·refine Tot.bind (t277 hg hr1 (by omega) (by omega)) ?_
   rintro ⟨y3,⟨y4,y5,y6,y7,y8⟩,x,x1⟩ ⟨(ky3:List.length y3≤25),hg5,hr6⟩
   refine Tot.grd (by simp <;> omega) ?_
   refine Tot.bind (t273 (by first | omega | simp <;> omega) hg5 hr6 (by omega) (by omega)) ?_
   rintro ⟨⟨y9,y10,y11,y12,y13⟩,y14,x2⟩ ⟨hg7,hr8⟩
   refine Tot.bind (t273 (by first | omega | simp <;> omega) hg7 hr8 (by omega) (by omega)) ?_
   rintro ⟨⟨y15,y16,y17,y18,y19⟩,y20,x3⟩ ⟨hg9,hr10⟩
   exact Tot.ret ⟨hg9.mono (by omega),hr10.mono (by omega)⟩
  ·refine Tot.cnd (fun c11=>?_) (fun c11=>?_)
   ·refine Tot.bind (t277 hg hr1 (by omega) (by omega)) ?_
    rintro ⟨y3,⟨y4,y5,y6,y7,y8⟩,x,x1⟩ ⟨(ky3:List.length y3≤25),hg12,hr13⟩
    refine Tot.grd (by simp <;> omega) ?_
    refine Tot.bind (t273 (by first | omega | simp <;> omega) hg12 hr13 (by omega) (by omega)) ?_
    rintro ⟨⟨y9,y10,y11,y12,y13⟩,y14,x2⟩ ⟨hg14,hr15⟩
    refine Tot.bind (t273 (by first | omega | simp <;> omega) hg14 hr15 (by omega) (by omega)) ?_
    rintro ⟨⟨y15,y16,y17,y18,y19⟩,y20,x3⟩ ⟨hg16,hr17⟩
    exact Tot.ret ⟨hg16.mono (by omega),hr17.mono (by omega)⟩
   ·refine Tot.cnd (fun c18=>?_) (fun c18=>?_)
    ·refine Tot.bind (t273 (by first | omega | simp <;> omega) hg hr1 (by omega) (by omega)) ?_
     rintro ⟨⟨y3,y4,y5,y6,y7⟩,y8,x⟩ ⟨hg19,hr20⟩
     exact Tot.ret ⟨hg19.mono (by omega),hr20.mono (by omega)⟩
    ·refine Tot.cnd (fun c21=>?_) (fun c21=>?_)
     ·refine Tot.bind (zTQ (m:=100000) hr1 (by omega) (by simp) (by decide)) ?_
      rintro ⟨y3,y4,y5⟩ ⟨(a23:(-100000:Int)≤y3),(b24:y3≤(100000:Int)),hr22⟩
      refine Tot.bind (t274 (by omega) (by omega)) ?_
      intro y6 (ky6:List.length y6≤25)
      refine Tot.grd (by simp <;> omega) ?_
      refine Tot.bind (t273 (by first | omega | simp <;> omega) hg hr22 (by omega) (by omega)) ?_
      rintro ⟨⟨y7,y8,y9,y10,y11⟩,y12,x⟩ ⟨hg25,hr26⟩
      refine Tot.bind (zTQ (m:=100000) hr26 (by omega) (by simp) (by decide)) ?_
      rintro ⟨y13,y14,y15⟩ ⟨(a28:(-100000:Int)≤y13),(b29:y13≤(100000:Int)),hr27⟩
      refine Tot.bind (t274 (by omega) (by omega)) ?_
      intro y16 (ky16:List.length y16≤25)
      refine Tot.grd (by simp <;> omega) ?_
      refine Tot.bind (t273 (by first | omega | simp <;> omega) hg25 hr27 (by omega) (by omega)) ?_
      rintro ⟨⟨y17,y18,y19,y20,y21⟩,y22,x1⟩ ⟨hg30,hr31⟩
      refine Tot.bind (zCc (m:=3) hr31 (by omega) (by simp) (by decide)) ?_
      rintro ⟨y23,y24,y25⟩ ⟨(ky23:List.length y23≤3),hr32⟩
      refine Tot.bind (t273 (by first | omega | simp <;> omega) hg30 hr32 (by omega) (by omega)) ?_
      rintro ⟨⟨y26,y27,y28,y29,y30⟩,y31,x2⟩ ⟨hg33,hr34⟩
      exact Tot.ret ⟨hg33.mono (by omega),hr34.mono (by omega)⟩
     ·refine Tot.bind (zTQ (m:=100000) hr1 (by omega) (by simp) (by decide)) ?_
      rintro ⟨y3,y4,y5⟩ ⟨(a36:(-100000:Int)≤y3),(b37:y3≤(100000:Int)),hr35⟩
      refine Tot.bind (t274 (by omega) (by omega)) ?_
      intro y6 (ky6:List.length y6≤25)
      refine Tot.grd (by simp <;> omega) ?_
      refine Tot.bind (t273 (by first | omega | simp <;> omega) hg hr35 (by omega) (by omega)) ?_
      rintro ⟨⟨y7,y8,y9,y10,y11⟩,y12,x⟩ ⟨hg38,hr39⟩
      exact Tot.ret ⟨hg38.mono (by omega),hr39.mono (by omega)⟩
 rintro ⟨⟨o12,o21,o31,o41,o51⟩,o01,o13⟩ ⟨hg40,hr41⟩
 exact Tot.ret ⟨hg40.mono (by omega),hr41.mono (by omega)⟩
theorem t304 {g:List UInt8×List UInt8×List UInt8×Int×List UInt8} {r:List UInt8×Int} {K:Nat} {c:Nat} (hg:Gt K g) (hr:Rd c r) (hK:K≤900000) (hc:c≤900000):Tot (F304 (g,r)) fun y=>Gt (K+300) y.1∧Rd (c+5) y.2:=by
 obtain ⟨o1,o2,o3,o4,o5⟩:=g
 obtain ⟨o0,o11⟩:=r
 unfold F304
 refine Tot.bind (t51 hr (by omega)) ?_
 rintro ⟨y,y1,y2⟩ ⟨(a2:(0:Int)≤y),(b3:(1:Int)≤(10:Int)→y<(10:Int)),-,hr1⟩
 refine Tot.bindE (fun y=>Gt (K+220) y.1∧Rd (c+3) y.2) ?_ ?_
 ·refine Tot.cnd (fun c4=>?_) (fun c4=>?_)
  ·refine Tot.bind (t273 (by first | omega | simp <;> omega) hg hr1 (by omega) (by omega)) ?_
   rintro ⟨⟨y3,y4,y5,y6,y7⟩,y8,x⟩ ⟨hg5,hr6⟩
   exact Tot.ret ⟨hg5.mono (by omega),hr6.mono (by omega)⟩
  ·refine Tot.bindE (fun y=>Gt (K+0) y.2.2.1∧Rd (c+1) y.2.2.2) ?_ ?_
   ·refine Tot.cnd (fun c7=>?_) (fun c7=>?_)
    ·exact Tot.ret ⟨hg.mono (by omega),hr1.mono (by omega)⟩
    ·exact Tot.ret ⟨hg.mono (by omega),hr1.mono (by omega)⟩
   rintro ⟨v8,v15,⟨o12,o21,o31,o41,o51⟩,o01,o13⟩ ⟨hg8,hr9⟩
   refine Tot.cnd (fun c10=>?_) (fun c10=>?_)
   ·refine Tot.bind (t273 (by first | omega | simp <;> omega) hg8 hr9 (by omega) (by omega)) ?_
    rintro ⟨⟨y3,y4,y5,y6,y7⟩,y8,x⟩ ⟨hg11,hr12⟩
    exact Tot.ret ⟨hg11.mono (by omega),hr12.mono (by omega)⟩
   ·refine Tot.cnd (fun c13=>?_) (fun c13=>?_)
    ·refine Tot.bind (t273 (by first | omega | simp <;> omega) hg8 hr9 (by omega) (by omega)) ?_
     rintro ⟨⟨y3,y4,y5,y6,y7⟩,y8,x⟩ ⟨hg14,hr15⟩
     exact Tot.ret ⟨hg14.mono (by omega),hr15.mono (by omega)⟩
    ·refine Tot.cnd (fun c16=>?_) (fun c16=>?_)
     ·refine Tot.bind (t277 hg8 hr9 (by omega) (by omega)) ?_
      rintro ⟨y3,⟨y4,y5,y6,y7,y8⟩,x,x1⟩ ⟨(ky3:List.length y3≤25),hg17,hr18⟩
      refine Tot.grd (by simp <;> omega) ?_
      refine Tot.bind (t273 (by first | omega | simp <;> omega) hg17 hr18 (by omega) (by omega)) ?_
      rintro ⟨⟨y9,y10,y11,y12,y13⟩,y14,x2⟩ ⟨hg19,hr20⟩
      refine Tot.bind (zCc (m:=1) hr20 (by omega) (by simp) (by decide)) ?_
      rintro ⟨y15,y16,y17⟩ ⟨(ky15:List.length y15≤1),hr21⟩
      refine Tot.grd (by simp <;> omega) ?_
      refine Tot.bind (t273 (by first | omega | simp <;> omega) hg19 hr21 (by omega) (by omega)) ?_
      rintro ⟨⟨y18,y19,y20,y21,y22⟩,y23,x3⟩ ⟨hg22,hr23⟩
      exact Tot.ret ⟨hg22.mono (by omega),hr23.mono (by omega)⟩
     ·refine Tot.cnd (fun c24=>?_) (fun c24=>?_)
      ·refine Tot.bind (t277 hg8 hr9 (by omega) (by omega)) ?_
       rintro ⟨y3,⟨y4,y5,y6,y7,y8⟩,x,x1⟩ ⟨(ky3:List.length y3≤25),hg25,hr26⟩
       refine Tot.grd (by simp <;> omega) ?_
       refine Tot.bind (t273 (by first | omega | simp <;> omega) hg25 hr26 (by omega) (by omega)) ?_
       rintro ⟨⟨y9,y10,y11,y12,y13⟩,y14,x2⟩ ⟨hg27,hr28⟩
       refine Tot.bind (t273 (by first | omega | simp <;> omega) hg27 hr28 (by omega) (by omega)) ?_
       rintro ⟨⟨y15,y16,y17,y18,y19⟩,y20,x3⟩ ⟨hg29,hr30⟩
       exact Tot.ret ⟨hg29.mono (by omega),hr30.mono (by omega)⟩
      ·refine Tot.cnd (fun c31=>?_) (fun c31=>?_)
       ·refine Tot.bind (zCc (m:=3) hr9 (by omega) (by simp) (by decide)) ?_
        rintro ⟨y3,y4,y5⟩ ⟨(ky3:List.length y3≤3),hr32⟩
        refine Tot.grd (by simp <;> omega) ?_
        refine Tot.bind (t273 (by first | omega | simp <;> omega) hg8 hr32 (by omega) (by omega)) ?_
        rintro ⟨⟨y6,y7,y8,y9,y10⟩,y11,x⟩ ⟨hg33,hr34⟩
        exact Tot.ret ⟨hg33.mono (by omega),hr34.mono (by omega)⟩
       ·refine Tot.bind (t273 (by first | omega | simp <;> omega) hg8 hr9 (by omega) (by omega)) ?_
        rintro ⟨⟨y3,y4,y5,y6,y7⟩,y8,x⟩ ⟨hg35,hr36⟩
        exact Tot.ret ⟨hg35.mono (by omega),hr36.mono (by omega)⟩
 rintro ⟨⟨o12,o21,o31,o41,o51⟩,o01,o13⟩ ⟨hg37,hr38⟩
 exact Tot.ret ⟨hg37.mono (by omega),hr38.mono (by omega)⟩
theorem t305 {g:List UInt8×List UInt8×List UInt8×Int×List UInt8} {r:List UInt8×Int} {K:Nat} {c:Nat} (hg:Gt K g) (hr:Rd c r) (hK:K≤850000) (hc:c≤850000):Tot (F305 (g,r)) fun y=>Gt (K+1200) y.1∧Rd (c+20) y.2:=by
 obtain ⟨o1,o2,o3,o4,o5⟩:=g
 obtain ⟨o0,o11⟩:=r
 unfold F305
 refine Tot.bind (zCc (m:=6) hr (by omega) (by simp) (by decide)) ?_
 rintro ⟨y,y1,y2⟩ ⟨(ky:List.length y≤6),hr1⟩
 refine Tot.bindE (fun y=>List.length y.1≤10∧Gt (K+500) y.2.1∧Rd (c+11) y.2.2) ?_ ?_
 ·refine Tot.cnd (fun c2=>?_) (fun c2=>?_)
  ·refine Tot.bind (t277 hg hr1 (by omega) (by omega)) ?_
   rintro ⟨y3,⟨y4,y5,y6,y7,y8⟩,x,x1⟩ ⟨(ky3:List.length y3≤25),hg3,hr4⟩
   refine Tot.grd (by simp <;> omega) ?_
   refine Tot.bind (t273 (by first | omega | simp <;> omega) hg3 hr4 (by omega) (by omega)) ?_
   rintro ⟨⟨y9,y10,y11,y12,y13⟩,y14,x2⟩ ⟨hg5,hr6⟩
   exact Tot.ret ⟨(by first | omega | simp <;> omega),hg5.mono (by omega),hr6.mono (by omega)⟩
  ·refine Tot.cnd (fun c7=>?_) (fun c7=>?_)
   ·refine Tot.bind (t277 hg hr1 (by omega) (by omega)) ?_
    rintro ⟨y3,⟨y4,y5,y6,y7,y8⟩,x,x1⟩ ⟨(ky3:List.length y3≤25),hg8,hr9⟩
    refine Tot.grd (by simp <;> omega) ?_
    refine Tot.bind (t273 (by first | omega | simp <;> omega) hg8 hr9 (by omega) (by omega)) ?_
    rintro ⟨⟨y9,y10,y11,y12,y13⟩,y14,x2⟩ ⟨hg10,hr11⟩
    refine Tot.bind (t277 hg10 hr11 (by omega) (by omega)) ?_
    rintro ⟨y15,⟨y16,y17,y18,y19,y20⟩,x3,x4⟩ ⟨(ky15:List.length y15≤25),hg12,hr13⟩
    refine Tot.grd (by simp <;> omega) ?_
    refine Tot.bind (t273 (by first | omega | simp <;> omega) hg12 hr13 (by omega) (by omega)) ?_
    rintro ⟨⟨y21,y22,y23,y24,y25⟩,y26,x5⟩ ⟨hg14,hr15⟩
    exact Tot.ret ⟨(by first | omega | simp <;> omega),hg14.mono (by omega),hr15.mono (by omega)⟩
   ·refine Tot.bind (t303 hg hr1 (by omega) (by omega)) ?_
    rintro ⟨⟨y3,y4,y5,y6,y7⟩,y8,x⟩ ⟨hg16,hr17⟩
    exact Tot.ret ⟨(by first | omega | simp <;> omega),hg16.mono (by omega),hr17.mono (by omega)⟩
 rintro ⟨test,⟨o12,o21,o31,o41,o51⟩,o01,o13⟩ ⟨(ktest:List.length test≤10),hg18,hr19⟩
 refine Tot.grd (by simp <;> omega) ?_
 refine Tot.bind (t274 (zFS _).1 (zFS _).2) ?_
 intro y3 (ky3:List.length y3≤25)
 refine Tot.grd (by simp <;> omega) ?_
 refine Tot.bind (t273 (by first | omega | simp <;> omega) hg18 hr19 (by omega) (by omega)) ?_
 rintro ⟨⟨y4,y5,y6,y7,y8⟩,y9,x⟩ ⟨hg20,hr21⟩
 refine Tot.bind (t273 (by first | omega | simp <;> omega) hg20 hr21 (by omega) (by omega)) ?_
 rintro ⟨⟨y10,y11,y12,y13,y14⟩,y15,x1⟩ ⟨hg22,hr23⟩
 refine Tot.bind (t273 (by first | omega | simp <;> omega) hg22 hr23 (by omega) (by omega)) ?_
 rintro ⟨⟨y16,y17,y18,y19,y20⟩,y21,x2⟩ ⟨hg24,hr25⟩
 refine Tot.bind (t308 hg24 hr25 (by omega) (by omega)) ?_
 rintro ⟨y22,⟨y23,y24,y25,y26,y27⟩,x3,x4⟩ ⟨(ky22:List.length y22≤20),hg26,hr27⟩
 refine Tot.bind (zCc (m:=1) hr27 (by omega) (by simp) (by decide)) ?_
 rintro ⟨y28,y29,y30⟩ ⟨(ky28:List.length y28≤1),hr28⟩
 refine Tot.bind (t307 (by first | omega | simp <;> omega) (by first | omega | simp <;> omega) hg26 hr28 (by omega) (by omega)) ?_
 rintro ⟨⟨y31,y32,y33,y34,y35⟩,y36,x5⟩ ⟨hg29,hr30⟩
 exact Tot.ret ⟨hg29.mono (by omega),hr30.mono (by omega)⟩
theorem t306 {g:List UInt8×List UInt8×List UInt8×Int×List UInt8} {r:List UInt8×Int} {K:Nat} {c:Nat} (hg:Gt K g) (hr:Rd c r) (hK:K≤850000) (hc:c≤850000):Tot (F306 (g,r)) fun y=>Gt (K+600) y.1∧Rd (c+5) y.2:=by
 obtain ⟨o1,o2,o3,o4,o5⟩:=g
 obtain ⟨o0,o11⟩:=r
 unfold F306
 refine Tot.bind (t51 hr (by omega)) ?_
 rintro ⟨y,y1,y2⟩ ⟨(a2:(0:Int)≤y),(b3:(1:Int)≤(5:Int)→y<(5:Int)),-,hr1⟩
 refine Tot.bindE (fun y=>Gt (K+440) y.1∧Rd (c+2) y.2) ?_ ?_
 ·refine Tot.cnd (fun c4=>?_) (fun c4=>?_)
  ·refine Tot.bind (t277 hg hr1 (by omega) (by omega)) ?_
   rintro ⟨y3,⟨y4,y5,y6,y7,y8⟩,x,x1⟩ ⟨(ky3:List.length y3≤25),hg5,hr6⟩
   refine Tot.grd (by simp <;> omega) ?_
   refine Tot.bind (t273 (by first | omega | simp <;> omega) hg5 hr6 (by omega) (by omega)) ?_
   rintro ⟨⟨y9,y10,y11,y12,y13⟩,y14,x2⟩ ⟨hg7,hr8⟩
   refine Tot.bind (t273 (by first | omega | simp <;> omega) hg7 hr8 (by omega) (by omega)) ?_
   rintro ⟨⟨y15,y16,y17,y18,y19⟩,y20,x3⟩ ⟨hg9,hr10⟩
   refine Tot.bind (t273 (by first | omega | simp <;> omega) hg9 hr10 (by omega) (by omega)) ?_
   rintro ⟨⟨y21,y22,y23,y24,y25⟩,y26,x4⟩ ⟨hg11,hr12⟩
   exact Tot.ret ⟨hg11.mono (by omega),hr12.mono (by omega)⟩
  ·refine Tot.cnd (fun c13=>?_) (fun c13=>?_)
   ·refine Tot.bind (t273 (by first | omega | simp <;> omega) hg hr1 (by omega) (by omega)) ?_
    rintro ⟨⟨y3,y4,y5,y6,y7⟩,y8,x⟩ ⟨hg14,hr15⟩
    refine Tot.bind (t277 hg14 hr15 (by omega) (by omega)) ?_
    rintro ⟨y9,⟨y10,y11,y12,y13,y14⟩,x1,x2⟩ ⟨(ky9:List.length y9≤25),hg16,hr17⟩
    refine Tot.grd (by simp <;> omega) ?_
    refine Tot.bind (t273 (by first | omega | simp <;> omega) hg16 hr17 (by omega) (by omega)) ?_
    rintro ⟨⟨y15,y16,y17,y18,y19⟩,y20,x3⟩ ⟨hg18,hr19⟩
    exact Tot.ret ⟨hg18.mono (by omega),hr19.mono (by omega)⟩
   ·refine Tot.cnd (fun c20=>?_) (fun c20=>?_)
    ·refine Tot.bind (t273 (by first | omega | simp <;> omega) hg hr1 (by omega) (by omega)) ?_
     rintro ⟨⟨y3,y4,y5,y6,y7⟩,y8,x⟩ ⟨hg21,hr22⟩
     refine Tot.bind (t277 hg21 hr22 (by omega) (by omega)) ?_
     rintro ⟨y9,⟨y10,y11,y12,y13,y14⟩,x1,x2⟩ ⟨(ky9:List.length y9≤25),hg23,hr24⟩
     refine Tot.grd (by simp <;> omega) ?_
     refine Tot.bind (t273 (by first | omega | simp <;> omega) hg23 hr24 (by omega) (by omega)) ?_
     rintro ⟨⟨y15,y16,y17,y18,y19⟩,y20,x3⟩ ⟨hg25,hr26⟩
     exact Tot.ret ⟨hg25.mono (by omega),hr26.mono (by omega)⟩
    ·refine Tot.cnd (fun c27=>?_) (fun c27=>?_)
     ·refine Tot.bind (t277 hg hr1 (by omega) (by omega)) ?_
      rintro ⟨y3,⟨y4,y5,y6,y7,y8⟩,x,x1⟩ ⟨(ky3:List.length y3≤25),hg28,hr29⟩
      refine Tot.grd (by simp <;> omega) ?_
      refine Tot.bind (t273 (by first | omega | simp <;> omega) hg28 hr29 (by omega) (by omega)) ?_
      rintro ⟨⟨y9,y10,y11,y12,y13⟩,y14,x2⟩ ⟨hg30,hr31⟩
      refine Tot.bind (t273 (by first | omega | simp <;> omega) hg30 hr31 (by omega) (by omega)) ?_
      rintro ⟨⟨y15,y16,y17,y18,y19⟩,y20,x3⟩ ⟨hg32,hr33⟩
      exact Tot.ret ⟨hg32.mono (by omega),hr33.mono (by omega)⟩
     ·refine Tot.bind (t273 (by first | omega | simp <;> omega) hg hr1 (by omega) (by omega)) ?_
      rintro ⟨⟨y3,y4,y5,y6,y7⟩,y8,x⟩ ⟨hg34,hr35⟩
      refine Tot.bind (t277 hg34 hr35 (by omega) (by omega)) ?_
      rintro ⟨y9,⟨y10,y11,y12,y13,y14⟩,x1,x2⟩ ⟨(ky9:List.length y9≤25),hg36,hr37⟩
      refine Tot.grd (by simp <;> omega) ?_
      refine Tot.bind (t273 (by first | omega | simp <;> omega) hg36 hr37 (by omega) (by omega)) ?_
      rintro ⟨⟨y15,y16,y17,y18,y19⟩,y20,x3⟩ ⟨hg38,hr39⟩
      refine Tot.bind (t273 (by first | omega | simp <;> omega) hg38 hr39 (by omega) (by omega)) ?_
      rintro ⟨⟨y21,y22,y23,y24,y25⟩,y26,x4⟩ ⟨hg40,hr41⟩
      refine Tot.bind (t273 (by first | omega | simp <;> omega) hg40 hr41 (by omega) (by omega)) ?_
      rintro ⟨⟨y27,y28,y29,y30,y31⟩,y32,x5⟩ ⟨hg42,hr43⟩
      exact Tot.ret ⟨hg42.mono (by omega),hr43.mono (by omega)⟩
 rintro ⟨⟨o12,o21,o31,o41,o51⟩,o01,o13⟩ ⟨hg44,hr45⟩
 exact Tot.ret ⟨hg44.mono (by omega),hr45.mono (by omega)⟩
end Go.Proofs.YtdpapeledldifaaGreat
end
section
namespace Go.Proofs.YtdpapeledldifaaGreat
open Go Go.AM Go.TM
def bCst (c:Cst):Prop:=c.2.1.length≤1048576
def zGO (l:List Knd):Prop:=l.length≤1048576
def bFrm (f:Frm):Prop:=zGO f.2.1∧zGO f.2.2
def bMth (m:Mth):Prop:=m.2.2.2.2.2.1.length≤1048576∧m.2.2.2.2.2.2.1.length≤1048576∧m.2.2.2.2.2.2.2.length≤1048576∧∀ f∈m.2.2.2.2.2.2.2,bFrm f
def bCls (c:Cls):Prop:=(c.1.length≤1048576∧∀ x∈c.1,bCst x)∧c.2.2.2.2.1.length≤1048576∧c.2.2.2.2.2.1.length≤1048576∧c.2.2.2.2.2.2.length≤1048576∧∀ x∈c.2.2.2.2.2.2,bMth x
end Go.Proofs.YtdpapeledldifaaGreat
end
section
namespace Go.Proofs.YtdpapeledldifaaGreat
open Go Go.AM Go.TM
set_option maxRecDepth 10000
theorem zBz {α R:Type} {l:List α} {n:Nat} {x:α} {k:α→Option R} (e:l[n]? = some x):atO l n k=k x:=by
 show (match l[n]? with | some x=>k x | none=>none)=k x
 rw [e]
def Pl (K:Nat) (p:List Cst):Prop:=p.length≤K∧∀ x∈p,x.2.1.length≤60
theorem Pl.mono {K L:Nat} {p:List Cst} (h:Pl K p) (hc:K≤L):Pl L p:=⟨Nat.le_trans h.1 hc,h.2⟩
theorem Pl.app {K:Nat} {p:List Cst} {x:Cst} (h:Pl K p) (hx:x.2.1.length≤60):Pl (K+1) (p++[x]):=by
 refine ⟨by have:=h.1;simp only [List.length_append,List.length_cons,List.length_nil];omega,fun y hy=>?_⟩
 simp only [List.mem_append,List.mem_singleton] at hy
 rcases hy with hy | rfl
 ·exact h.2 y hy
 ·exact hx
theorem t327 {s:List UInt8} (hs:s.length≤1000000000000):Tot (F327 s) fun _=>True:=by
 unfold F327
 refine Tot.bindE (fun y=>y.1=s) (Tot.loop (fun z=>z.1=s∧0≤z.2.2∧z.2.2≤(s.length:Int)) (fun z=>s.length - z.2.2.toNat) ?_ ⟨rfl,by simp,by simp⟩) ?_
 ·rintro ⟨s1,n,i⟩ ⟨rfl,h0,h1⟩
  simp only at h0 h1 hs
  refine Tot.cnd (fun h=>?_) (fun h=>Tot.ret rfl)
  simp only [decide_eq_true_eq] at h
  refine Tot.bindE (fun y=>y=(s1,n,i)) ?_ ?_
  ·exact Tot.grd (by simpa using h0) (Tot.at (by omega) fun x _=>Tot.cnd (fun _=>Tot.ret trivial) fun _=>Tot.grd (by simpa using h0) (Tot.at (by omega) fun x1 _=>Tot.cnd (fun _=>Tot.ret trivial) fun _=>Tot.cnd (fun _=>Tot.ret trivial) fun _=>Tot.ret rfl))
  ·rintro _ rfl
   refine Tot.grd (by simpa using h0) (Tot.at (by omega) fun x _=>Tot.ret ⟨⟨rfl,?_,?_⟩,?_⟩) <;> (simp only;rw [wrapI (x:=i+1) (by omega) (by omega)];omega)
 ·rintro ⟨s1,n⟩ rfl
  refine Tot.cnd (fun _=>Tot.ret trivial) fun _=>Tot.cnd (fun h=>?_) fun _=>Tot.ret trivial
  simp only [decide_eq_true_eq] at h
  exact Tot.at (by omega) fun x _=>Tot.cnd (fun _=>Tot.ret trivial) fun _=>Tot.ret trivial
theorem t325 {s:List UInt8} (hs:s.length≤1000000000000):Tot (F325 s) fun _=>True:=by
 unfold F325
 refine Tot.bindE (fun y=>y.1=s∧(y.2=true→1<s.length)) ?_ ?_
 ·refine Tot.cnd (fun h=>?_) fun h=>Tot.ret ⟨rfl,by simp⟩
  simp only [decide_eq_true_eq] at h
  exact Tot.at (by omega) fun x _=>Tot.ret ⟨rfl,fun _=>by omega⟩
 ·rintro ⟨s1,b⟩ ⟨rfl,hb⟩
  simp only at hb hs
  refine Tot.cnd (fun h=>?_) fun h=>Tot.bind (t327 hs) fun _ _=>Tot.ret trivial
  have:=hb h
  exact Tot.grd (by simp;omega) (Tot.bind (t327 (by simp;omega)) fun _ _=>Tot.ret trivial)
theorem t326 {x:Cst} {p:List Cst} {f n s:Int} {fa:List Int} {fi:List (Int×Int×Int)} {ms:List Mth} {bad:Bool} {K:Nat} (hx:x.2.1.length≤60) (hp:Pl K p) (hK:K≤1000000):Tot (F326 (x,p,f,n,s,fa,fi,ms,bad)) fun y=>∃ i q,y=(i,q,f,n,s,fa,fi,ms,bad)∧Pl (K+1) q:=by
 obtain ⟨c0,c1,c2,c3⟩:=x
 have hl:=hp.1
 unfold F326
 refine Tot.bindE (fun y=>y=((c0,c1,c2,c3),p,f,n,s,fa,fi,ms,bad)) (Tot.loop (fun z=>z.2=((c0,c1,c2,c3),p,f,n,s,fa,fi,ms,bad)∧0≤z.1∧z.1≤(p.length:Int)) (fun z=>p.length - z.1.toNat) ?_ ⟨rfl,by simp,by simp⟩) ?_
 ·rintro ⟨i,z⟩ ⟨hz,h0,h1⟩
  simp only at hz h0 h1
  subst hz
  refine Tot.cnd (fun h=>?_) (fun h=>Tot.ret rfl)
  simp only [decide_eq_true_eq] at h
  refine Tot.grd (by simp;omega) (Tot.at (by omega) fun y _=>Tot.cnd (fun _=>?_) fun _=>?_)
  ·exact Tot.ret ⟨_,_,rfl,hp.mono (by omega)⟩
  ·refine Tot.ret ⟨⟨rfl,?_,?_⟩,?_⟩ <;> (simp only;rw [wrapI (by omega) (by omega)];omega)
 ·rintro _ rfl
  exact Tot.grd (by simp;omega) (Tot.ret ⟨_,_,rfl,hp.app hx⟩)
theorem t312 {x:List UInt8} {p:List Cst} {f n s:Int} {fa:List Int} {fi:List (Int×Int×Int)} {ms:List Mth} {bad:Bool} {K:Nat} (hp:Pl K p) (hK:K≤1000000):Tot (F312 (x,p,f,n,s,fa,fi,ms,bad)) fun y=>∃ i q b,y=(i,q,f,n,s,fa,fi,ms,b)∧Pl (K+1) q:=by
 unfold F312
 refine Tot.cnd (fun h=>Tot.ret ⟨_,_,_,rfl,hp.mono (by omega)⟩) (fun h=>?_)
 simp only [decide_eq_false_iff_not] at h
 refine Tot.bind (t326 (by simp only;omega) hp hK) ?_
 rintro _ ⟨i,q,rfl,hq⟩
 exact Tot.ret ⟨_,_,_,rfl,hq⟩
theorem t310 {x:List UInt8} {p:List Cst} {f n s:Int} {fa:List Int} {fi:List (Int×Int×Int)} {ms:List Mth} {bad:Bool} {K:Nat} (hp:Pl K p) (hK:K≤900000):Tot (F310 (x,p,f,n,s,fa,fi,ms,bad)) fun y=>∃ i q b,y=(i,q,f,n,s,fa,fi,ms,b)∧Pl (K+2) q:=by
 unfold F310
 refine Tot.bind (t312 hp (by omega)) ?_
 rintro _ ⟨i,q,b,rfl,hq⟩
 refine Tot.bind (t326 (by simp) hq (by omega)) ?_
 rintro _ ⟨i,q,rfl,hq⟩
 exact Tot.ret ⟨_,_,_,rfl,hq⟩
theorem t311 {x:List UInt8} {p:List Cst} {f n s:Int} {fa:List Int} {fi:List (Int×Int×Int)} {ms:List Mth} {bad:Bool}  (hx:x.length≤1000000000000):Tot (F311 (x,p,f,n,s,fa,fi,ms,bad)) fun y=>∃ i b,y=(i,p,f,n,s,fa,fi,ms,b):=by
 unfold F311
 refine Tot.bind (t327 hx) ?_
 rintro i -
 exact Tot.cnd (fun _=>Tot.ret ⟨_,_,rfl⟩) fun _=>Tot.ret ⟨_,_,rfl⟩
theorem zRV {x:Cst} {p:List Cst} {f n s:Int} {fa:List Int} {fi:List (Int×Int×Int)} {ms:List Mth} {bad:Bool} {K:Nat} (hx:x.2.1.length≤60) (hp:Pl K p) (hK:K≤1000000):Tot (F5000326 (x,(p,f,n,s,fi,ms,bad),fa)) fun y=>∃ i q,y=(i,(q,f,n,s,fi,ms,bad),fa)∧Pl (K+1) q:=by
 obtain ⟨c0,c1,c2,c3⟩:=x
 have hl:=hp.1
 unfold F5000326
 refine Tot.bindE (fun y=>y=((c0,c1,c2,c3),(p,f,n,s,fi,ms,bad),fa)) (Tot.loop (fun z=>z.2=((c0,c1,c2,c3),(p,f,n,s,fi,ms,bad),fa)∧0≤z.1∧z.1≤(p.length:Int)) (fun z=>p.length - z.1.toNat) ?_ ⟨rfl,by simp,by simp⟩) ?_
 ·rintro ⟨i,z⟩ ⟨hz,h0,h1⟩
  simp only at hz h0 h1
  subst hz
  refine Tot.cnd (fun h=>?_) (fun h=>Tot.ret rfl)
  simp only [decide_eq_true_eq] at h
  refine Tot.grd (by simp;omega) (Tot.at (by omega) fun y _=>Tot.cnd (fun _=>?_) fun _=>?_)
  ·exact Tot.ret ⟨_,_,rfl,hp.mono (by omega)⟩
  ·refine Tot.ret ⟨⟨rfl,?_,?_⟩,?_⟩ <;> (simp only;rw [wrapI (by omega) (by omega)];omega)
 ·rintro _ rfl
  exact Tot.grd (by simp;omega) (Tot.ret ⟨_,_,rfl,hp.app hx⟩)
theorem t5000312 {x:List UInt8} {p:List Cst} {f n s:Int} {fa:List Int} {fi:List (Int×Int×Int)} {ms:List Mth} {bad:Bool} {K:Nat} (hp:Pl K p) (hK:K≤1000000):Tot (F5000312 (x,(p,f,n,s,fi,ms,bad),fa)) fun y=>∃ i q b,y=(i,(q,f,n,s,fi,ms,b),fa)∧Pl (K+1) q:=by
 unfold F5000312
 refine Tot.cnd (fun h=>Tot.ret ⟨_,_,_,rfl,hp.mono (by omega)⟩) (fun h=>?_)
 simp only [decide_eq_false_iff_not] at h
 refine Tot.bind (zRV (by simp only;omega) hp hK) ?_
 rintro _ ⟨i,q,rfl,hq⟩
 exact Tot.ret ⟨_,_,_,rfl,hq⟩
theorem t5000310 {x:List UInt8} {p:List Cst} {f n s:Int} {fa:List Int} {fi:List (Int×Int×Int)} {ms:List Mth} {bad:Bool} {K:Nat} (hp:Pl K p) (hK:K≤900000):Tot (F5000310 (x,(p,f,n,s,fi,ms,bad),fa)) fun y=>∃ i q b,y=(i,(q,f,n,s,fi,ms,b),fa)∧Pl (K+2) q:=by
 unfold F5000310
 refine Tot.bind (t5000312 hp (by omega)) ?_
 rintro _ ⟨i,q,b,rfl,hq⟩
 refine Tot.bind (zRV (by simp) hq (by omega)) ?_
 rintro _ ⟨i,q,rfl,hq⟩
 exact Tot.ret ⟨_,_,_,rfl,hq⟩
theorem t6000326 {x:Cst} {p:List Cst} {f n s:Int} {fa:List Int} {fi:List (Int×Int×Int)} {ms:List Mth} {bad:Bool} {K:Nat} (hx:x.2.1.length≤60) (hp:Pl K p) (hK:K≤1000000):Tot (F6000326 (x,(p,f,n,s,fa,ms,bad),fi)) fun y=>∃ i q,y=(i,(q,f,n,s,fa,ms,bad),fi)∧Pl (K+1) q:=by
 obtain ⟨c0,c1,c2,c3⟩:=x
 have hl:=hp.1
 unfold F6000326
 refine Tot.bindE (fun y=>y=((c0,c1,c2,c3),(p,f,n,s,fa,ms,bad),fi)) (Tot.loop (fun z=>z.2=((c0,c1,c2,c3),(p,f,n,s,fa,ms,bad),fi)∧0≤z.1∧z.1≤(p.length:Int)) (fun z=>p.length - z.1.toNat) ?_ ⟨rfl,by simp,by simp⟩) ?_
 ·rintro ⟨i,z⟩ ⟨hz,h0,h1⟩
  simp only at hz h0 h1
  subst hz
  refine Tot.cnd (fun h=>?_) (fun h=>Tot.ret rfl)
  simp only [decide_eq_true_eq] at h
  refine Tot.grd (by simp;omega) (Tot.at (by omega) fun y _=>Tot.cnd (fun _=>?_) fun _=>?_)
  ·exact Tot.ret ⟨_,_,rfl,hp.mono (by omega)⟩
  ·refine Tot.ret ⟨⟨rfl,?_,?_⟩,?_⟩ <;> (simp only;rw [wrapI (by omega) (by omega)];omega)
 ·rintro _ rfl
  exact Tot.grd (by simp;omega) (Tot.ret ⟨_,_,rfl,hp.app hx⟩)
theorem zRU {x:List UInt8} {p:List Cst} {f n s:Int} {fa:List Int} {fi:List (Int×Int×Int)} {ms:List Mth} {bad:Bool} {K:Nat} (hp:Pl K p) (hK:K≤1000000):Tot (F6000312 (x,(p,f,n,s,fa,ms,bad),fi)) fun y=>∃ i q b,y=(i,(q,f,n,s,fa,ms,b),fi)∧Pl (K+1) q:=by
 unfold F6000312
 refine Tot.cnd (fun h=>Tot.ret ⟨_,_,_,rfl,hp.mono (by omega)⟩) (fun h=>?_)
 simp only [decide_eq_false_iff_not] at h
 refine Tot.bind (t6000326 (by simp only;omega) hp hK) ?_
 rintro _ ⟨i,q,rfl,hq⟩
 exact Tot.ret ⟨_,_,_,rfl,hq⟩
theorem t6000311 {x:List UInt8} {p:List Cst} {f n s:Int} {fa:List Int} {fi:List (Int×Int×Int)} {ms:List Mth} {bad:Bool}  (hx:x.length≤1000000000000):Tot (F6000311 (x,(p,f,n,s,fa,ms,bad),fi)) fun y=>∃ i b,y=(i,(p,f,n,s,fa,ms,b),fi):=by
 unfold F6000311
 refine Tot.bind (t327 hx) ?_
 rintro i -
 exact Tot.cnd (fun _=>Tot.ret ⟨_,_,rfl⟩) fun _=>Tot.ret ⟨_,_,rfl⟩
theorem zIm {x:Cst} {p:List Cst} {f n s:Int} {fa:List Int} {fi:List (Int×Int×Int)} {ms:List Mth} {bad:Bool} {K:Nat} {ri:Nat} {r0 r1 r2 r3 r4:Int} {r5:List UInt8} {r6:List (Int×Int×Int×Int)} {fr:List Frm} (hx:x.2.1.length≤60) (hp:Pl K p) (hK:K≤1000000):Tot (F807000326 (x,(p,f,n,s,fa,fi,bad),(ms,ri,r0,r1,r2,r3,r4,r5,r6),fr)) fun y=>∃ i q,y=(i,(q,f,n,s,fa,fi,bad),(ms,ri,r0,r1,r2,r3,r4,r5,r6),fr)∧Pl (K+1) q:=by
 obtain ⟨c0,c1,c2,c3⟩:=x
 have hl:=hp.1
 unfold F807000326
 refine Tot.bindE (fun y=>y=((c0,c1,c2,c3),(p,f,n,s,fa,fi,bad),(ms,ri,r0,r1,r2,r3,r4,r5,r6),fr)) (Tot.loop (fun z=>z.2=((c0,c1,c2,c3),(p,f,n,s,fa,fi,bad),(ms,ri,r0,r1,r2,r3,r4,r5,r6),fr)∧0≤z.1∧z.1≤(p.length:Int)) (fun z=>p.length - z.1.toNat) ?_ ⟨rfl,by simp,by simp⟩) ?_
 ·rintro ⟨i,z⟩ ⟨hz,h0,h1⟩
  simp only at hz h0 h1
  subst hz
  refine Tot.cnd (fun h=>?_) (fun h=>Tot.ret rfl)
  simp only [decide_eq_true_eq] at h
  refine Tot.grd (by simp;omega) (Tot.at (by omega) fun y _=>Tot.cnd (fun _=>?_) fun _=>?_)
  ·exact Tot.ret ⟨_,_,rfl,hp.mono (by omega)⟩
  ·refine Tot.ret ⟨⟨rfl,?_,?_⟩,?_⟩ <;> (simp only;rw [wrapI (by omega) (by omega)];omega)
 ·rintro _ rfl
  exact Tot.grd (by simp;omega) (Tot.ret ⟨_,_,rfl,hp.app hx⟩)
theorem zSU {x:List UInt8} {p:List Cst} {f n s:Int} {fa:List Int} {fi:List (Int×Int×Int)} {ms:List Mth} {bad:Bool} {K:Nat} {ri:Nat} {r0 r1 r2 r3 r4:Int} {r5:List UInt8} {r6:List (Int×Int×Int×Int)} {fr:List Frm} (hp:Pl K p) (hK:K≤1000000):Tot (F807000312 (x,(p,f,n,s,fa,fi,bad),(ms,ri,r0,r1,r2,r3,r4,r5,r6),fr)) fun y=>∃ i q b,y=(i,(q,f,n,s,fa,fi,b),(ms,ri,r0,r1,r2,r3,r4,r5,r6),fr)∧Pl (K+1) q:=by
 unfold F807000312
 refine Tot.cnd (fun h=>Tot.ret ⟨_,_,_,rfl,hp.mono (by omega)⟩) (fun h=>?_)
 simp only [decide_eq_false_iff_not] at h
 refine Tot.bind (zIm (by simp only;omega) hp hK) ?_
 rintro _ ⟨i,q,rfl,hq⟩
 exact Tot.ret ⟨_,_,_,rfl,hq⟩
theorem zSW {x:List UInt8} {p:List Cst} {f n s:Int} {fa:List Int} {fi:List (Int×Int×Int)} {ms:List Mth} {bad:Bool} {K:Nat} {ri:Nat} {r0 r1 r2 r3 r4:Int} {r5:List UInt8} {r6:List (Int×Int×Int×Int)} {fr:List Frm} (hp:Pl K p) (hK:K≤900000):Tot (F807000310 (x,(p,f,n,s,fa,fi,bad),(ms,ri,r0,r1,r2,r3,r4,r5,r6),fr)) fun y=>∃ i q b,y=(i,(q,f,n,s,fa,fi,b),(ms,ri,r0,r1,r2,r3,r4,r5,r6),fr)∧Pl (K+2) q:=by
 unfold F807000310
 refine Tot.bind (zSU hp (by omega)) ?_
 rintro _ ⟨i,q,b,rfl,hq⟩
 refine Tot.bind (zIm (by simp) hq (by omega)) ?_
 rintro _ ⟨i,q,rfl,hq⟩
 exact Tot.ret ⟨_,_,_,rfl,hq⟩
theorem zSV {x:List UInt8} {p:List Cst} {f n s:Int} {fa:List Int} {fi:List (Int×Int×Int)} {ms:List Mth} {bad:Bool}  {ri:Nat} {r0 r1 r2 r3 r4:Int} {r5:List UInt8} {r6:List (Int×Int×Int×Int)} {fr:List Frm} (hx:x.length≤1000000000000):Tot (F807000311 (x,(p,f,n,s,fa,fi,bad),(ms,ri,r0,r1,r2,r3,r4,r5,r6),fr)) fun y=>∃ i b,y=(i,(p,f,n,s,fa,fi,b),(ms,ri,r0,r1,r2,r3,r4,r5,r6),fr):=by
 unfold F807000311
 refine Tot.bind (t327 hx) ?_
 rintro i -
 exact Tot.cnd (fun _=>Tot.ret ⟨_,_,rfl⟩) fun _=>Tot.ret ⟨_,_,rfl⟩
end Go.Proofs.YtdpapeledldifaaGreat
end
section
namespace Go.Proofs.YtdpapeledldifaaGreat
open Go Go.AM Go.TM
set_option maxRecDepth 10000
def Mb (N:Nat) (m:Mth):Prop:=m.2.2.2.2.2.1.length≤N∧m.2.2.2.2.2.2.1.length≤N∧m.2.2.2.2.2.2.2.length≤N∧∀ f∈m.2.2.2.2.2.2.2,f.2.1.length≤16∧f.2.2.length≤16
def Ms (N:Nat) (l:List Mth):Prop:=l.length≤N∧∀ m∈l,Mb N m
theorem Mb.mono {K L:Nat} {m:Mth} (h:Mb K m) (hc:K≤L):Mb L m:=⟨Nat.le_trans h.1 hc,Nat.le_trans h.2.1 hc,Nat.le_trans h.2.2.1 hc,h.2.2.2⟩
theorem Ms.mono {K L:Nat} {l:List Mth} (h:Ms K l) (hc:K≤L):Ms L l:=⟨Nat.le_trans h.1 hc,fun m hm=>(h.2 m hm).mono hc⟩
theorem Ms.set {K:Nat} {l:List Mth} (h:Ms K l) (i:Nat) {m:Mth} (hm:Mb K m):Ms K (l.set i m):=by
 refine ⟨by rw [List.length_set];exact h.1,fun x hx=>?_⟩
 rcases List.mem_or_eq_of_mem_set hx with hx | rfl
 ·exact h.2 x hx
 ·exact hm
theorem Ms.app {K:Nat} {l:List Mth} (h:Ms K l) {m:Mth} (hm:Mb K m):Ms (K+1) (l++[m]):=by
 refine ⟨by have:=h.1;simp only [List.length_append,List.length_cons,List.length_nil];omega,fun y hy=>?_⟩
 simp only [List.mem_append,List.mem_singleton] at hy
 rcases hy with hy | rfl
 ·exact (h.2 y hy).mono (by omega)
 ·exact hm.mono (by omega)
theorem q315 {ms:List Mth} (h1:1≤ms.length) (h2:ms.length≤1000000) (p:List Cst) (f n s:Int) (fa:List Int) (fi:List (Int×Int×Int)) (bad:Bool):F315 (p,f,n,s,fa,fi,ms,bad)=some (ms.length - 1,ms,p,f,n,s,fa,fi,bad):=by
 have e:IntKind.wrap .i64 ((ms.length:Int) - 1)=(ms.length:Int) - 1:=wrapI (by omega) (by omega)
 have g:(decide ((0:Int)≤(ms.length:Int) - 1) && decide ((ms.length:Int) - 1<(ms.length:Int)))=true:=by simp;omega
 have t:((ms.length:Int) - 1).toNat=ms.length - 1:=by omega
 simp only [F315,e,g,t,zAG]
theorem zMR {ms:List Mth} (h1:1≤ms.length) (h2:ms.length≤1000000) (p:List Cst) (f n s:Int) (fa:List Int) (fi:List (Int×Int×Int)) (bad:Bool):F7000315 ((p,f,n,s,fa,fi,bad),ms)=some (ms.length - 1,(p,f,n,s,fa,fi,bad),ms):=by
 have e:IntKind.wrap .i64 ((ms.length:Int) - 1)=(ms.length:Int) - 1:=wrapI (by omega) (by omega)
 have g:(decide ((0:Int)≤(ms.length:Int) - 1) && decide ((ms.length:Int) - 1<(ms.length:Int)))=true:=by simp;omega
 have t:((ms.length:Int) - 1).toNat=ms.length - 1:=by omega
 simp only [F7000315,e,g,t,zAG]
theorem t324 {k:Int} {a b c:List UInt8} {p:List Cst} {f n s:Int} {fa:List Int} {fi:List (Int×Int×Int)} {ms:List Mth} {bad:Bool} {K:Nat} (hp:Pl K p) (hK:K≤900000) :
  Tot (F324 (k,a,b,c,p,f,n,s,fa,fi,ms,bad)) fun y=>∃ i q b,y=(i,q,f,n,s,fa,fi,ms,b)∧Pl (K+6) q:=by
 unfold F324
 refine Tot.bind (t310 hp hK) ?_
 rintro _ ⟨_,q,_,rfl,hq⟩
 refine Tot.bind (t312 hq (by omega)) ?_
 rintro _ ⟨_,q,_,rfl,hq⟩
 refine Tot.bind (t312 hq (by omega)) ?_
 rintro _ ⟨_,q,_,rfl,hq⟩
 refine Tot.bind (t326 (by simp) hq (by omega)) ?_
 rintro _ ⟨_,q,rfl,hq⟩
 refine Tot.bind (t326 (by simp) hq (by omega)) ?_
 rintro _ ⟨_,q,rfl,hq⟩
 exact Tot.ret ⟨_,_,_,rfl,hq⟩
theorem t291 (n:Int):Tot (F291 n) fun _=>True:=by
 unfold F291
 refine Tot.bindE (fun _=>True) ?_ ?_
 ·exact Tot.cnd (fun _=>Tot.ret trivial) fun _=>Tot.cnd (fun _=>Tot.ret trivial) fun _=>Tot.ret trivial
 rintro ⟨_,_⟩ -
 refine Tot.cnd (fun _=>Tot.ret trivial) fun _=>Tot.bindE (fun _=>True) ?_ ?_
 ·exact Tot.cnd (fun _=>Tot.ret trivial) fun _=>Tot.cnd (fun _=>Tot.ret trivial) fun _=>Tot.cnd (fun _=>Tot.ret trivial) fun _=>Tot.ret trivial
 rintro ⟨_,_⟩ -
 refine Tot.cnd (fun _=>Tot.ret trivial) fun _=>Tot.bindE (fun _=>True) ?_ ?_
 ·exact Tot.cnd (fun _=>Tot.ret trivial) fun _=>Tot.cnd (fun _=>Tot.ret trivial) fun _=>Tot.ret trivial
 rintro ⟨_,_⟩ -
 exact Tot.cnd (fun _=>Tot.ret trivial) fun _=>Tot.cnd (fun _=>Tot.ret trivial) fun _=>Tot.ret trivial
theorem t134 (n:Int):Tot (F134 n) fun y=>y.length=1:=by
 unfold F134
 exact Tot.grd (u8ok _) (Tot.ret rfl)
theorem t136 (n:Int):Tot (F136 n) fun y=>y.length=2:=by
 unfold F136
 exact Tot.grd (u8ok _) (Tot.grd (u8ok _) (Tot.ret rfl))
theorem t194 (x:Int×Int×Int):Tot (F194 [x]) fun y=>y.length≤3:=by
 unfold F194
 refine Tot.bindE (fun y=>y.length≤3) (Tot.loop (fun z=>z.1=[x]∧((z.2.2=0∧z.2.1.length=0)∨(z.2.2=1∧z.2.1.length≤3))) (fun z=>1 - z.2.2.toNat) ?_ ⟨rfl,.inl ⟨rfl,rfl⟩⟩) fun y hy=>Tot.ret hy
 rintro ⟨l,out,i⟩ ⟨hl,hi⟩
 simp only at hl hi
 subst hl
 refine Tot.cnd (fun h=>?_) fun h=>Tot.ret (by show out.length≤3;omega)
 simp only [decide_eq_true_eq,List.length_cons,List.length_nil] at h
 have h0:i=0∧out.length=0:=by omega
 obtain ⟨rfl,ho⟩:=h0
 refine Tot.grd (by simp) (Tot.at' (x:=x) rfl (Tot.bind (t134 _) fun y hy=>Tot.grd (by simp;omega) (Tot.bind (t251 _) fun y1 _=>?_)))
 refine Tot.bindE (fun w=>w.1=[x]∧w.2.1.length≤3∧w.2.2=0) ?_ ?_
 ·refine Tot.cnd (fun _=>Tot.bind (t134 _) fun z hz=>Tot.grd (by simp;omega) (Tot.ret ⟨rfl,by simp;omega,rfl⟩)) fun _=>Tot.cnd (fun _=>Tot.bind (t136 _) fun z hz=>Tot.grd (by simp;omega) (Tot.ret ⟨rfl,by simp;omega,rfl⟩)) fun _=>Tot.ret ⟨rfl,by simp;omega,rfl⟩
 ·rintro ⟨l,out,i⟩ ⟨rfl,ho,rfl⟩
  exact Tot.ret ⟨⟨rfl,.inr ⟨rfl,ho⟩⟩,by show 1 - (IntKind.wrap .i64 (0+1)).toNat<1 - (0:Int).toNat;rw [wrapI (by omega) (by omega)];decide⟩
end Go.Proofs.YtdpapeledldifaaGreat
end
section
namespace Go.Proofs.YtdpapeledldifaaGreat
open Go Go.AM Go.TM
set_option maxRecDepth 10000
theorem t309 {v:List (List UInt8)} {p:List Cst} {f n s:Int} {fa:List Int} {fi:List (Int×Int×Int)} {ms:List Mth} {bad:Bool} {K:Nat} (hv:1≤v.length) (hv2:v.length≤10) (hvt:∀ x∈v,x.length≤1000000000000) (hp:Pl K p) (hm:Ms K ms) (hK:K≤900000) :
  Tot (F309 (v,p,f,n,s,fa,fi,ms,bad)) fun y=>∃ q ms' b,y=(q,f,n,s,fa,fi,ms',b)∧Pl (K+10) q∧Ms (K+10) ms':=by
 obtain ⟨x,e0⟩:∃ x,v[0]? = some x:=⟨v[0],List.getElem?_eq_getElem hv⟩
 obtain ⟨y,ey,hy⟩:Tot (F302 ()) fun y=>y.length≤100:=Tot.ret (by decide)
 obtain ⟨y1,e1,-⟩:=t301 (list:=y) (s:=x) (by omega)
 have hl:=hm.1
 have hat:∀ i (h:i<v.length),v[i].length≤1000000000000:=fun i h=>hvt _ (List.getElem_mem h)
 simp only [F309,zBz e0,ey,e1,zAB,eq_self,decide_true,Bool.and_true,zAG,zAa,zDA]
 refine Tot.bindE (fun z=>z=(v,(0,y1,0),p,f,n,s,fa,fi,ms,bad)∧1≤ms.length) ?_ ?_
 ·refine Tot.cnd (fun _=>Tot.ret ⟨_,_,_,rfl,hp.mono (by omega),hm.mono (by omega)⟩) fun h=>Tot.cnd (fun _=>Tot.ret ⟨_,_,_,rfl,hp.mono (by omega),hm.mono (by omega)⟩) fun _=>?_
  simp only [decide_eq_false_iff_not] at h
  exact Tot.ret ⟨rfl,by omega⟩
 rintro _ ⟨rfl,h1⟩
 refine Tot.bind (t291 _) ?_
 rintro y2 -
 refine Tot.bindE (fun z=>∃ a b c q bd,z=((a,b,c),q,f,n,s,fa,fi,ms,bd)∧Pl (K+10) q) ?_ ?_
 ·refine Tot.bindE (fun z=>∃ b,z=(v,y2,b,(0,y1,0),p,f,n,s,fa,fi,ms,bad)∧(b=true→v.length=2)) ?_ ?_
  ·exact Tot.cnd (fun _=>Tot.ret ⟨_,rfl,fun h=>by simp only [decide_eq_true_eq] at h;omega⟩) fun _=>Tot.ret ⟨_,rfl,by simp⟩
  rintro _ ⟨b,rfl,hb⟩
  refine Tot.cnd (fun h=>?_) fun _=>?_
  ·have:=hb h
   refine Tot.at (by show _<v.length;omega) fun z _=>Tot.bind (t310 hp hK) ?_
   rintro _ ⟨i,q,b,rfl,hq⟩
   exact Tot.ret ⟨_,_,_,_,_,rfl,hq.mono (by omega)⟩
  refine Tot.bindE (fun z=>∃ b,z=(v,y2,b,(0,y1,0),p,f,n,s,fa,fi,ms,bad)∧(b=true→v.length=4)) ?_ ?_
  ·exact Tot.cnd (fun _=>Tot.ret ⟨_,rfl,fun h=>by simp only [decide_eq_true_eq] at h;omega⟩) fun _=>Tot.ret ⟨_,rfl,by simp⟩
  rintro _ ⟨b,rfl,hb⟩
  refine Tot.cnd (fun h=>?_) fun _=>?_
  ·have:=hb h
   refine Tot.at (by show _<v.length;omega) fun z _=>Tot.at (by show _<v.length;omega) fun z2 _=>Tot.at (by show _<v.length;omega) fun z3 _=>Tot.bind (t324 hp hK) ?_
   rintro _ ⟨i,q,b,rfl,hq⟩
   exact Tot.ret ⟨_,_,_,_,_,rfl,hq.mono (by omega)⟩
  refine Tot.bindE (fun z=>∃ b,z=(v,y2,b,(0,y1,0),p,f,n,s,fa,fi,ms,bad)∧(b=true→v.length=2)) ?_ ?_
  ·exact Tot.cnd (fun _=>Tot.ret ⟨_,rfl,fun h=>by simp only [decide_eq_true_eq] at h;omega⟩) fun _=>Tot.ret ⟨_,rfl,by simp⟩
  rintro _ ⟨b,rfl,hb⟩
  refine Tot.cnd (fun h=>?_) fun _=>?_
  ·have:=hb h
   refine Tot.at (by show _<v.length;omega) fun z hz=>Tot.bind (t325 (hvt _ (List.mem_of_getElem? hz))) ?_
   rintro ⟨y3,y4⟩ -
   exact Tot.cnd (fun _=>Tot.ret ⟨_,_,_,_,_,rfl,hp.mono (by omega)⟩) fun _=>Tot.ret ⟨_,_,_,_,_,rfl,hp.mono (by omega)⟩
  refine Tot.bindE (fun z=>∃ b,z=(v,y2,b,(0,y1,0),p,f,n,s,fa,fi,ms,bad)∧(b=true→v.length=2)) ?_ ?_
  ·refine Tot.cnd (fun _=>Tot.bind (t251 _) fun _ _=>Tot.cnd (fun _=>Tot.ret ⟨_,rfl,fun h=>by simp only [decide_eq_true_eq] at h;omega⟩) fun _=>Tot.ret ⟨_,rfl,by simp⟩) fun _=>Tot.ret ⟨_,rfl,by simp⟩
  rintro _ ⟨b,rfl,hb⟩
  refine Tot.cnd (fun h=>?_) fun _=>?_
  ·have:=hb h
   refine Tot.at (by show _<v.length;omega) fun z hz=>Tot.bind (t311 (hvt _ (List.mem_of_getElem? hz))) ?_
   rintro _ ⟨i,b,rfl⟩
   exact Tot.ret ⟨_,_,_,_,_,rfl,hp.mono (by omega)⟩
  refine Tot.cnd (fun _=>Tot.bind (t251 _) fun _ _=>Tot.cnd (fun _=>Tot.cnd (fun _=>?_) fun _=>?_) fun _=>?_) fun _=>?_
  ·exact Tot.ret ⟨_,_,_,_,_,rfl,hp.mono (by omega)⟩
  ·exact Tot.ret ⟨_,_,_,rfl,hp.mono (by omega),hm.mono (by omega)⟩
  ·exact Tot.ret ⟨_,_,_,rfl,hp.mono (by omega),hm.mono (by omega)⟩
  ·exact Tot.ret ⟨_,_,_,rfl,hp.mono (by omega),hm.mono (by omega)⟩
 rintro _ ⟨a,b,c,q,bd,rfl,hq⟩
 refine Tot.bind (t107 _ _ _) fun y3 _=>Tot.cnd (fun _=>Tot.ret ⟨_,_,_,rfl,hq,hm.mono (by omega)⟩) fun _=>?_
 obtain ⟨m,em⟩:∃ m,ms[ms.length - 1]? = some m:=⟨ms[ms.length - 1],List.getElem?_eq_getElem (by omega)⟩
 have hmb:=hm.2 m (List.mem_of_getElem? em)
 obtain ⟨code,ec,hc⟩:=t194 (a,b,c)
 have g:decide ((((List.length m.2.2.2.2.2.1:Nat):Int)+((List.length code:Nat):Int))≤9223372036854775807)=true:=by
  have:=hmb.1;simp only [decide_eq_true_eq];omega
 have g':decide (List.length m.2.2.2.2.2.1+List.length code≤9223372036854775807)=true:=by
  have:=hmb.1;simp only [decide_eq_true_eq];omega
 simp only [q315 h1 (show ms.length≤1000000 by omega),zMR h1 (show ms.length≤1000000 by omega),zAB,zBz em,ec,eq_self,decide_true,Bool.and_true,beq_self_eq_true,zAG,zAa,g,g',zDA]
 refine Tot.ret ⟨_,_,_,rfl,hq,(hm.mono (by omega)).set _ ?_⟩
 obtain ⟨k1,k2,k3,k4⟩:=hmb
 exact ⟨by simp only [List.length_append];omega,by simp only;omega,by simp only;omega,k4⟩
end Go.Proofs.YtdpapeledldifaaGreat
end
section
namespace Go.Proofs.YtdpapeledldifaaGreat
open Go Go.AM Go.TM
set_option maxRecDepth 10000
theorem t108 (f:Int) {k:Int} (hk:(!decide (k=0))=true):Tot (F108 (f,k)) fun _=>True:=by
 unfold F108
 exact Tot.grd hk (Tot.ret trivial)
theorem t313 {w:List (List UInt8)} {p:List Cst} {f n s:Int} {fa:List Int} {fi:List (Int×Int×Int)} {ms:List Mth} {bad:Bool} {K:Nat} (hw:w.length=4∨w.length=6) (hwt:∀ x∈w,x.length≤1000000000000) (hp:Pl K p) (hm:Ms K ms) (hK:K≤900000) :
  Tot (F313 (w,p,f,n,s,fa,fi,ms,bad)) fun y=>∃ q ms' b,y=(q,f,n,s,fa,fi,ms',b)∧Pl (K+10) q∧Ms (K+10) ms':=by
 have hl:=hm.1
 obtain ⟨x1,e1⟩:∃ x,w[1]? = some x:=⟨w[1],List.getElem?_eq_getElem (by omega)⟩
 obtain ⟨x2,e2⟩:∃ x,w[2]? = some x:=⟨w[2],List.getElem?_eq_getElem (by omega)⟩
 obtain ⟨x3,e3⟩:∃ x,w[3]? = some x:=⟨w[3],List.getElem?_eq_getElem (by omega)⟩
 obtain ⟨_,c1,i1,q1,b1,rfl,hq1⟩:=t312 (x:=x1) (f:=f) (n:=n) (s:=s) (fa:=fa) (fi:=fi) (ms:=ms) (bad:=bad) hp (by omega)
 obtain ⟨_,c2,i2,q2,b2,rfl,hq2⟩:=t312 (x:=x2) (f:=f) (n:=n) (s:=s) (fa:=fa) (fi:=fi) (ms:=ms) (bad:=b1) hq1 (by omega)
 obtain ⟨_,c3,i3,b3,rfl⟩:=t311 (x:=x3) (p:=q2) (f:=f) (n:=n) (s:=s) (fa:=fa) (fi:=fi) (ms:=ms) (bad:=b2) (hwt _ (List.mem_of_getElem? e3))
 simp only [F313,zBz e1,zBz e2,zBz e3,c1,c2,c3,zAB,eq_self,decide_true,Bool.and_true,zAG,zAa,zDA]
 refine Tot.bindE (fun z=>∃ d e b,z=(w,(i3,i1,i2,d,e,[],[],[]),q2,f,n,s,fa,fi,ms,b)) ?_ ?_
 ·refine Tot.cnd (fun h=>?_) fun _=>Tot.ret ⟨_,_,_,rfl⟩
  simp only [decide_eq_true_eq] at h
  refine Tot.at (by omega) fun z hz=>Tot.bind (t311 (hwt _ (List.mem_of_getElem? hz))) ?_
  rintro _ ⟨_,b,rfl⟩
  refine Tot.at (by omega) fun z hz=>Tot.bind (t311 (hwt _ (List.mem_of_getElem? hz))) ?_
  rintro _ ⟨_,b,rfl⟩
  exact Tot.ret ⟨_,_,_,rfl⟩
 rintro _ ⟨d,e,b,rfl⟩
 refine Tot.bindE (fun z=>∃ b,z=((i3,i1,i2,d,e,[],[],[]),q2,f,n,s,fa,fi,ms,b)) ?_ ?_
 ·exact Tot.bind (t108 _ (by decide)) fun _ _=>Tot.cnd (fun _=>Tot.ret ⟨_,rfl⟩) fun _=>Tot.ret ⟨_,rfl⟩
 rintro _ ⟨b,rfl⟩
 refine Tot.grd (by simp;omega) (Tot.ret ⟨_,_,_,rfl,hq2.mono (by omega),(hm.app ?_).mono (by omega)⟩)
 exact ⟨by simp,by simp,by simp,by simp⟩
theorem t314 {w:List (List UInt8)} {p:List Cst} {f n s:Int} {fa:List Int} {fi:List (Int×Int×Int)} {ms:List Mth} {bad:Bool} {K:Nat} (hw:w.length=5) (h1:1≤ms.length) (hwt:∀ x∈w,x.length≤1000000000000) (hp:Pl K p) (hm:Ms K ms) (hK:K≤900000) :
  Tot (F314 (w,p,f,n,s,fa,fi,ms,bad)) fun y=>∃ q ms' b,y=(q,f,n,s,fa,fi,ms',b)∧Pl (K+10) q∧Ms (K+10) ms':=by
 have hl:=hm.1
 obtain ⟨x1,e1⟩:∃ x,w[1]? = some x:=⟨w[1],List.getElem?_eq_getElem (by omega)⟩
 obtain ⟨x2,e2⟩:∃ x,w[2]? = some x:=⟨w[2],List.getElem?_eq_getElem (by omega)⟩
 obtain ⟨x3,e3⟩:∃ x,w[3]? = some x:=⟨w[3],List.getElem?_eq_getElem (by omega)⟩
 obtain ⟨x4,e4⟩:∃ x,w[4]? = some x:=⟨w[4],List.getElem?_eq_getElem (by omega)⟩
 obtain ⟨_,c1,i1,b1,rfl⟩:=t311 (x:=x1) (p:=p) (f:=f) (n:=n) (s:=s) (fa:=fa) (fi:=fi) (ms:=ms) (bad:=bad) (hwt _ (List.mem_of_getElem? e1))
 obtain ⟨_,c2,i2,b2,rfl⟩:=t311 (x:=x2) (p:=p) (f:=f) (n:=n) (s:=s) (fa:=fa) (fi:=fi) (ms:=ms) (bad:=b1) (hwt _ (List.mem_of_getElem? e2))
 obtain ⟨_,c3,i3,b3,rfl⟩:=t311 (x:=x3) (p:=p) (f:=f) (n:=n) (s:=s) (fa:=fa) (fi:=fi) (ms:=ms) (bad:=b2) (hwt _ (List.mem_of_getElem? e3))
 simp only [F314,zBz e1,zBz e2,zBz e3,zBz e4,c1,c2,c3,zAB,eq_self,decide_true,Bool.and_true,zAG,zAa,zDA]
 refine Tot.bindE (fun z=>∃ a q b,z=((i1,i2,i3,a),q,f,n,s,fa,fi,ms,b)∧Pl (K+10) q) ?_ ?_
 ·refine Tot.cnd (fun h=>?_) fun _=>Tot.ret ⟨_,_,_,rfl,hp.mono (by omega)⟩
  refine Tot.bind (t310 hp hK) ?_
  rintro _ ⟨i,q,b,rfl,hq⟩
  exact Tot.ret ⟨_,_,_,rfl,hq.mono (by omega)⟩
 rintro _ ⟨a,q,b,rfl,hq⟩
 obtain ⟨m,em⟩:∃ m,ms[ms.length - 1]? = some m:=⟨ms[ms.length - 1],List.getElem?_eq_getElem (by omega)⟩
 have hmb:=hm.2 m (List.mem_of_getElem? em)
 have hlt:decide (ms.length - 1<ms.length)=true:=by simp only [decide_eq_true_eq];omega
 have g:(decide (List.length m.2.2.2.2.2.2.1+1≤9223372036854775807) && decide ((List.length m.2.2.2.2.2.2.1+1)*32≤140737488355328))=true:=by
  have:=hmb.2.1;simp only [Bool.and_eq_true,decide_eq_true_eq];omega
 simp only [q315 h1 (show ms.length≤1000000 by omega),zMR h1 (show ms.length≤1000000 by omega),zAB,zBz em,eq_self,decide_true,Bool.and_true,Bool.true_and,beq_self_eq_true,hlt,zAG,zAa,g,zDA]
 refine Tot.ret ⟨_,_,_,rfl,hq,(hm.mono (by omega)).set _ ?_⟩
 obtain ⟨k1,k2,k3,k4⟩:=hmb
 exact ⟨by simp only;omega,by simp only [List.length_append,List.length_cons,List.length_nil];omega,by simp only;omega,k4⟩
end Go.Proofs.YtdpapeledldifaaGreat
end
section
namespace Go.TM
open Go.AM
section
variable {σ α β:Type}
def Sm (Re:σ→Option (List UInt8)→Prop) (r:Option (α×σ)) (m:Option (α×List UInt8)):Prop :=
 ∃ v s,r=some (v,s)∧Re s (m.map (·.2))∧∀ v' l,m=some (v',l)→v=v'
variable {Re:σ→Option (List UInt8)→Prop}
theorem Sm.bind {r:Option (α×σ)} {m:Option (α×List UInt8)} {k:α×σ→Option (β×σ)} {k':α→List UInt8→Option (β×List UInt8)} (h:Sm Re r m)
  (hk:∀ v s st,Re s st→(∀ l,st=some l→m=some (v,l))→Sm Re (k (v,s)) (st.bind (k' v))):Sm Re (zAA r k) (m.bind fun p=>k' p.1 p.2):=by
 obtain ⟨v,s,rfl,h1,h2⟩:=h
 rw [zAB]
 have:=hk v s (m.map (·.2)) h1 (by
  intro l hl
  cases m with
  | none=>cases hl
  | some p=>obtain ⟨a,b⟩:=p;simp only [Option.map_some,Option.some.injEq] at hl;subst hl;rw [h2 a b rfl])
 cases m with
 | none=>exact this
 | some p =>
   obtain ⟨a,b⟩:=p
   have e:=h2 a b rfl
   subst e
   exact this
theorem Sm.ret {s:σ} {st:Option (List UInt8)} (h:Re s st) (v:α):Sm Re (some (v,s)) (st.bind fun l=>some (v,l)):=by
 refine ⟨v,s,rfl,?_,fun v' l hl=>?_⟩
 ·cases st with
  | none=>exact h
  | some l=>exact h
 ·cases st with
  | none=>cases hl
  | some l=>simp only [Option.bind_some,Option.some.injEq,Prod.mk.injEq] at hl;exact hl.1
def gRep (g:List UInt8→Option (β×List UInt8)):Nat→List UInt8→Option (List β×List UInt8)
 | 0,l=>some ([],l)
 | n+1,l=>(g l).bind fun p=>(gRep g n p.2).bind fun q=>some (p.1 :: q.1,q.2)
theorem zRr {g:List UInt8→Option (β×List UInt8)}:∀ (n:Nat) (l:List UInt8) (vs:List β) (l':List UInt8),gRep g n l=some (vs,l')→vs.length=n
 | 0,l,vs,l',h=>by simp only [gRep,Option.some.injEq,Prod.mk.injEq] at h;rw [← h.1];rfl
 | n+1,l,vs,l',h=>by
   simp only [gRep] at h
   cases hg:g l with
   | none=>rw [hg] at h;cases h
   | some p =>
     rw [hg] at h
     simp only [Option.bind_some] at h
     cases hr:gRep g n p.2 with
     | none=>rw [hr] at h;cases h
     | some q =>
       rw [hr] at h
       simp only [Option.bind_some,Option.some.injEq,Prod.mk.injEq] at h
       rw [← h.1,List.length_cons,zRr n p.2 q.1 q.2 hr]
theorem zRs {g:List UInt8→Option (β×List UInt8)} {P:β→Prop} (hg:∀ l v l',g l=some (v,l')→P v):∀ (n:Nat) (l:List UInt8) (vs:List β) (l':List UInt8),gRep g n l=some (vs,l')→∀ v∈vs,P v
 | 0,l,vs,l',h=>by simp only [gRep,Option.some.injEq,Prod.mk.injEq] at h;rw [← h.1];simp
 | n+1,l,vs,l',h=>by
   simp only [gRep] at h
   cases hgl:g l with
   | none=>rw [hgl] at h;cases h
   | some p =>
     rw [hgl] at h
     simp only [Option.bind_some] at h
     cases hr:gRep g n p.2 with
     | none=>rw [hr] at h;cases h
     | some q =>
       rw [hr] at h
       simp only [Option.bind_some,Option.some.injEq,Prod.mk.injEq] at h
       rw [← h.1]
       intro v hv
       simp only [List.mem_cons] at hv
       rcases hv with rfl | hv
       ·exact hg l _ _ hgl
       ·exact zRs hg n p.2 q.1 q.2 hr v hv
theorem loop_sim {X Y:Type} {f:X→Option (X ⊕ Y)} (mk:List β→Nat→σ→X) (fin:List β→σ→Y) (n:Nat) (g:List UInt8→Option (β×List UInt8))
  (hbad:∀ out i s,i≤n→Re s none→f (mk out i s)=some (.inr (fin out s)))
  (hend:∀ out s l,Re s (some l)→f (mk out n s)=some (.inr (fin out s)))
  (hstep:∀ out i s l,i<n→out.length=i→Re s (some l)→∃ v s',f (mk out i s)=some (.inl (mk (out++[v]) (i+1) s'))∧Re s' ((g l).map (·.2))∧∀ v' l',g l=some (v',l')→v=v') :
  ∀ (out:List β) (i:Nat) (s:σ) (st:Option (List UInt8)),i≤n→(∀ l,st=some l→out.length=i)→Re s st →
   ∃ out' s',zAF f (mk out i s)=some (fin out' s')∧Re s' ((st.bind (gRep g (n - i))).map (·.2))∧∀ vs l',st.bind (gRep g (n - i))=some (vs,l')→out'=out++vs:=by
 intro out i s st hi
 generalize hm:n - i=m
 induction m generalizing out i s st with
 | zero =>
   intro ho h
   have:i=n:=by omega
   subst this
   rw [zAn]
   cases st with
   | none=>rw [hbad out i s hi h];exact ⟨out,s,rfl,h,fun _ _ h=>by cases h⟩
   | some l =>
     rw [hend out s l h]
     exact ⟨out,s,rfl,h,fun vs l' h=>by simp only [Option.bind_some,gRep,Option.some.injEq,Prod.mk.injEq] at h;simp [← h.1]⟩
 | succ m ih =>
   intro ho h
   rw [zAn]
   cases st with
   | none=>rw [hbad out i s hi h];exact ⟨out,s,rfl,h,fun _ _ h=>by cases h⟩
   | some l =>
     obtain ⟨v,s',h1,h2,h3⟩:=hstep out i s l (by omega) (ho l rfl) h
     rw [h1]
     obtain ⟨out',s'',q1,q2,q3⟩:=ih (out++[v]) (i+1) s' ((g l).map (·.2)) (by omega) (by omega) (by intro l' hl;simp [ho l rfl]) h2
     refine ⟨out',s'',q1,?_,fun vs l' hv=>?_⟩
     ·cases hg:g l with
      | none=>rw [hg] at q2;simpa [gRep,hg] using q2
      | some p =>
        rw [hg] at q2
        simp only [Option.map_some,Option.bind_some] at q2
        simp only [Option.bind_some,gRep,hg]
        cases hr:gRep g m p.2 with
        | none=>rw [hr] at q2;exact q2
        | some q=>rw [hr] at q2;exact q2
     ·cases hg:g l with
      | none=>simp [gRep,hg] at hv
      | some p =>
        obtain ⟨a,b⟩:=p
        have e:=h3 a b hg
        subst e
        rw [hg] at q3
        simp only [Option.map_some,Option.bind_some] at q3
        simp only [Option.bind_some,gRep,hg] at hv
        cases hr:gRep g m b with
        | none=>rw [hr] at hv;cases hv
        | some q =>
          rw [hr] at hv
          simp only [Option.bind_some,Option.some.injEq,Prod.mk.injEq] at hv
          rw [q3 q.1 q.2 hr,← hv.1]
          simp
end
def g1:List UInt8→Option (Int×List UInt8)
 | []=>none
 | x :: l=>some ((x.toNat:Int),l)
def g2 (l:List UInt8):Option (Int×List UInt8):=(g1 l).bind fun p=>(g1 p.2).bind fun q=>some (p.1*256+q.1,q.2)
def gT (n:Int) (l:List UInt8):Option (List UInt8×List UInt8):=if n≤l.length then some (l.take n.toNat,l.drop n.toNat) else none
theorem zCw {l l':List UInt8} {v:Int} (h:g1 l=some (v,l')):0≤v∧v≤255:=by
 cases l with
 | nil=>cases h
 | cons x l =>
   simp only [g1,Option.some.injEq,Prod.mk.injEq] at h
   have:=x.toNat_lt
   omega
theorem zUP {l l':List UInt8} {v:Int} (h:g2 l=some (v,l')):0≤v∧v≤65535:=by
 unfold g2 at h
 cases h1:g1 l with
 | none=>rw [h1] at h;cases h
 | some p =>
   rw [h1] at h
   simp only [Option.bind_some] at h
   cases h2:g1 p.2 with
   | none=>rw [h2] at h;cases h
   | some q =>
     rw [h2] at h
     simp only [Option.bind_some,Option.some.injEq,Prod.mk.injEq] at h
     have:=zCw (l:=l) (v:=p.1) (l':=p.2) h1
     have:=zCw (l:=p.2) (v:=q.1) (l':=q.2) h2
     omega
end Go.TM
end
section
namespace Go.Proofs.YtdpapeledldifaaGreat
open Go Go.AM Go.TM
def Re3 (s0:List UInt8) (p:List UInt8×Int×Bool) (st:Option (List UInt8)):Prop :=
 p.1=s0∧0≤p.2.1∧p.2.1≤s0.length∧s0.length≤900∧(st=none→p.2.2=true)∧∀ l,st=some l→p.2.2=false∧l=s0.drop p.2.1.toNat
def Re2 (p:List UInt8×Bool) (st:Option (List UInt8)):Prop :=
 p.1.length≤900∧(st=none→p.2=true)∧∀ l,st=some l→p.2=false∧l=p.1
theorem wI {x:Int} (h1 : -9223372036854775808≤x) (h2:x≤9223372036854775807):IntKind.wrap .i64 x=x:=AM.wrapI h1 h2
theorem Re3.bad {s0:List UInt8} {p:List UInt8×Int×Bool} {st:Option (List UInt8)} (h:Re3 s0 p st):Re3 s0 (p.1,p.2.1,true) none:=⟨h.1,h.2.1,h.2.2.1,h.2.2.2.1,fun _=>rfl,fun _ h=>by cases h⟩
theorem Re2.bad {p:List UInt8×Bool} {st:Option (List UInt8)} (h:Re2 p st):Re2 (p.1,true) none:=⟨h.1,fun _=>rfl,fun _ h=>by cases h⟩
theorem s221 {s0:List UInt8} (s:List UInt8×Int×Bool) (st:Option (List UInt8)) (h:Re3 s0 s st):Sm (Re3 s0) (F221 s) (st.bind g1):=by
 obtain ⟨o0,o1,o2⟩:=s
 obtain ⟨h1,h2,h3,h4,h5,h6⟩:=h
 simp only at h1 h2 h3 h5 h6
 subst h1
 cases st with
 | none =>
   have:=h5 rfl
   subst this
   refine ⟨0,(o0,o1,true),rfl,⟨rfl,h2,h3,h4,fun _=>rfl,fun _ h=>by cases h⟩,fun _ _ h=>by cases h⟩
 | some l =>
   obtain ⟨rfl,rfl⟩:=h6 l rfl
   simp only [F221,zAK,zAE,zAJ]
   by_cases hl:(o0.length:Int)≤o1
   ·rw [if_pos hl]
    have:o0.drop o1.toNat=[]:=List.drop_eq_nil_of_le (by omega)
    refine ⟨_,_,rfl,?_,?_⟩
    ·simp only [Option.bind_some,this,g1,Option.map_none]
     exact ⟨rfl,h2,h3,h4,fun _=>rfl,fun _ h=>by cases h⟩
    ·intro v' l' hv
     simp [this,g1] at hv
   ·rw [if_neg hl]
    rw [wI (x:=o1+1) (by omega) (by omega),wI (x:=o1+1 - 1) (by omega) (by omega),show o1+1 - 1=o1 by omega]
    have hn:o1.toNat<o0.length:=by omega
    rw [zAU h2,zAR hn]
    have hr:=o0[o1.toNat].toNat_lt
    rw [wI (by omega) (by omega)]
    refine ⟨_,_,rfl,?_,?_⟩
    ·simp only [Option.bind_some,zBM hn,g1,Option.map_some]
     refine ⟨rfl,by simp only;omega,by simp only;omega,h4,(fun h=>by cases h),fun l h=>⟨rfl,?_⟩⟩
     simp only [Option.some.injEq] at h
     rw [← h]
     simp only
     rw [show (o1+1).toNat=o1.toNat+1 by omega]
    ·intro v' l' hv
     simp only [Option.bind_some,zBM hn,g1,Option.some.injEq,Prod.mk.injEq] at hv
     exact hv.1
theorem s222 {s0:List UInt8} (s:List UInt8×Int×Bool) (st:Option (List UInt8)) (h:Re3 s0 s st):Sm (Re3 s0) (F222 s) (st.bind g2):=by
 have e:st.bind g2=(st.bind g1).bind fun p=>(g1 p.2).bind fun q=>some (p.1*256+q.1,q.2):=by cases st <;> rfl
 rw [e]
 refine Sm.bind (k':=fun a l=>(g1 l).bind fun q=>some (a*256+q.1,q.2)) (s221 s st h) fun v s1 st1 h1 e1=>?_
 have e:(st1.bind fun l=>(g1 l).bind fun q=>some (v*256+q.1,q.2))=(st1.bind g1).bind fun q=>some (v*256+q.1,q.2):=by cases st1 <;> rfl
 rw [e]
 refine Sm.bind (k':=fun a l=>some (v*256+a,l)) (s221 s1 st1 h1) fun v2 s2 st2 h2 e2=>?_
 cases st2 with
 | none=>exact ⟨_,_,rfl,h2,fun _ _ h=>by cases h⟩
 | some l2 =>
   have q2:=e2 l2 rfl
   cases st1 with
   | none=>cases q2
   | some l1 =>
     have q1:=e1 l1 rfl
     cases st with
     | none=>cases q1
     | some l =>
       have r1:=zCw (l:=l) q1
       have r2:=zCw (l:=l1) q2
       refine ⟨_,_,rfl,h2,fun v' l' hv=>?_⟩
       simp only [Option.bind_some,Option.some.injEq,Prod.mk.injEq] at hv
       rw [← hv.1]
       rw [wI (x:=v*256) (by omega) (by omega),wI (by omega) (by omega)]
theorem s219 {s0:List UInt8} (n:Int) (s:List UInt8×Int×Bool) (st:Option (List UInt8)) (h:Re3 s0 s st) (hn:∀ l,st=some l→0≤n∧n≤65535):Sm (Re3 s0) (F219 (n,s)) (st.bind (gT n)):=by
 obtain ⟨o0,o1,o2⟩:=s
 obtain ⟨h1,h2,h3,h4,h5,h6⟩:=h
 simp only at h1 h2 h3 h5 h6
 subst h1
 cases st with
 | none =>
   have:=h5 rfl
   subst this
   refine ⟨[],(o0,o1,true),rfl,⟨rfl,h2,h3,h4,fun _=>rfl,fun _ h=>by cases h⟩,fun _ _ h=>by cases h⟩
 | some l =>
   obtain ⟨rfl,rfl⟩:=h6 l rfl
   obtain ⟨n0,n1⟩:=hn _ rfl
   simp only [F219,zAK,zAE,zAJ]
   rw [wI (x:=o1+n) (by omega) (by omega),wI (x:=o1+n - n) (by omega) (by omega),show o1+n - n=o1 by omega]
   by_cases hl:(o0.length:Int)<o1+n
   ·rw [if_pos hl]
    refine ⟨_,_,rfl,?_,?_⟩
    ·have:¬ n≤((o0.drop o1.toNat).length:Int):=by simp only [List.length_drop];omega
     simp only [Option.bind_some,gT,if_neg this,Option.map_none]
     exact ⟨rfl,h2,h3,h4,fun _=>rfl,fun _ h=>by cases h⟩
    ·intro v' l' hv
     have:¬ n≤((o0.drop o1.toNat).length:Int):=by simp only [List.length_drop];omega
     simp only [Option.bind_some,gT,if_neg this] at hv
     cases hv
   ·rw [if_neg hl]
    have hle:n≤((o0.drop o1.toNat).length:Int):=by simp only [List.length_drop];omega
    rw [zCg,zCg,zAU h2,zAU (by omega),zAU (by omega)]
    refine ⟨_,_,rfl,?_,?_⟩
    ·simp only [Option.bind_some,gT,if_pos hle,Option.map_some]
     refine ⟨rfl,by simp only;omega,by simp only;omega,h4,(fun h=>by cases h),fun l h=>⟨rfl,?_⟩⟩
     simp only [Option.some.injEq] at h
     rw [← h,List.drop_drop]
     simp only
     rw [show (o1+n).toNat=o1.toNat+n.toNat by omega]
    ·intro v' l' hv
     simp only [Option.bind_some,gT,if_pos hle,Option.some.injEq,Prod.mk.injEq] at hv
     rw [← hv.1,show (o1+n).toNat=o1.toNat+n.toNat by omega,List.drop_take]
     congr 1
     omega
theorem i57 (n:Int) (s:List UInt8×Bool) (st:Option (List UInt8)) (h:Re2 s st) (hn:∀ l,st=some l→0≤n):Sm Re2 (F57 (n,s)) (st.bind (gT n)):=by
 obtain ⟨o0,o1⟩:=s
 obtain ⟨h4,h5,h6⟩:=h
 simp only at h4 h5 h6
 cases st with
 | none =>
   have:=h5 rfl
   subst this
   refine ⟨[],(o0,true),rfl,⟨h4,fun _=>rfl,fun _ h=>by cases h⟩,fun _ _ h=>by cases h⟩
 | some l =>
   obtain ⟨rfl,rfl⟩:=h6 l rfl
   have n0:=hn _ rfl
   simp only [F57,zAK,zAE,zAJ]
   by_cases hl:(l.length:Int)<n
   ·rw [if_pos hl]
    refine ⟨_,_,rfl,?_,?_⟩
    ·simp only [Option.bind_some,gT,if_neg (show ¬ n≤(l.length:Int) by omega),Option.map_none]
     exact ⟨h4,fun _=>rfl,fun _ h=>by cases h⟩
    ·intro v' l' hv
     simp only [Option.bind_some,gT,if_neg (show ¬ n≤(l.length:Int) by omega)] at hv
     cases hv
   ·rw [if_neg hl]
    have hle:n≤(l.length:Int):=by omega
    rw [zCg,zAU n0,zAU hle,zCg,zCg,zAU n0,zAU hle,zAU (Int.le_refl _)]
    have et:List.take (Int.toNat (l.length:Int)) l=l:=by rw [show Int.toNat (l.length:Int)=l.length by omega,List.take_length]
    refine ⟨_,_,rfl,?_,?_⟩
    ·simp only [Option.bind_some,gT,if_pos hle,Option.map_some]
     refine ⟨by rw [et];simp only [List.length_drop];omega,(fun h=>by cases h),fun l' h=>⟨rfl,?_⟩⟩
     simp only [Option.some.injEq] at h
     rw [← h,et]
    ·intro v' l' hv
     simp only [Option.bind_some,gT,if_pos hle,Option.some.injEq,Prod.mk.injEq] at hv
     rw [← hv.1,List.drop_zero]
theorem i59 (s:List UInt8×Bool) (st:Option (List UInt8)) (h:Re2 s st):Sm Re2 (F59 s) (st.bind g1):=by
 obtain ⟨v,s1,e1,e2,e3⟩:=i57 1 s st h fun _ _=>by omega
 obtain ⟨o0,o1⟩:=s
 obtain ⟨p0,p1⟩:=s1
 simp only [F59]
 rw [e1,zAB]
 simp only
 cases st with
 | none =>
   have:=e2.2.1 rfl
   simp only at this
   subst this
   exact ⟨_,_,rfl,e2,fun _ _ h=>by cases h⟩
 | some l =>
   cases l with
   | nil =>
     have hb:=e2.2.1 (by simp [gT])
     simp only at hb
     subst hb
     refine ⟨_,_,rfl,?_,fun _ _ h=>by simp [g1] at h⟩
     simpa [gT,g1] using e2
   | cons x l =>
     have hg:(some (x :: l)).bind (gT 1)=some ([x],l):=by simp [gT];omega
     rw [hg] at e2 e3
     have:=e3 _ _ rfl
     subst this
     have hb:=(e2.2.2 l rfl).1
     simp only at hb
     subst hb
     have hr:=x.toNat_lt
     simp only [zAK,atO,List.getElem?_cons_zero,Int.toNat_zero]
     rw [wI (by omega) (by omega)]
     exact ⟨_,_,rfl,e2,fun v' l' hv=>by simp only [Option.bind_some,g1,Option.some.injEq,Prod.mk.injEq] at hv;exact hv.1⟩
theorem i61 (s:List UInt8×Bool) (st:Option (List UInt8)) (h:Re2 s st):Sm Re2 (F61 s) (st.bind g2):=by
 have e:st.bind g2=(st.bind g1).bind fun p=>(g1 p.2).bind fun q=>some (p.1*256+q.1,q.2):=by cases st <;> rfl
 rw [e]
 refine Sm.bind (k':=fun a l=>(g1 l).bind fun q=>some (a*256+q.1,q.2)) (i59 s st h) fun v s1 st1 h1 e1=>?_
 have e:(st1.bind fun l=>(g1 l).bind fun q=>some (v*256+q.1,q.2))=(st1.bind g1).bind fun q=>some (v*256+q.1,q.2):=by cases st1 <;> rfl
 rw [e]
 refine Sm.bind (k':=fun a l=>some (v*256+a,l)) (i59 s1 st1 h1) fun v2 s2 st2 h2 e2=>?_
 cases st2 with
 | none=>exact ⟨_,_,rfl,h2,fun _ _ h=>by cases h⟩
 | some l2 =>
   have q2:=e2 l2 rfl
   cases st1 with
   | none=>cases q2
   | some l1 =>
     have q1:=e1 l1 rfl
     cases st with
     | none=>cases q1
     | some l =>
       have r1:=zCw (l:=l) q1
       have r2:=zCw (l:=l1) q2
       refine ⟨_,_,rfl,h2,fun v' l' hv=>?_⟩
       simp only [Option.bind_some,Option.some.injEq,Prod.mk.injEq] at hv
       rw [← hv.1]
       rw [wI (x:=256*v) (by omega) (by omega),wI (by omega) (by omega)]
       omega
end Go.Proofs.YtdpapeledldifaaGreat
end
section
namespace Go.TM
open Go.AM
section
variable {σ α β R Y:Type}
theorem zAq {r:Option α} {k:α→Option (Y ⊕ R)} {k2:Y→Option R}:bindE (zAA r k) k2=zAA r fun x=>bindE (k x) k2:=by cases r <;> rfl
theorem zBy {c:Prop} [Decidable c] (A B:Y) (k:Y→Option R):bindE (cndO (decide c) (some (.inl A)) (some (.inl B))) k=k (if c then A else B):=by by_cases h:c <;> simp [h]
variable {Re:σ→Option (List UInt8)→Prop}
theorem Sm.step {F:Option (α×σ)} {g:List UInt8→Option (α×List UInt8)} {st:Option (List UInt8)} {k:α×σ→Option (β×σ)} {k':α→List UInt8→Option (β×List UInt8)}
  (hF:Sm Re F (st.bind g)) (hk:∀ v s' st',Re s' st'→(∀ l',st'=some l'→∃ l,st=some l∧g l=some (v,l'))→Sm Re (k (v,s')) (st'.bind (k' v))) :
  Sm Re (zAA F k) (st.bind fun l=>(g l).bind fun p=>k' p.1 p.2):=by
 have e:(st.bind fun l=>(g l).bind fun p=>k' p.1 p.2)=(st.bind g).bind fun p=>k' p.1 p.2:=by cases st <;> rfl
 rw [e]
 refine Sm.bind hF fun v s' st' h1 h2=>hk v s' st' h1 fun l' hl=>?_
 have:=h2 l' hl
 cases st with
 | none=>cases this
 | some l=>exact ⟨l,rfl,this⟩
theorem zAs {c:Prop} [Decidable c] (st:Option (List UInt8)) (M:List UInt8→Option (β×List UInt8)):(st.bind fun l=>if c then none else M l)=(if c then none else st).bind M:=by
 by_cases h:c <;> cases st <;> simp [h]
theorem zIy {X Y:Type} {f:X→Option (X ⊕ Y)} (mk:List β→Nat→σ→X) (fin:List β→σ→Y) (n:Nat) (g:List UInt8→Option (β×List UInt8)) (s:σ) (st:Option (List UInt8)) (h:Re s st)
  (hbad:∀ out i s,Re s none→f (mk out i s)=some (.inr (fin out s)))
  (hg:∀ l,st=some l→(∀ out s l,Re s (some l)→f (mk out n s)=some (.inr (fin out s))) ∧
   ∀ out i s l,i<n→out.length=i→Re s (some l)→∃ v s',f (mk out i s)=some (.inl (mk (out++[v]) (i+1) s'))∧Re s' ((g l).map (·.2))∧∀ v' l',g l=some (v',l')→v=v') :
   ∃ out' s',zAF f (mk [] 0 s)=some (fin out' s')∧Re s' ((st.bind (gRep g n)).map (·.2))∧∀ vs l',st.bind (gRep g n)=some (vs,l')→out'=vs:=by
 cases st with
 | none =>
   rw [zAn,hbad [] 0 s h]
   exact ⟨[],s,rfl,h,fun _ _ h=>by cases h⟩
 | some l =>
   obtain ⟨h1,h2⟩:=hg l rfl
   obtain ⟨o,s',q1,q2,q3⟩:=loop_sim mk fin n g (fun out i s _ h=>hbad out i s h) h1 h2 [] 0 s (some l) (Nat.zero_le _) (fun _ _=>rfl) h
   exact ⟨o,s',q1,q2,fun vs l' h=>by simpa using q3 vs l' h⟩
theorem Sm.loop {X Y γ:Type} {f:X→Option (X ⊕ (Y ⊕ (γ×σ)))} (mk:List β→Nat→σ→X) (fin:List β→σ→Y) (n:Nat) (g:List UInt8→Option (β×List UInt8)) {s:σ} {st:Option (List UInt8)} (h:Re s st)
  {k:Y→Option (γ×σ)} {k':List β→List UInt8→Option (γ×List UInt8)} {x0:X} (hx:x0=mk [] 0 s)
  (hbad:∀ out i s,Re s none→f (mk out i s)=some (.inr (.inl (fin out s))))
  (hg:∀ l,st=some l→(∀ out s l,Re s (some l)→f (mk out n s)=some (.inr (.inl (fin out s)))) ∧
   ∀ out i s l,i<n→out.length=i→Re s (some l)→∃ v s',f (mk out i s)=some (.inl (mk (out++[v]) (i+1) s'))∧Re s' ((g l).map (·.2))∧∀ v' l',g l=some (v',l')→v=v')
  (hk:∀ out s' st',Re s' st'→Sm Re (k (fin out s')) (st'.bind (k' out))) :
  Sm Re (bindE (zAF f x0) k) (st.bind fun l=>(gRep g n l).bind fun p=>k' p.1 p.2):=by
 obtain ⟨o,s',q1,q2,q3⟩:=zIy mk (fun out s=>(.inl (fin out s):Y ⊕ (γ×σ))) n g s st h hbad hg
 rw [hx,q1,zAE]
 have:=hk o s' _ q2
 have e:(st.bind fun l=>(gRep g n l).bind fun p=>k' p.1 p.2)=(st.bind (gRep g n)).bind fun p=>k' p.1 p.2:=by cases st <;> rfl
 rw [e]
 cases hm:st.bind (gRep g n) with
 | none=>rw [hm] at this;exact this
 | some p =>
   rw [hm] at this
   rw [q3 p.1 p.2 hm] at this ⊢
   exact this
theorem Sm.one {X Y:Type} {r:Option (β×σ)} {m:Option (β×List UInt8)} {q:Option (X ⊕ Y)} {mk:β→σ→X} (h:Sm Re r m) (hq:∀ v s,r=some (v,s)→q=some (.inl (mk v s))) :
  ∃ v s',q=some (.inl (mk v s'))∧Re s' (m.map (·.2))∧∀ v' l',m=some (v',l')→v=v':=by
 obtain ⟨v,s,h1,h2,h3⟩:=h
 exact ⟨v,s,hq v s h1,h2,h3⟩
end
end Go.TM
namespace Go.Proofs.YtdpapeledldifaaGreat
open Go Go.AM Go.TM
theorem Re3.cut {s0 a:List UInt8} {b:Int} {t:Bool} {st:Option (List UInt8)} (c:Prop) [Decidable c] (h:Re3 s0 (a,b,t) st):Re3 s0 (a,b,if c then true else t) (if c then none else st):=by
 by_cases hc:c
 ·simp only [if_pos hc];exact h.bad
 ·simp only [if_neg hc];exact h
def gEnt (t:Int) (l:List UInt8):Option (Cst×List UInt8) :=
 if t=1 then (g1 l).bind fun p=>(gT p.1 p.2).bind fun q=>some ((1,q.1,0,0),q.2)
 else if t=2 then (g2 l).bind fun p=>some ((2,[],p.1,0),p.2)
 else if t=3∨t=4∨t=5∨t=6 then (g2 l).bind fun p=>(g2 p.2).bind fun q=>some ((t,[],p.1,q.1),q.2)
 else none
def zCb (l:List UInt8):Option (Cst×List UInt8):=(g1 l).bind fun p=>gEnt p.1 p.2
theorem s280 {s0:List UInt8} (s:List UInt8×Int×Bool) (st:Option (List UInt8)) (h:Re3 s0 s st):Sm (Re3 s0) (F280 s) (st.bind zCb):=by
 obtain ⟨o0,o1,o2⟩:=s
 simp only [F280]
 refine Sm.step (s221 _ st h) (k':=gEnt) fun v ⟨a,b,c⟩ st1 h1 e1=>?_
 simp only [zAJ,zAw]
 by_cases t1:v=1
 ·subst t1
  simp only [gEnt,if_true,zAq,zAE]
  refine Sm.step (s221 _ st1 h1) (k':=fun n l=>(gT n l).bind fun q=>some ((1,q.1,0,0),q.2)) fun n ⟨a2,b2,c2⟩ st2 h2 e2=>?_
  simp only [zAq,zAE]
  refine Sm.step (s219 n _ st2 h2 fun l hl=>?_) (k':=fun q l=>some ((1,q,0,0),l)) fun n ⟨a3,b3,c3⟩ st3 h3 e3=>Sm.ret h3 _
  obtain ⟨_,_,hg⟩:=e2 l hl
  have:=zCw hg
  omega
 ·by_cases t2:v=2
  ·subst t2
   simp only [gEnt,t1,if_false,if_true,zAq,zAE]
   exact Sm.step (s222 _ st1 h1) (k':=fun n l=>some ((2,[],n,0),l)) fun n ⟨a2,b2,c2⟩ st2 h2 e2=>Sm.ret h2 _
  ·by_cases t3:v=3∨v=4∨v=5∨v=6
   ·have two:Sm (Re3 s0) (zAA (F222 (a,b,c)) fun x=>match x with
      | (y4,y5,y6,y7)=>zAA (F222 (y5,y6,y7)) fun x=>match x with
        | (y8,y9,y10,y11)=>some ((v,([]:List UInt8),y4,y8),y9,y10,y11)) (st1.bind fun l=>(g2 l).bind fun p=>(g2 p.2).bind fun q=>some ((v,[],p.1,q.1),q.2)) :=
     Sm.step (s222 _ st1 h1) (k':=fun n l=>(g2 l).bind fun q=>some ((v,[],n,q.1),q.2)) fun n ⟨a2,b2,c2⟩ st2 h2 e2 =>
      Sm.step (s222 _ st2 h2) (k':=fun q l=>some ((v,[],n,q),l)) fun n ⟨a3,b3,c3⟩ st3 h3 e3=>Sm.ret h3 _
    rcases t3 with rfl | rfl | rfl | rfl <;>
    ·simp only [gEnt,Int.reduceEq,↓reduceIte,zAq,zAE,zAM,decide_true,or_true,true_or]
     exact two
   ·have h3:¬ v=3:=fun h=>t3 (.inl h)
    have h4:¬ v=4:=fun h=>t3 (.inr (.inl h))
    have h5:¬ v=5:=fun h=>t3 (.inr (.inr (.inl h)))
    have h6:¬ v=6:=fun h=>t3 (.inr (.inr (.inr h)))
    simp only [t1,t2,h3,h4,h5,h6,↓reduceIte,zAE,zAK,decide_false]
    refine ⟨_,_,rfl,?_,?_⟩
    ·cases st1 <;> simp only [Option.bind_none,Option.bind_some,gEnt,t1,t2,h3,h4,h5,h6,↓reduceIte,or_false] <;> exact h1.bad
    ·intro _ _ h;cases st1 <;> simp only [Option.bind_none,Option.bind_some,gEnt,t1,t2,h3,h4,h5,h6,↓reduceIte,or_false] at h <;> cases h
theorem i60 (s:List UInt8×Bool) (st:Option (List UInt8)) (h:Re2 s st):Sm Re2 (F60 s) (st.bind zCb):=by
 obtain ⟨o0,o1⟩:=s
 simp only [F60]
 refine Sm.step (i59 _ st h) (k':=gEnt) fun v ⟨a,c⟩ st1 h1 e1=>?_
 simp only [zAJ,zAw]
 by_cases t1:v=1
 ·subst t1
  simp only [gEnt,if_true,zAq,zAE]
  refine Sm.step (i59 _ st1 h1) (k':=fun n l=>(gT n l).bind fun q=>some ((1,q.1,0,0),q.2)) fun n ⟨a2,c2⟩ st2 h2 e2=>?_
  simp only [zAq,zAE]
  refine Sm.step (i57 n _ st2 h2 fun l hl=>?_) (k':=fun q l=>some ((1,q,0,0),l)) fun n ⟨a3,c3⟩ st3 h3 e3=>Sm.ret h3 _
  obtain ⟨_,_,hg⟩:=e2 l hl
  have:=zCw hg
  omega
 ·by_cases t2:v=2
  ·subst t2
   simp only [gEnt,t1,if_false,if_true,zAq,zAE]
   exact Sm.step (i61 _ st1 h1) (k':=fun n l=>some ((2,[],n,0),l)) fun n ⟨a2,c2⟩ st2 h2 e2=>Sm.ret h2 _
  ·by_cases t3:v=3∨v=4∨v=5∨v=6
   ·have two:Sm Re2 (zAA (F61 (a,c)) fun x=>match x with
      | (y4,y5,y7)=>zAA (F61 (y5,y7)) fun x=>match x with
        | (y8,y9,y11)=>some ((v,([]:List UInt8),y4,y8),y9,y11)) (st1.bind fun l=>(g2 l).bind fun p=>(g2 p.2).bind fun q=>some ((v,[],p.1,q.1),q.2)) :=
     Sm.step (i61 _ st1 h1) (k':=fun n l=>(g2 l).bind fun q=>some ((v,[],n,q.1),q.2)) fun n ⟨a2,c2⟩ st2 h2 e2 =>
      Sm.step (i61 _ st2 h2) (k':=fun q l=>some ((v,[],n,q),l)) fun n ⟨a3,c3⟩ st3 h3 e3=>Sm.ret h3 _
    rcases t3 with rfl | rfl | rfl | rfl <;>
    ·simp only [gEnt,Int.reduceEq,↓reduceIte,zAq,zAE,zAM,decide_true,or_true,true_or]
     exact two
   ·have h3:¬ v=3:=fun h=>t3 (.inl h)
    have h4:¬ v=4:=fun h=>t3 (.inr (.inl h))
    have h5:¬ v=5:=fun h=>t3 (.inr (.inr (.inl h)))
    have h6:¬ v=6:=fun h=>t3 (.inr (.inr (.inr h)))
    simp only [t1,t2,h3,h4,h5,h6,↓reduceIte,zAE,zAK,decide_false]
    refine ⟨_,_,rfl,?_,?_⟩
    ·cases st1 <;> simp only [Option.bind_none,Option.bind_some,gEnt,t1,t2,h3,h4,h5,h6,↓reduceIte,or_false] <;> exact h1.bad
    ·intro _ _ h;cases st1 <;> simp only [Option.bind_none,Option.bind_some,gEnt,t1,t2,h3,h4,h5,h6,↓reduceIte,or_false] at h <;> cases h
def zBa {β:Type} (most:Int) (g:List UInt8→Option (β×List UInt8)) (l:List UInt8):Option (List β×List UInt8) :=
 (g1 l).bind fun p=>if most<p.1 then none else gRep g p.1.toNat p.2
theorem s220 {s0:List UInt8} (s:List UInt8×Int×Bool) (st:Option (List UInt8)) (h:Re3 s0 s st):Sm (Re3 s0) (F220 s) (st.bind (zBa 60 zCb)):=by
 obtain ⟨o0,o1,o2⟩:=s
 simp only [F220]
 refine Sm.step (s221 _ st h) (k':=fun n l=>if 60<n then none else gRep zCb n.toNat l) fun v ⟨a,b,c⟩ st1 h1 e1=>?_
 simp only [zBy]
 rw [show (if (60:Int)<v then (([]:List Cst),v,a,b,true) else ([],v,a,b,c))=([],v,a,b,if 60<v then true else c) by split <;> rfl]
 simp only
 rw [zAs]
 have h2:=h1.cut (60<v)
 have e:((if 60<v then none else st1).bind fun l=>gRep zCb v.toNat l)=(if 60<v then none else st1).bind fun l=>(gRep zCb v.toNat l).bind fun p=>some (p.1,p.2):=by
  congr 1;funext l;cases gRep zCb v.toNat l <;> rfl
 rw [e]
 refine Sm.loop (fun out i s=>(out,v,(i:Int),s)) (fun out s=>(out,s)) v.toNat zCb h2 (k':=fun p l=>some (p,l)) rfl ?_ ?_ ?_
 ·intro out i ⟨a,b,c⟩ hs
  have:=hs.2.2.2.2.1 rfl
  simp only at this
  subst this
  by_cases hi:(i:Int)<v <;> simp only [hi,decide_true,decide_false,zAM,zAK,Bool.not_true,zAH]
 ·intro l hl
  have hv:0≤v∧v≤60:=by
   split at hl
   ·cases hl
   ·obtain ⟨_,_,hg⟩:=e1 l hl
    have:=zCw hg
    omega
  refine ⟨fun out ⟨a,b,c⟩ l hs=>?_,fun out i ⟨a,b,c⟩ l hi ho hs=>?_⟩
  ·have hi:¬ ((v.toNat:Int)<v):=by omega
   simp only [hi,decide_false,zAK,zAH]
  ·have hi':(i:Int)<v:=by omega
   have hc:=(hs.2.2.2.2.2 l rfl).1
   simp only at hc
   subst hc
   obtain ⟨w,⟨a2,b2,c2⟩,r1,r2,r3⟩:=s280 (a,b,false) (some l) hs
   simp only [hi',decide_true,zAM,Bool.not_false,zAE,r1,zAB]
   rw [zCg,zAU (by omega),zAU (by omega),wI (by omega) (by omega)]
   exact ⟨w,_,rfl,r2,r3⟩
 ·intro out ⟨a,b,c⟩ st' hs
  exact Sm.ret hs _
end Go.Proofs.YtdpapeledldifaaGreat
end
