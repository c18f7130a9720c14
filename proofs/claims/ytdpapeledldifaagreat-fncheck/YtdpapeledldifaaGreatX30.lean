/- Part 31 of the proof that the law FnCheck holds of every input; no condition. -/
import Derived.Test.YtdpapeledldifaaGreatX29
set_option autoImplicit true
set_option relaxedAutoImplicit true
set_option linter.all false
noncomputable section
namespace Go.Proofs.YtdpapeledldifaaGreat
open Go Go.AM Go.TM
open Go.Proofs.Tryz
open Sum (inl inr)
set_option maxRecDepth 100000
set_option maxHeartbeats 4000000
abbrev ti227:SPat:=⟨[(0,.sl zBH),(1,.sl zBH)],[]⟩
abbrev to227:SPat:=⟨[(4,.b)],[]⟩
abbrev ts227_4:SPat:=⟨[(0,.sl zBH),(1,.sl zBH),(12,.i .i64),(13,.i .i64)],[]⟩
abbrev zKn:SPat:=⟨[],[]⟩
def tv227:Nat→Option SPat:=fun k=>bif k == 4 then some ts227_4 else bif k == 2000000 then some zKn else none
def tp227:Nat→List Nat×Plan:=fun id=>bif id == 6 then ([0,1,2,3,4,5,6,7,8],.fin) else ([],.fin)
def F227:List (Int×Int)×List (Int×Int)→Option (Bool):=fun (s1,s2) =>
 cndO (!decide ((s1.length:Int)=(s2.length:Int)))
 (some (false))
 (bindE (zAF (fun (s11,s21,v12,v13) =>
 cndO (decide (v13<v12))
 (grdO (decide (0≤v13)) (atO (s11) v13.toNat fun x=>grdO (decide (0≤v13)) (atO (s21) v13.toNat fun x1=>cndO (!(decide (x.1=x1.1) && (decide (x.2=x1.2) && true)))
 (some (inr (inr false)))
 (some (inl (s11,s21,v12,IntKind.wrap .i64 (v13+1)))))))
 (some (inr (inl ())))) ((s1,s2,(s1.length:Int),(0:Int)))) fun _ =>
 some (true))
def tb227:=insT 227 (mkE 227 true [] ti227 to227 F227 [.tmp 4] 26 []) tb224
theorem ok227:TbOk Tryz.prog tb227:=okI ok224 tp227 tv227 func227 rfl call227
abbrev ti226:SPat:=⟨[(0,.agg (pl [.i .i64,.sl zBH,.sl zBH])),(1,.agg (pl [.i .i64,.sl zBH,.sl zBH]))],[]⟩
abbrev to226:SPat:=⟨[(4,.b)],[]⟩
def F226:(Frm)×Frm→Option (Bool):=fun ((f0,f1,f2),g0,g1,g2) =>
 cndO (decide (f0=g0))
 (zAA (F227 (f1,g1)) fun y =>
 cndO (y)
 (zAA (F227 (f2,g2)) fun y1 =>
 some (y1))
 (some (false)))
 (some (false))
def tb226:=insT 226 (mkE 226 true [] ti226 to226 F226 [.tmp 4] 24 []) tb227
theorem ok226:TbOk Tryz.prog tb226:=okI ok227 noPl noIv func226 rfl call226
abbrev ti227225:SPat:=⟨[(0,.sl zBd),(1,.sl zBd),(2,.fn 226 (pl []))],[]⟩
abbrev to227225:SPat:=⟨[(6,.b)],[]⟩
abbrev zTK:SPat:=⟨[(1,.sl zBd),(2,.fn 226 (pl [])),(15,.sl zBd),(16,.i .i64),(17,.i .i64)],[]⟩
abbrev zGv:SPat:=⟨[],[]⟩
def tv227225:Nat→Option SPat:=fun k=>bif k == 4 then some zTK else bif k == 2000000 then some zGv else none
def F227225:List Frm×List Frm→Option (Bool):=fun (s1,s2) =>
 cndO (!decide ((s1.length:Int)=(s2.length:Int)))
 (some (false))
 (bindE (zAF (fun (s21,v15,v16,v17) =>
 cndO (decide (v17<v16))
 (grdO (decide (0≤v17)) (atO (v15) v17.toNat fun x=>grdO (decide (0≤v17)) (atO (s21) v17.toNat fun x1=>zAA (F226 ((x.1,x.2.1,x.2.2),x1.1,x1.2.1,x1.2.2)) fun y =>
 cndO (!y)
 (some (inr (inr false)))
 (some (inl (s21,v15,v16,IntKind.wrap .i64 (v17+1)))))))
 (some (inr (inl ())))) ((s2,s1,(s1.length:Int),(0:Int)))) fun _ =>
 some (true))
def zRy:=insT 227225 (mkE 225 true [] ti227225 to227225 F227225 [.tmp 6] 32 []) tb226
theorem ok227225:TbOk Tryz.prog zRy:=okI ok226 noPl tv227225 func225 rfl call225
abbrev ti151:SPat:=⟨[(0,.agg (pl plM)),(1,.agg (pl plM))],[]⟩
abbrev to151:SPat:=⟨[(4,.b)],[]⟩
def F151:(Mth)×Mth→Option (Bool):=fun ((a0,a1,a2,a3,a4,a5,a6,a7),b0,b1,b2,b3,b4,b5,b6,b7) =>
 cndO (decide (a0=b0))
 (cndO (decide (a1=b1))
 (cndO (decide (a2=b2))
 (cndO (decide (a3=b3))
 (cndO (decide (a4=b4))
 (cndO (decide (a5=b5))
 (zAA (F224 (a6,b6)) fun y =>
 cndO (y)
 (zAA (F227225 (a7,b7)) fun y1 =>
 some (y1))
 (some (false)))
 (some (false)))
 (some (false)))
 (some (false)))
 (some (false)))
 (some (false)))
 (some (false))
def tb151:=insT 151 (mkE 151 true [] ti151 to151 F151 [.tmp 4] 59 []) zRy
theorem ok151:TbOk Tryz.prog tb151:=okI ok227225 noPl noIv func151 rfl call151
abbrev ti152150:SPat:=⟨[(0,.sl tg53),(1,.sl tg53),(2,.fn 151 (pl []))],[]⟩
abbrev to152150:SPat:=⟨[(6,.b)],[]⟩
abbrev zTO:SPat:=⟨[(1,.sl tg53),(2,.fn 151 (pl [])),(15,.sl tg53),(16,.i .i64),(17,.i .i64)],[]⟩
abbrev zGz:SPat:=⟨[],[]⟩
def tv152150:Nat→Option SPat:=fun k=>bif k == 4 then some zTO else bif k == 2000000 then some zGz else none
def F152150:List Mth×List Mth→Option (Bool):=fun (s1,s2) =>
 cndO (!decide ((s1.length:Int)=(s2.length:Int)))
 (some (false))
 (bindE (zAF (fun (s21,v15,v16,v17) =>
 cndO (decide (v17<v16))
 (grdO (decide (0≤v17)) (atO (v15) v17.toNat fun x=>grdO (decide (0≤v17)) (atO (s21) v17.toNat fun x1=>zAA (F151 ((x.1,x.2.1,x.2.2.1,x.2.2.2.1,x.2.2.2.2.1,x.2.2.2.2.2.1,x.2.2.2.2.2.2.1,x.2.2.2.2.2.2.2),x1.1,x1.2.1,x1.2.2.1,x1.2.2.2.1,x1.2.2.2.2.1,x1.2.2.2.2.2.1,x1.2.2.2.2.2.2.1,x1.2.2.2.2.2.2.2)) fun y =>
 cndO (!y)
 (some (inr (inr false)))
 (some (inl (s21,v15,v16,IntKind.wrap .i64 (v17+1)))))))
 (some (inr (inl ())))) ((s2,s1,(s1.length:Int),(0:Int)))) fun _ =>
 some (true))
def zSF:=insT 152150 (mkE 150 true [] ti152150 to152150 F152150 [.tmp 6] 32 []) tb151
theorem ok152150:TbOk Tryz.prog zSF:=okI ok151 noPl tv152150 func150 rfl call150
abbrev ti68:SPat:=⟨[(0,.agg (pl plC)),(1,.agg (pl plC))],[]⟩
abbrev to68:SPat:=⟨[(4,.b)],[]⟩
def F68:(Cls)×Cls→Option (Bool):=fun ((a0,a1,a2,a3,a4,a5,a6),b0,b1,b2,b3,b4,b5,b6) =>
 zAA (F147 (a0,b0)) fun y =>
 cndO (y)
 (cndO (decide (a1=b1))
 (cndO (decide (a2=b2))
 (cndO (decide (a3=b3))
 (zAA (F148 (a4,b4)) fun y1 =>
 cndO (y1)
 (zAA (F149 (a5,b5)) fun y2 =>
 cndO (y2)
 (zAA (F152150 (a6,b6)) fun y3 =>
 some (y3))
 (some (false)))
 (some (false)))
 (some (false)))
 (some (false)))
 (some (false)))
 (some (false))
def tb68:=insT 68 (mkE 68 true [] ti68 to68 F68 [.tmp 4] 52 []) zSF
theorem ok68:TbOk Tryz.prog tb68:=okI ok152150 noPl noIv func68 rfl call68
abbrev ti20:SPat:=⟨[(0,.agg (pl plC))],[]⟩
abbrev to20:SPat:=⟨[(2,.s)],[]⟩
def F20:Cls→Option (List UInt8):=fun (c0,c1,c2,c3,c4,c5,c6) =>
 zAA (F66 (c0,c1,c2,c3,c4,c5,c6)) fun y =>
 cndO (!y)
 (some ([]))
 (zAA (F67 (c0,c1,c2,c3,c4,c5,c6)) fun y1 =>
 zAA (F17 y1) fun (y2,y3,y4,y5,y6,y7,x,x1) =>
 cndO (!y2)
 (some ([]))
 (zAA (F68 ((c0,c1,c2,c3,c4,c5,c6),y3,y4,y5,y6,y7,x,x1)) fun y8 =>
 cndO (!y8)
 (some ([]))
 (some (y1))))
def tb20:=insT 20 (mkE 20 true [] ti20 to20 F20 [.tmp 2] 25 []) tb68
theorem ok20:TbOk Tryz.prog tb20:=okI ok68 noPl noIv func20 rfl call20
abbrev ti28:SPat:=⟨[(0,.sl .byte)],[]⟩
abbrev to28:SPat:=⟨[(2,.ptr 2 0)],[.box 2 (pl plD)]⟩
def F28:List UInt8→Option (Cls):=fun code =>
 zAA (F49 code) fun (y,y1) =>
 zAA (F50 (y,y1)) fun ((y2,y3,y4,y5,y6,y7,x),x1,x2) =>
 some ((y2,y3,y4,y5,y6,y7,x))
def tb28:=insT 28 (mkE 28 false [] ti28 to28 F28 [.cell 2 34] 6 []) tb20
theorem ok28:TbOk Tryz.prog tb28:=okI ok20 noPl noIv func28 rfl call28
abbrev ti162:SPat:=⟨[(0,.agg (pl plC)),(1,.i .i64)],[]⟩
abbrev to162:SPat:=⟨[(4,.b)],[]⟩
def F162:(Cls)×Int→Option (Bool):=fun ((c0,c1,c2,c3,c4,c5,c6),i) =>
 zAA (F124 (c0,i)) fun (y,y1,y2,y3) =>
 some (decide (y=2))
def tb162:=insT 162 (mkE 162 true [] ti162 to162 F162 [.tmp 4] 11 []) tb28
theorem ok162:TbOk Tryz.prog tb162:=okI ok28 noPl noIv func162 rfl call162
abbrev ti111:SPat:=⟨[(0,.agg (pl plC)),(1,.i .i64)],[]⟩
abbrev to111:SPat:=⟨[(4,.s)],[]⟩
def F111:(Cls)×Int→Option (List UInt8):=fun ((c0,c1,c2,c3,c4,c5,c6),i) =>
 zAA (F124 (c0,i)) fun (y,y1,y2,y3) =>
 cndO (decide (y=2))
 (zAA (F124 (c0,y2)) fun (y4,y5,y6,y7) =>
 some (y5))
 (some (y1))
def tb111:=insT 111 (mkE 111 true [] ti111 to111 F111 [.tmp 4] 20 []) tb162
theorem ok111:TbOk Tryz.prog tb111:=okI ok162 noPl noIv func111 rfl call111
abbrev ti164:SPat:=⟨[(0,.i .i64),(1,.ptr 100000 0),(2,.ptr 100001 0)],[.box 100000 (pl plC),.box 100001 (pl [.i .i64])]⟩
abbrev to164:SPat:=⟨[(4,.b)],[.box 100000 (pl plC),.box 100001 (pl [.i .i64])]⟩
def tp164:Nat→List Nat×Plan:=fun id=>bif id == 1 then ([0,1,3,4],(.br 2 [1,0] [3,4] [] (.br 5 [4,3,2,1,0] [] [6] (.br 7 [6,5,4,3,2,1,0] [] [] .fin .fin) .fin) .fin)) else ([],.fin)
def F164:Int×(Cls)×Int→Option (Bool×(Cls)×Int):=fun (g,(o0,o1,o2,o3,o4,o5,o6),o01) =>
 zAA (F111 ((o0,o1,o2,o3,o4,o5,o6),g)) fun y =>
 seqU (seqU (grdO (decide (o0=o0) && (decide (o1=o1) && (decide (o2=o2) && (decide (o3=o3) && (decide (o4=o4) && (decide (o5=o5) && (decide (o6=o6) && true))))))) (some ())) (seqU (grdO (decide (o01=o01)) (some ())) (some ()))) (zAA (F111 ((o0,o1,o2,o3,o4,o5,o6),o01)) fun y1 =>
 some ((decide (y=y1),(o0,o1,o2,o3,o4,o5,o6),o01)))
def tb164:=insT 164 (mkE 164 false [(1,[]),(2,[])] ti164 to164 F164 [.tmp 4] 12 [100000,100001]) tb111
theorem ok164:TbOk Tryz.prog tb164:=okI ok111 tp164 noIv func164 rfl call164
abbrev ti165235:SPat:=⟨[(0,.sl (.int .i64)),(1,.fn 164 (pl [.ptr 100000 0,.ptr 100001 0]))],[.box 100000 (pl plC),.box 100001 (pl [.i .i64])]⟩
abbrev to165235:SPat:=⟨[(4,.i .i64)],[.box 100000 (pl plC),.box 100001 (pl [.i .i64])]⟩
abbrev zTN:SPat:=⟨[(0,.sl (.int .i64)),(1,.fn 164 (pl [.ptr 100000 0,.ptr 100001 0])),(7,.i .i64),(8,.i .i64)],[.box 100000 (pl plC),.box 100001 (pl [.i .i64])]⟩
abbrev zGy:SPat:=⟨[],[.box 100000 (pl plC),.box 100001 (pl [.i .i64])]⟩
def tv165235:Nat→Option SPat:=fun k=>bif k == 2 then some zTN else bif k == 2000000 then some zGy else none
def F165235:List Int×(Cls)×Int→Option (Int×(Cls)×Int):=fun (s,(o0,o1,o2,o3,o4,o5,o6),o01) =>
 bindE (Y:=(Cls)×Int) (zAF (fun (s1,v7,v8,(o02,o11,o21,o31,o41,o51,o61),o03) =>
 cndO (decide (v8<v7))
 (grdO (decide (0≤v8)) (atO (s1) v8.toNat fun x=>zAA (F164 (x,(o02,o11,o21,o31,o41,o51,o61),o03)) fun (y,(y1,y2,y3,y4,y5,x1,x2),x3) =>
 cndO (y)
 (some (inr (inr (v8,(y1,y2,y3,y4,y5,x1,x2),x3))))
 (some (inl (s1,v7,IntKind.wrap .i64 (v8+1),(y1,y2,y3,y4,y5,x1,x2),x3)))))
 (some (inr (inl ((o02,o11,o21,o31,o41,o51,o61),o03))))) ((s,(s.length:Int),(0:Int),(o0,o1,o2,o3,o4,o5,o6),o01))) fun ((o02,o11,o21,o31,o41,o51,o61),o03) =>
 some (((-1:Int),(o02,o11,o21,o31,o41,o51,o61),o03))
def zSD:=insT 165235 (mkE 235 false [(1,[0]),(1,[1])] ti165235 to165235 F165235 [.tmp 4] 19 [100000,100001]) tb164
theorem ok165235:TbOk Tryz.prog zSD:=okI ok164 noPl tv165235 func235 rfl call235
abbrev ti165163:SPat:=⟨[(0,.sl (.int .i64)),(1,.fn 164 (pl [.ptr 100000 0,.ptr 100001 0]))],[.box 100000 (pl plC),.box 100001 (pl [.i .i64])]⟩
abbrev to165163:SPat:=⟨[(4,.b)],[.box 100000 (pl plC),.box 100001 (pl [.i .i64])]⟩
def F165163:List Int×(Cls)×Int→Option (Bool×(Cls)×Int):=fun (s,(o0,o1,o2,o3,o4,o5,o6),o01) =>
 zAA (F165235 (s,(o0,o1,o2,o3,o4,o5,o6),o01)) fun (y,(y1,y2,y3,y4,y5,x,x1),x2) =>
 some ((decide (0≤y),(y1,y2,y3,y4,y5,x,x1),x2))
def zSE:=insT 165163 (mkE 163 false [(1,[0]),(1,[1])] ti165163 to165163 F165163 [.tmp 4] 9 [100000,100001]) zSD
theorem ok165163:TbOk Tryz.prog zSE:=okI ok165235 noPl noIv func163 rfl call163
abbrev ti165:SPat:=⟨[(0,.agg (pl plC))],[]⟩
abbrev to165:SPat:=⟨[(2,.b)],[]⟩
def F165:Cls→Option (Bool):=fun (c0,c1,c2,c3,c4,c5,c6) =>
 some (!decide (andI IntKind.i64 c1 (1:Int)=0))
def tb165:=insT 165 (mkE 165 true [] ti165 to165 F165 [.tmp 2] 7 []) zSE
theorem ok165:TbOk Tryz.prog tb165:=okI ok165163 noPl noIv func165 rfl call165
abbrev ti83:SPat:=⟨[(0,.agg (pl plC))],[]⟩
abbrev to83:SPat:=⟨[(2,.b)],[]⟩
abbrev ts83_4:SPat:=⟨[(1,.ptr 1 0),(31,.sl (.int .i64)),(32,.i .i64),(33,.i .i64)],[.box 1 (pl plC)]⟩
abbrev zNf:SPat:=⟨[(1,.ptr 1 0)],[.box 1 (pl plC)]⟩
abbrev zNe:SPat:=⟨[(1,.ptr 1 0)],[.box 1 (pl plC)]⟩
abbrev zNd:SPat:=⟨[(1,.ptr 1 0),(31,.sl (.int .i64)),(32,.i .i64),(33,.i .i64)],[.box 1 (pl plC)]⟩
def tv83:Nat→Option SPat:=fun k=>bif k == 4 then some ts83_4 else bif k == 1000003 then some zNf else bif k == 2000000 then some zNe else bif k == 2000001 then some zNd else none
def tp83:Nat→List Nat×Plan:=fun id=>bif id == 1 then ([0,1,2],(.br 3 [2,1,0] [] [4,5,6,7,8] (.br 9 [8,7,6,5,4,3,2,1,0] [] [10,11,12,13,14,15,17,18,19] (.br 16 [15,14,13,12,11,10,9,8,7,6,5,4,3,2,1,0] [17,18,19] [] (.br 20 [19,18,17,16,15,14,13,12,11,10,9,8,7,6,5,4,3,2,1,0] [] [21,22] .fin .fin) .fin) .fin) .fin)) else bif id == 9 then ([0,1,2,3,4,5,6,7],(.br 8 [3,2,1,0] [4,5,6,7] [] (.br 9 [8,7,6,5,4,3,2,1,0] [] [] .fin .fin) .fin)) else ([],.fin)
def F83:Cls→Option (Bool):=fun (app0,app1,app2,app3,app4,app5,app6) =>
 bindE (Y:=Cls) (zAA (F162 ((app0,app1,app2,app3,app4,app5,app6),app2)) fun y =>
 cndO (!y)
 (some (inr false))
 (zAA (F162 ((app0,app1,app2,app3,app4,app5,app6),app3)) fun y1 =>
 cndO (!y1)
 (some (inr false))
 (zAA (F111 ((app0,app1,app2,app3,app4,app5,app6),app3)) fun y2 =>
 seqU (seqU (grdO (decide (app0=app0) && (decide (app1=app1) && (decide (app2=app2) && (decide (app3=app3) && (decide (app4=app4) && (decide (app5=app5) && (decide (app6=app6) && true))))))) (some ())) (seqU (grdO (decide (app2=app2)) (some ())) (some ()))) (zAA (F111 ((app0,app1,app2,app3,app4,app5,app6),app2)) fun y3 =>
 cndO (decide (y2=y3))
 (some (inr false))
 (some (inl (app0,app1,app2,app3,app4,app5,app6))))))) fun (o0,o1,o2,o3,o4,o5,o6) =>
 bindE (Y:=Cls) (zAF (fun (v31,v32,v33,o01,o11,o21,o31,o41,o51,o61) =>
 cndO (decide (v33<v32))
 (bindE (Y:=List Int×Int×Int×Cls) (grdO (decide (0≤v33)) (atO (v31) v33.toNat fun x=>zAA (F162 ((o01,o11,o21,o31,o41,o51,o61),x)) fun y =>
 cndO (!y)
 (some (inr (inr (inr false))))
 (grdO (decide (0≤v33) && decide (v33≤(o41.length:Int))) (zAA (F165163 (List.drop (0:Nat) (List.take v33.toNat o41),(o01,o11,o21,o31,o41,o51,o61),x)) fun (y1,(y2,y3,y4,y5,y6,x1,x2),x3) =>
 cndO (y1)
 (some (inr (inr (inr false))))
 (some (inl (v31,v32,v33,y2,y3,y4,y5,y6,x1,x2))))))) fun (v311,v321,v331,o02,o12,o22,o32,o42,o52,o62) =>
 some (inl (v311,v321,IntKind.wrap .i64 (v331+1),o02,o12,o22,o32,o42,o52,o62)))
 (some (inr (inl (o01,o11,o21,o31,o41,o51,o61))))) ((o4,(o4.length:Int),(0:Int),o0,o1,o2,o3,o4,o5,o6))) fun (o01,o11,o21,o31,o41,o51,o61) =>
 seqU (seqU (grdO (decide (o11=o11)) (some ())) (seqU (grdO (decide (andI IntKind.i64 o11 (4:Int)=andI IntKind.i64 o11 (4:Int))) (some ())) (seqU (grdO (decide ((!decide (andI IntKind.i64 o11 (4:Int)=0)) = !decide (andI IntKind.i64 o11 (4:Int)=0))) (some ())) (some ())))) (zAA (F89 (o11,(0:Int),(7:Int))) fun y =>
 cndO (y)
 (cndO (!decide (andI IntKind.i64 o11 (2:Int)=0))
 (cndO (!!decide (andI IntKind.i64 o11 (4:Int)=0))
 (zAA (F165 (o01,o11,o21,o31,o41,o51,o61)) fun y1 =>
 cndO (!y1)
 (some (true))
 (cndO (!decide (andI IntKind.i64 o11 (4:Int)=0))
 (zAA (F111 ((o01,o11,o21,o31,o41,o51,o61),o31)) fun y2 =>
 some (decide (y2=[(79:UInt8),98,106])))
 (some (false))))
 (some (false)))
 (zAA (F165 (o01,o11,o21,o31,o41,o51,o61)) fun y1 =>
 cndO (!y1)
 (some (true))
 (cndO (!decide (andI IntKind.i64 o11 (4:Int)=0))
 (zAA (F111 ((o01,o11,o21,o31,o41,o51,o61),o31)) fun y2 =>
 some (decide (y2=[(79:UInt8),98,106])))
 (some (false)))))
 (some (false)))
def tb83:=insT 83 (mkE 83 true [] ti83 to83 F83 [.tmp 2] 84 []) tb165
theorem ok83:TbOk Tryz.prog tb83:=okI ok165 tp83 tv83 func83 rfl call83
abbrev ti167:SPat:=⟨[(0,.agg (pl [.i .i64,.i .i64,.i .i64])),(1,.ptr 100000 0),(2,.ptr 100001 0)],[.box 100000 (pl plC),.box 100001 (pl [.i .i64,.i .i64,.i .i64])]⟩
abbrev to167:SPat:=⟨[(4,.b)],[.box 100000 (pl plC),.box 100001 (pl [.i .i64,.i .i64,.i .i64])]⟩
def tp167:Nat→List Nat×Plan:=fun id=>bif id == 1 then ([0,1,2,4,5,6],(.br 3 [2,1,0] [4,5,6] [] (.br 7 [6,5,4,3,2,1,0] [] [8] (.br 9 [8,7,6,5,4,3,2,1,0] [] [] .fin .fin) .fin) .fin)) else ([],.fin)
def F167:(Int×Int×Int)×(Cls)×Int×Int×Int→Option (Bool×(Cls)×Int×Int×Int):=fun ((g0,g1,g2),(o0,o1,o2,o3,o4,o5,o6),o01,o11,o21) =>
 zAA (F111 ((o0,o1,o2,o3,o4,o5,o6),g1)) fun y =>
 seqU (seqU (grdO (decide (o0=o0) && (decide (o1=o1) && (decide (o2=o2) && (decide (o3=o3) && (decide (o4=o4) && (decide (o5=o5) && (decide (o6=o6) && true))))))) (some ())) (seqU (grdO (decide (o11=o11)) (some ())) (some ()))) (zAA (F111 ((o0,o1,o2,o3,o4,o5,o6),o11)) fun y1 =>
 some ((decide (y=y1),(o0,o1,o2,o3,o4,o5,o6),o01,o11,o21)))
def tb167:=insT 167 (mkE 167 false [(1,[]),(2,[])] ti167 to167 F167 [.tmp 4] 14 [100000,100001]) tb83
theorem ok167:TbOk Tryz.prog tb167:=okI ok83 tp167 noIv func167 rfl call167
abbrev ti168236:SPat:=⟨[(0,.sl tg89),(1,.fn 167 (pl [.ptr 100000 0,.ptr 100001 0]))],[.box 100000 (pl plC),.box 100001 (pl [.i .i64,.i .i64,.i .i64])]⟩
abbrev to168236:SPat:=⟨[(4,.i .i64)],[.box 100000 (pl plC),.box 100001 (pl [.i .i64,.i .i64,.i .i64])]⟩
abbrev zTM:SPat:=⟨[(0,.sl tg89),(1,.fn 167 (pl [.ptr 100000 0,.ptr 100001 0])),(7,.i .i64),(8,.i .i64)],[.box 100000 (pl plC),.box 100001 (pl [.i .i64,.i .i64,.i .i64])]⟩
abbrev zGx:SPat:=⟨[],[.box 100000 (pl plC),.box 100001 (pl [.i .i64,.i .i64,.i .i64])]⟩
def tv168236:Nat→Option SPat:=fun k=>bif k == 2 then some zTM else bif k == 2000000 then some zGx else none
def F168236:List (Int×Int×Int)×(Cls)×Int×Int×Int→Option (Int×(Cls)×Int×Int×Int):=fun (s,(o0,o1,o2,o3,o4,o5,o6),o01,o11,o21) =>
 bindE (Y:=(Cls)×Int×Int×Int) (zAF (fun (s1,v7,v8,(o02,o12,o22,o31,o41,o51,o61),o03,o13,o23) =>
 cndO (decide (v8<v7))
 (grdO (decide (0≤v8)) (atO (s1) v8.toNat fun x=>zAA (F167 ((x.1,x.2.1,x.2.2),(o02,o12,o22,o31,o41,o51,o61),o03,o13,o23)) fun (y,(y1,y2,y3,y4,y5,x1,x2),x3,x4,x5) =>
 cndO (y)
 (some (inr (inr (v8,(y1,y2,y3,y4,y5,x1,x2),x3,x4,x5))))
 (some (inl (s1,v7,IntKind.wrap .i64 (v8+1),(y1,y2,y3,y4,y5,x1,x2),x3,x4,x5)))))
 (some (inr (inl ((o02,o12,o22,o31,o41,o51,o61),o03,o13,o23))))) ((s,(s.length:Int),(0:Int),(o0,o1,o2,o3,o4,o5,o6),o01,o11,o21))) fun ((o02,o12,o22,o31,o41,o51,o61),o03,o13,o23) =>
 some (((-1:Int),(o02,o12,o22,o31,o41,o51,o61),o03,o13,o23))
def zSB:=insT 168236 (mkE 236 false [(1,[0]),(1,[1])] ti168236 to168236 F168236 [.tmp 4] 19 [100000,100001]) tb167
theorem ok168236:TbOk Tryz.prog zSB:=okI ok167 noPl tv168236 func236 rfl call236
abbrev ti168166:SPat:=⟨[(0,.sl tg89),(1,.fn 167 (pl [.ptr 100000 0,.ptr 100001 0]))],[.box 100000 (pl plC),.box 100001 (pl [.i .i64,.i .i64,.i .i64])]⟩
abbrev to168166:SPat:=⟨[(4,.b)],[.box 100000 (pl plC),.box 100001 (pl [.i .i64,.i .i64,.i .i64])]⟩
def F168166:List (Int×Int×Int)×(Cls)×Int×Int×Int→Option (Bool×(Cls)×Int×Int×Int):=fun (s,(o0,o1,o2,o3,o4,o5,o6),o01,o11,o21) =>
 zAA (F168236 (s,(o0,o1,o2,o3,o4,o5,o6),o01,o11,o21)) fun (y,(y1,y2,y3,y4,y5,x,x1),x2,x3,x4) =>
 some ((decide (0≤y),(y1,y2,y3,y4,y5,x,x1),x2,x3,x4))
def zSC:=insT 168166 (mkE 166 false [(1,[0]),(1,[1])] ti168166 to168166 F168166 [.tmp 4] 9 [100000,100001]) zSB
theorem ok168166:TbOk Tryz.prog zSC:=okI ok168236 noPl noIv func166 rfl call166
abbrev ti84:SPat:=⟨[(0,.agg (pl plC)),(1,.i .i64)],[]⟩
abbrev to84:SPat:=⟨[(4,.b)],[]⟩
abbrev zNc:SPat:=⟨[(1,.i .i64),(2,.ptr 2 0),(5,.ptr 5 0)],[.box 2 (pl plC),.box 5 (pl [.i .i64,.i .i64,.i .i64])]⟩
def tv84:Nat→Option SPat:=fun k=>bif k == 1000004 then some zNc else none
def F84:(Cls)×Int→Option (Bool):=fun ((c0,c1,c2,c3,c4,c5,c6),i) =>
 grdO (decide (0≤i)) (atO (c5) i.toNat fun x=>bindE (Y:=Int×(Cls)×Int×Int×Int) (zAA (F49126 (c0,x.2.1)) fun y =>
 cndO (!y)
 (some (inr false))
 (zAA (F123126 (c0,x.2.2)) fun y1 =>
 cndO (!y1)
 (some (inr false))
 (zAA (F89 (x.1,(0:Int),(3:Int))) fun y2 =>
 cndO (!y2)
 (some (inr false))
 (zAA (F165 (c0,c1,c2,c3,c4,c5,c6)) fun y3 =>
 cndO (y3)
 (cndO (!decide (x.1=1))
 (some (inr false))
 (some (inl (i,(c0,c1,c2,c3,c4,c5,c6),x.1,x.2.1,x.2.2))))
 (some (inl (i,(c0,c1,c2,c3,c4,c5,c6),x.1,x.2.1,x.2.2))))))) fun (i1,(o0,o1,o2,o3,o4,o5,o6),o01,o11,o21) =>
 grdO (decide (0≤i1) && decide (i1≤(o5.length:Int))) (zAA (F168166 (List.drop (0:Nat) (List.take i1.toNat o5),(o0,o1,o2,o3,o4,o5,o6),o01,o11,o21)) fun (y,(y1,y2,y3,y4,y5,x1,x2),x3,x4,x5) =>
 some (!y)))
def tb84:=insT 84 (mkE 84 true [] ti84 to84 F84 [.tmp 4] 47 []) zSC
theorem ok84:TbOk Tryz.prog tb84:=okI ok168166 noPl tv84 func84 rfl call84
abbrev ti169:SPat:=⟨[(0,.agg (pl plM)),(1,.ptr 100000 0),(2,.ptr 100001 0),(3,.ptr 100002 0)],[.box 100000 (pl plC),.box 100001 (pl [.s]),.box 100002 (pl [.s])]⟩
abbrev to169:SPat:=⟨[(5,.b)],[.box 100000 (pl plC),.box 100001 (pl [.s]),.box 100002 (pl [.s])]⟩
def tp169:Nat→List Nat×Plan:=fun id=>bif id == 1 then ([0,1,2,4],(.br 3 [2,1,0] [4] [5,6,7,8,9,11] (.br 10 [9,8,7,6,5,4,3,2,1,0] [11] [12,13] (.br 14 [13,12,11,10,9,8,7,6,5,4,3,2,1,0] [] [] .fin .fin) .fin) .fin)) else ([],.fin)
def F169:(Mth)×(Cls)×List UInt8×List UInt8→Option (Bool×(Cls)×List UInt8×List UInt8):=fun ((n0,n1,n2,n3,n4,n5,n6,n7),(o0,o1,o2,o3,o4,o5,o6),o01,o02) =>
 zAA (F111 ((o0,o1,o2,o3,o4,o5,o6),n1)) fun y =>
 seqU (seqU (grdO (decide (o01=o01)) (some ())) (some ())) (cndO (decide (y=o01))
 (zAA (F111 ((o0,o1,o2,o3,o4,o5,o6),n2)) fun y1 =>
 seqU (seqU (grdO (decide (o02=o02)) (some ())) (some ())) (some ((decide (y1=o02),(o0,o1,o2,o3,o4,o5,o6),o01,o02))))
 (some ((false,(o0,o1,o2,o3,o4,o5,o6),o01,o02))))
def tb169:=insT 169 (mkE 169 false [(1,[]),(2,[]),(3,[])] ti169 to169 F169 [.tmp 5] 20 [100000,100001,100002]) tb84
theorem ok169:TbOk Tryz.prog tb169:=okI ok84 tp169 noIv func169 rfl call169
abbrev ti170237:SPat:=⟨[(0,.sl tg53),(1,.fn 169 (pl [.ptr 100000 0,.ptr 100001 0,.ptr 100002 0]))],[.box 100000 (pl plC),.box 100001 (pl [.s]),.box 100002 (pl [.s])]⟩
abbrev to170237:SPat:=⟨[(4,.i .i64)],[.box 100000 (pl plC),.box 100001 (pl [.s]),.box 100002 (pl [.s])]⟩
abbrev zTL:SPat:=⟨[(0,.sl tg53),(1,.fn 169 (pl [.ptr 100000 0,.ptr 100001 0,.ptr 100002 0])),(7,.i .i64),(8,.i .i64)],[.box 100000 (pl plC),.box 100001 (pl [.s]),.box 100002 (pl [.s])]⟩
abbrev zGw:SPat:=⟨[],[.box 100000 (pl plC),.box 100001 (pl [.s]),.box 100002 (pl [.s])]⟩
def tv170237:Nat→Option SPat:=fun k=>bif k == 2 then some zTL else bif k == 2000000 then some zGw else none
def F170237:List Mth×(Cls)×List UInt8×List UInt8→Option (Int×(Cls)×List UInt8×List UInt8):=fun (s,(o0,o1,o2,o3,o4,o5,o6),o01,o02) =>
 bindE (Y:=(Cls)×List UInt8×List UInt8) (zAF (fun (s1,v7,v8,(o03,o11,o21,o31,o41,o51,o61),o04,o05) =>
 cndO (decide (v8<v7))
 (grdO (decide (0≤v8)) (atO (s1) v8.toNat fun x=>zAA (F169 ((x.1,x.2.1,x.2.2.1,x.2.2.2.1,x.2.2.2.2.1,x.2.2.2.2.2.1,x.2.2.2.2.2.2.1,x.2.2.2.2.2.2.2),(o03,o11,o21,o31,o41,o51,o61),o04,o05)) fun (y,(y1,y2,y3,y4,y5,x1,x2),x3,x4) =>
 cndO (y)
 (some (inr (inr (v8,(y1,y2,y3,y4,y5,x1,x2),x3,x4))))
 (some (inl (s1,v7,IntKind.wrap .i64 (v8+1),(y1,y2,y3,y4,y5,x1,x2),x3,x4)))))
 (some (inr (inl ((o03,o11,o21,o31,o41,o51,o61),o04,o05))))) ((s,(s.length:Int),(0:Int),(o0,o1,o2,o3,o4,o5,o6),o01,o02))) fun ((o03,o11,o21,o31,o41,o51,o61),o04,o05) =>
 some (((-1:Int),(o03,o11,o21,o31,o41,o51,o61),o04,o05))
def zRz:=insT 170237 (mkE 237 false [(1,[0]),(1,[1]),(1,[2])] ti170237 to170237 F170237 [.tmp 4] 19 [100000,100001,100002]) tb169
theorem ok170237:TbOk Tryz.prog zRz:=okI ok169 noPl tv170237 func237 rfl call237
abbrev ti170168:SPat:=⟨[(0,.sl tg53),(1,.fn 169 (pl [.ptr 100000 0,.ptr 100001 0,.ptr 100002 0]))],[.box 100000 (pl plC),.box 100001 (pl [.s]),.box 100002 (pl [.s])]⟩
abbrev to170168:SPat:=⟨[(4,.b)],[.box 100000 (pl plC),.box 100001 (pl [.s]),.box 100002 (pl [.s])]⟩
def F170168:List Mth×(Cls)×List UInt8×List UInt8→Option (Bool×(Cls)×List UInt8×List UInt8):=fun (s,(o0,o1,o2,o3,o4,o5,o6),o01,o02) =>
 zAA (F170237 (s,(o0,o1,o2,o3,o4,o5,o6),o01,o02)) fun (y,(y1,y2,y3,y4,y5,x,x1),x2,x3) =>
 some ((decide (0≤y),(y1,y2,y3,y4,y5,x,x1),x2,x3))
def zSA:=insT 170168 (mkE 168 false [(1,[0]),(1,[1]),(1,[2])] ti170168 to170168 F170168 [.tmp 4] 9 [100000,100001,100002]) zRz
theorem ok170168:TbOk Tryz.prog zSA:=okI ok170237 noPl noIv func168 rfl call168
abbrev ti85:SPat:=⟨[(0,.agg (pl plC)),(1,.i .i64)],[]⟩
abbrev to85:SPat:=⟨[(4,.b)],[]⟩
abbrev zNb:SPat:=⟨[(1,.i .i64),(2,.ptr 2 0),(5,.ptr 5 0)],[.box 2 (pl plC),.box 5 (pl plM)]⟩
abbrev zNa:SPat:=⟨[(1,.i .i64),(2,.ptr 2 0),(5,.ptr 5 0),(6,.ptr 6 0),(7,.ptr 7 0),(41,.b)],[.box 2 (pl plC),.box 5 (pl plM),.box 6 (pl [.s]),.box 7 (pl [.s])]⟩
abbrev zNZ:SPat:=⟨[(1,.i .i64),(2,.ptr 2 0),(5,.ptr 5 0),(6,.ptr 6 0),(7,.ptr 7 0),(56,.b)],[.box 2 (pl plC),.box 5 (pl plM),.box 6 (pl [.s]),.box 7 (pl [.s])]⟩
abbrev zNY:SPat:=⟨[(1,.i .i64),(2,.ptr 2 0),(6,.ptr 6 0),(7,.ptr 7 0)],[.box 2 (pl plC),.box 6 (pl [.s]),.box 7 (pl [.s])]⟩
def tv85:Nat→Option SPat:=fun k=>bif k == 1000004 then some zNb else bif k == 1000006 then some zNa else bif k == 1000008 then some zNZ else bif k == 2000000 then some zNY else none
def tp85:Nat→List Nat×Plan:=fun id=>bif id == 4 then ([0,1,2,4,5,6],(.br 3 [2,1,0] [4,5,6] [] (.br 7 [6,5,4,3,2,1,0] [] [] (.br 8 [] [0,1,2,4,5,6] [] (.br 9 [] [0,1,2,4,5,6] [] (.br 10 [9,8,7,6,5,4,3,2,1,0] [] [] (.br 11 [10,9,8,7,6,5,4,3,2,1,0] [] [] .fin .fin) .fin) .fin) (.br 9 [] [0,1,2,4,5,6] [] (.br 8 [] [0,1,2,4,5,6] [] (.br 10 [9,8,7,6,5,4,3,2,1,0] [] [] (.br 11 [10,9,8,7,6,5,4,3,2,1,0] [] [] .fin .fin) .fin) .fin) .fin)) (.br 8 [] [0,1,2,4,5,6] [] (.br 7 [6,5,4,3,2,1,0] [] [] (.br 9 [] [0,1,2,4,5,6] [] (.br 10 [9,8,7,6,5,4,3,2,1,0] [] [] (.br 11 [10,9,8,7,6,5,4,3,2,1,0] [] [] .fin .fin) .fin) .fin) (.br 9 [] [0,1,2,4,5,6] [] (.br 7 [6,5,4,3,2,1,0] [] [] (.br 10 [9,8,7,6,5,4,3,2,1,0] [] [] (.br 11 [10,9,8,7,6,5,4,3,2,1,0] [] [] .fin .fin) .fin) .fin) .fin)) (.br 9 [] [0,1,2,4,5,6] [] (.br 7 [6,5,4,3,2,1,0] [] [] (.br 8 [] [0,1,2,4,5,6] [] (.br 10 [9,8,7,6,5,4,3,2,1,0] [] [] (.br 11 [10,9,8,7,6,5,4,3,2,1,0] [] [] .fin .fin) .fin) .fin) (.br 8 [] [0,1,2,4,5,6] [] (.br 7 [6,5,4,3,2,1,0] [] [] (.br 10 [9,8,7,6,5,4,3,2,1,0] [] [] (.br 11 [10,9,8,7,6,5,4,3,2,1,0] [] [] .fin .fin) .fin) .fin) .fin)) .fin))) (.br 8 [] [0,1,2,4,5,6] [] (.br 3 [2,1,0] [4,5,6] [] (.br 7 [6,5,4,3,2,1,0] [] [] (.br 9 [] [0,1,2,4,5,6] [] (.br 10 [9,8,7,6,5,4,3,2,1,0] [] [] (.br 11 [10,9,8,7,6,5,4,3,2,1,0] [] [] .fin .fin) .fin) .fin) (.br 9 [] [0,1,2,4,5,6] [] (.br 7 [6,5,4,3,2,1,0] [] [] (.br 10 [9,8,7,6,5,4,3,2,1,0] [] [] (.br 11 [10,9,8,7,6,5,4,3,2,1,0] [] [] .fin .fin) .fin) .fin) .fin)) (.br 9 [] [0,1,2,4,5,6] [] (.br 3 [2,1,0] [4,5,6] [] (.br 7 [6,5,4,3,2,1,0] [] [] (.br 10 [9,8,7,6,5,4,3,2,1,0] [] [] (.br 11 [10,9,8,7,6,5,4,3,2,1,0] [] [] .fin .fin) .fin) .fin) .fin) .fin)) (.br 9 [] [0,1,2,4,5,6] [] (.br 3 [2,1,0] [4,5,6] [] (.br 7 [6,5,4,3,2,1,0] [] [] (.br 8 [] [0,1,2,4,5,6] [] (.br 10 [9,8,7,6,5,4,3,2,1,0] [] [] (.br 11 [10,9,8,7,6,5,4,3,2,1,0] [] [] .fin .fin) .fin) .fin) (.br 8 [] [0,1,2,4,5,6] [] (.br 7 [6,5,4,3,2,1,0] [] [] (.br 10 [9,8,7,6,5,4,3,2,1,0] [] [] (.br 11 [10,9,8,7,6,5,4,3,2,1,0] [] [] .fin .fin) .fin) .fin) .fin)) (.br 8 [] [0,1,2,4,5,6] [] (.br 3 [2,1,0] [4,5,6] [] (.br 7 [6,5,4,3,2,1,0] [] [] (.br 10 [9,8,7,6,5,4,3,2,1,0] [] [] (.br 11 [10,9,8,7,6,5,4,3,2,1,0] [] [] .fin .fin) .fin) .fin) .fin) .fin)) .fin)))) else ([],.fin)
def F85:(Cls)×Int→Option (Bool):=fun ((app0,app1,app2,app3,app4,app5,app6),v1)=>grdO (decide (0≤v1)) (atO (app6) v1.toNat fun x=>bindE (Y:=Int×(Cls)×Mth) (zAA (F49126 (app0,x.2.1)) fun y=>cndO (!y) (some (inr false)) (zAA (F114126 (app0,x.2.2.1)) fun y1=>cndO (!y1) (some (inr false)) (zAA (F89 (x.1,(0:Int),(15:Int))) fun y2=>cndO (!y2) (some (inr false)) (some (inl (v1,(app0,app1,app2,app3,app4,app5,app6),x.1,x.2.1,x.2.2.1,x.2.2.2.1,x.2.2.2.2.1,x.2.2.2.2.2.1,x.2.2.2.2.2.2.1,x.2.2.2.2.2.2.2)))))) fun (v11,(o0,o1,o2,o3,o4,o5,o6),o01,o11,o21,o31,o41,o51,o61,o7)=>let q1:=fun (y:List UInt8) (y1:List UInt8)=>bindE (Y:=Int×(Cls)×List UInt8×List UInt8) (bindE (Y:=Int×Bool×(Cls)×(Mth)×List UInt8×List UInt8) (zAA (F86 o01) fun y2=>cndO (y2) (cndO (!decide (o01=8)) (some (inl (v11,true,(o0,o1,o2,o3,o4,o5,o6),(o01,o11,o21,o31,o41,o51,o61,o7),y,y1))) (some (inl (v11,decide (andI IntKind.i64 o1 (4:Int)=0),(o0,o1,o2,o3,o4,o5,o6),(o01,o11,o21,o31,o41,o51,o61,o7),y,y1)))) (some (inl (v11,false,(o0,o1,o2,o3,o4,o5,o6),(o01,o11,o21,o31,o41,o51,o61,o7),y,y1)))) fun (v12,v41,(o02,o12,o22,o32,o42,o52,o62),(o03,o13,o23,o33,o43,o53,o63,o71),o04,o05)=>cndO (v41) (some (inr false)) (bindE (Y:=Int×Bool×(Cls)×(Mth)×List UInt8×List UInt8) (zAA (F86 o03) fun y2=>cndO (!y2) (zAA (F165 (o02,o12,o22,o32,o42,o52,o62)) fun y3=>cndO (y3) (some (inl (v12,!decide (o03=1),(o02,o12,o22,o32,o42,o52,o62),(o03,o13,o23,o33,o43,o53,o63,o71),o04,o05))) (some (inl (v12,false,(o02,o12,o22,o32,o42,o52,o62),(o03,o13,o23,o33,o43,o53,o63,o71),o04,o05)))) (some (inl (v12,false,(o02,o12,o22,o32,o42,o52,o62),(o03,o13,o23,o33,o43,o53,o63,o71),o04,o05)))) fun (v13,v56,(o06,o14,o24,o34,o44,o54,o64),(o07,o15,o25,o35,o45,o55,o65,o72),o08,o09)=>cndO (v56) (some (inr false)) (cndO (decide (o08=[(98:UInt8),101,103,105,110])) (cndO (!decide (o07=1)) (some (inr false)) (cndO (!decide (o09=[(40:UInt8),41,86])) (some (inr false)) (some (inl (v13,(o06,o14,o24,o34,o44,o54,o64),o08,o09))))) (some (inl (v13,(o06,o14,o24,o34,o44,o54,o64),o08,o09)))))) fun (v12,(o02,o12,o22,o32,o42,o52,o62),o03,o04)=>grdO (decide (0≤v12) && decide (v12≤(o62.length:Int))) (zAA (F170168 (List.drop (0:Nat) (List.take v12.toNat o62),(o02,o12,o22,o32,o42,o52,o62),o03,o04)) fun (y2,(y3,y4,y5,y6,y7,x1,x2),x3,x4)=>some (!y2));let q3:=seqU (grdO (decide (o0=o0) && (decide (o1=o1) && (decide (o2=o2) && (decide (o3=o3) && (decide (o4=o4) && (decide (o5=o5) && (decide (o6=o6) && true))))))) (some ())) (seqU (grdO (decide (o21=o21)) (some ())) (some ()));let q2:=seqU (grdO (decide (o0=o0) && (decide (o1=o1) && (decide (o2=o2) && (decide (o3=o3) && (decide (o4=o4) && (decide (o5=o5) && (decide (o6=o6) && true))))))) (some ())) (seqU (grdO (decide (o11=o11)) (some ())) (q3));zBU (zAA (F111 ((o0,o1,o2,o3,o4,o5,o6),o11)) fun y=>seqU (q3) (zBU (zAA (F111 ((o0,o1,o2,o3,o4,o5,o6),o21)) fun y1=>zBU (seqU (q2) (seqU (q2) (q1 y y1))) (seqU (q2) (seqU (q2) (q1 y y1)))) (zBU (seqU (q2) (zBU (zAA (F111 ((o0,o1,o2,o3,o4,o5,o6),o21)) fun y1=>seqU (q2) (q1 y y1)) (seqU (q2) (zAA (F111 ((o0,o1,o2,o3,o4,o5,o6),o21)) fun y1=>q1 y y1)))) (seqU (q2) (zBU (zAA (F111 ((o0,o1,o2,o3,o4,o5,o6),o21)) fun y1=>seqU (q2) (q1 y y1)) (seqU (q2) (zAA (F111 ((o0,o1,o2,o3,o4,o5,o6),o21)) fun y1=>q1 y y1))))))) (let q4:=seqU (q2) (zBU (zAA (F111 ((o0,o1,o2,o3,o4,o5,o6),o11)) fun y=>seqU (q3) (zBU (zAA (F111 ((o0,o1,o2,o3,o4,o5,o6),o21)) fun y1=>seqU (q2) (q1 y y1)) (seqU (q2) (zAA (F111 ((o0,o1,o2,o3,o4,o5,o6),o21)) fun y1=>q1 y y1)))) (seqU (q2) (zAA (F111 ((o0,o1,o2,o3,o4,o5,o6),o11)) fun y=>seqU (q3) (zAA (F111 ((o0,o1,o2,o3,o4,o5,o6),o21)) fun y1=>q1 y y1))));zBU (q4) (q4)))
def tb85:=insT 85 (mkE 85 true [] ti85 to85 F85 [.tmp 4] 89 []) zSA
theorem ok85:TbOk Tryz.prog tb85:=okI ok170168 tp85 tv85 func85 rfl call85
abbrev ti90:SPat:=⟨[(0,.i .i64)],[]⟩
abbrev to90:SPat:=⟨[(2,.i .i64)],[]⟩
abbrev zNO:SPat:=⟨[(0,.i .i64),(6,.b)],[]⟩
def tv90:Nat→Option SPat:=fun k=>bif k == 1000004 then some zNO else none
def F90:Int→Option (Int):=fun op_ =>
 zAA (F89 (op_,(3:Int),(6:Int))) fun y =>
 cndO (y)
 (some ((1:Int)))
 (bindE (cndO (decide (op_=1))
 (some (inl (op_,true)))
 (zAA (F89 (op_,(14:Int),(29:Int))) fun y1 =>
 some (inl (op_,y1)))) fun (op_1,v6) =>
 cndO (v6)
 (some ((2:Int)))
 (zAA (F89 (op_1,(0:Int),(34:Int))) fun y1 =>
 cndO (y1)
 (some ((0:Int)))
 (some ((-1:Int)))))
def tb90:=insT 90 (mkE 90 true [] ti90 to90 F90 [.tmp 2] 16 []) tb85
theorem ok90:TbOk Tryz.prog tb90:=okI ok85 noPl tv90 func90 rfl call90
abbrev ti31:SPat:=⟨[(0,.s)],[]⟩
abbrev to31:SPat:=⟨[(2,.own tg89 true),(3,.b)],[]⟩
abbrev ts31_5:SPat:=⟨[(0,.s),(4,.own tg89 true),(5,.i .i64)],[]⟩
abbrev ts31_11:SPat:=⟨[(0,.s),(4,.own tg89 true),(5,.i .i64),(6,.ptr 6 0),(7,.i .i64),(45,.sl .byte),(46,.i .i64),(47,.i .i64)],[.box 6 (pl [.i .i64,.i .i64,.i .i64])]⟩
abbrev zOZ:SPat:=⟨[(0,.s),(4,.own tg89 true),(5,.i .i64),(6,.ptr 6 0),(7,.i .i64)],[.box 6 (pl [.i .i64,.i .i64,.i .i64])]⟩
abbrev zOY:SPat:=⟨[(0,.s),(4,.own tg89 true),(5,.i .i64),(6,.ptr 6 0),(7,.i .i64),(66,.b)],[.box 6 (pl [.i .i64,.i .i64,.i .i64])]⟩
abbrev zOX:SPat:=⟨[(0,.s),(4,.own tg89 true),(5,.i .i64),(6,.ptr 6 0),(7,.i .i64)],[.box 6 (pl [.i .i64,.i .i64,.i .i64])]⟩
abbrev zOW:SPat:=⟨[(4,.own tg89 true)],[]⟩
abbrev zOV:SPat:=⟨[(0,.s),(4,.own tg89 true),(5,.i .i64)],[]⟩
abbrev zOU:SPat:=⟨[(0,.s),(4,.own tg89 true),(5,.i .i64),(6,.ptr 6 0),(7,.i .i64)],[.box 6 (pl [.i .i64,.i .i64,.i .i64])]⟩
def tv31:Nat→Option SPat:=fun k=>bif k == 5 then some ts31_5 else bif k == 11 then some ts31_11 else bif k == 1000010 then some zOZ else bif k == 1000016 then some zOY else bif k == 1000017 then some zOX else bif k == 2000000 then some zOW else bif k == 2000001 then some zOV else bif k == 2000002 then some zOU else none
def F31:List UInt8→Option (List (Int×Int×Int)×Bool):=fun app =>
 zAA (F89 ((app.length:Int),(1:Int),(120:Int))) fun y =>
 cndO (!y)
 (some (([],false)))
 (bindE (Y:=List (Int×Int×Int)) (zAF (fun (app1,v4,v5) =>
 cndO (decide (v5<(app1.length:Int)))
 (bindE (Y:=List UInt8×List (Int×Int×Int)×Int) (grdO (decide (0≤v5)) (atO (app1) v5.toNat fun x=>zAA (F90 (IntKind.wrap .i64 (x.toNat:Int))) fun y1 =>
 bindE (Y:=List UInt8×List (Int×Int×Int)×Int×Int×Int×Int×Int) (cndO (decide (y1<0))
 (some (inr (inr (inr (inr ([],false))))))
 (cndO (decide (IntKind.wrap .i64 ((app1.length:Int) - v5)≤y1))
 (some (inr (inr (inr (inr ([],false))))))
 (some (inl (app1,v4,v5,y1,v5,IntKind.wrap .i64 (x.toNat:Int),(0:Int)))))) fun (app2,v41,v51,v7,o0,o1,o2) =>
 grdO (decide (0≤IntKind.wrap .i64 (v51+1)) && decide (IntKind.wrap .i64 (v51+1)≤IntKind.wrap .i64 (IntKind.wrap .i64 (v51+1)+v7)) && decide (IntKind.wrap .i64 (IntKind.wrap .i64 (v51+1)+v7)≤(app2.length:Int))) (bindE (Y:=List UInt8×List (Int×Int×Int)×Int×Int×Int×Int×Int) (zAF (fun (app3,v42,v52,v71,v45,v46,v47,o01,o11,o21) =>
 cndO (decide (v47<v46))
 (grdO (decide (0≤v47)) (atO (v45) v47.toNat fun x1=>some (inl (app3,v42,v52,v71,v45,v46,IntKind.wrap .i64 (v47+1),o01,o11,IntKind.wrap .i64 (IntKind.wrap .i64 ((256:Int)*o21)+IntKind.wrap .i64 (x1.toNat:Int))))))
 (some (inr (inl (app3,v42,v52,v71,o01,o11,o21))))) ((app2,v41,v51,v7,List.drop (Int.toNat (IntKind.wrap .i64 (v51+1))) (List.take (Int.toNat (IntKind.wrap .i64 (IntKind.wrap .i64 (v51+1)+v7))) app2),(↑(List.length (List.drop (Int.toNat (IntKind.wrap .i64 (v51+1))) (List.take (Int.toNat (IntKind.wrap .i64 (IntKind.wrap .i64 (v51+1)+v7))) app2))):Int),(0:Int),o0,o1,o2))) fun (app3,v42,v52,v71,o01,o11,o21) =>
 bindE (Y:=List UInt8×List (Int×Int×Int)×Int×Int×Int×Int×Int) (bindE (Y:=List UInt8×List (Int×Int×Int)×Int×Int×Bool×Int×Int×Int) (cndO (decide (o11=1))
 (some (inl (app3,v42,v52,v71,decide (32767<o21),o01,o11,o21)))
 (some (inl (app3,v42,v52,v71,false,o01,o11,o21)))) fun (app4,v43,v53,v72,v66,o02,o12,o22) =>
 cndO (v66)
 (some (inl (app4,v43,v53,v72,o02,o12,IntKind.wrap .i64 (o22 - 65536))))
 (some (inl (app4,v43,v53,v72,o02,o12,o22)))) fun (app4,v43,v53,v72,o02,o12,o22) =>
 grdO (decide (List.length v43+1≤9223372036854775807) && decide ((List.length v43+1)*24≤140737488355328)) (some (inl (app4,v43++[(o02,o12,o22)],IntKind.wrap .i64 (v53+IntKind.wrap .i64 ((1:Int)+v72)))))))) fun (app2,v41,v51) =>
 some (inl (app2,v41,v51)))
 (some (inr (inl v4)))) ((app,[],(0:Int)))) fun v4 =>
 some ((v4,true)))
def tb31:=insT 31 (mkE 31 false [] ti31 to31 F31 [.tmp 2,.tmp 3] 80 []) tb90
theorem ok31:TbOk Tryz.prog tb31:=okI ok90 noPl tv31 func31 rfl call31
abbrev ti171:SPat:=⟨[(0,.i .i64)],[]⟩
abbrev to171:SPat:=⟨[(2,.i .i64)],[]⟩
abbrev zLh:SPat:=⟨[(0,.i .i64),(3,.b)],[]⟩
def tv171:Nat→Option SPat:=fun k=>bif k == 1000002 then some zLh else none
def F171:Int→Option (Int):=fun op_ =>
 bindE (cndO (decide (op_=19))
 (some (inl (op_,true)))
 (cndO (decide (op_=28))
 (some (inl (op_,true)))
 (some (inl (op_,decide (op_=29)))))) fun (op_1,v3) =>
 cndO (v3)
 (some ((2:Int)))
 (zAA (F89 (op_1,(20:Int),(23:Int))) fun y =>
 cndO (y)
 (some ((4:Int)))
 (zAA (F89 (op_1,(24:Int),(26:Int))) fun y1 =>
 cndO (y1)
 (some ((5:Int)))
 (cndO (decide (op_1=27))
 (some ((6:Int)))
 (some ((0:Int))))))
def tb171:=insT 171 (mkE 171 true [] ti171 to171 F171 [.tmp 2] 23 []) tb31
theorem ok171:TbOk Tryz.prog tb171:=okI ok31 noPl tv171 func171 rfl call171
abbrev ti172:SPat:=⟨[(0,.i .i64)],[]⟩
abbrev to172:SPat:=⟨[(2,.b)],[]⟩
def F172:Int→Option (Bool):=fun op_ =>
 zAA (F89 (op_,(14:Int),(18:Int))) fun y =>
 some (y)
def tb172:=insT 172 (mkE 172 true [] ti172 to172 F172 [.tmp 2] 5 []) tb171
theorem ok172:TbOk Tryz.prog tb172:=okI ok171 noPl noIv func172 rfl call172
abbrev ti241:SPat:=⟨[(0,.agg (pl [.i .i64,.i .i64,.i .i64])),(1,.ptr 100000 0)],[.box 100000 (pl [.i .i64])]⟩
abbrev to241:SPat:=⟨[(3,.b)],[.box 100000 (pl [.i .i64])]⟩
def F241:(Int×Int×Int)×Int→Option (Bool×Int):=fun ((x0,x1,x2),o0) =>
 some ((decide (x0=o0),o0))
def tb241:=insT 241 (mkE 241 false [(1,[])] ti241 to241 F241 [.tmp 3] 8 [100000]) tb172
theorem ok241:TbOk Tryz.prog tb241:=okI ok172 noPl noIv func241 rfl call241
abbrev ti242240:SPat:=⟨[(0,.sl tg89),(1,.fn 241 (pl [.ptr 100000 0]))],[.box 100000 (pl [.i .i64])]⟩
abbrev to242240:SPat:=⟨[(4,.i .i64)],[.box 100000 (pl [.i .i64])]⟩
abbrev zTJ:SPat:=⟨[(0,.sl tg89),(1,.fn 241 (pl [.ptr 100000 0])),(7,.i .i64),(8,.i .i64)],[.box 100000 (pl [.i .i64])]⟩
abbrev zGu:SPat:=⟨[],[.box 100000 (pl [.i .i64])]⟩
def tv242240:Nat→Option SPat:=fun k=>bif k == 2 then some zTJ else bif k == 2000000 then some zGu else none
def F242240:List (Int×Int×Int)×Int→Option (Int×Int):=fun (s,o0) =>
 bindE (zAF (fun (s1,v7,v8,o01) =>
 cndO (decide (v8<v7))
 (grdO (decide (0≤v8)) (atO (s1) v8.toNat fun x=>zAA (F241 ((x.1,x.2.1,x.2.2),o01)) fun (y,y1) =>
 cndO (y)
 (some (inr (inr (v8,y1))))
 (some (inl (s1,v7,IntKind.wrap .i64 (v8+1),y1)))))
 (some (inr (inl o01)))) ((s,(s.length:Int),(0:Int),o0))) fun o01 =>
 some (((-1:Int),o01))
def zRx:=insT 242240 (mkE 240 false [(1,[0])] ti242240 to242240 F242240 [.tmp 4] 19 [100000]) tb241
theorem ok242240:TbOk Tryz.prog zRx:=okI ok241 noPl tv242240 func240 rfl call240
abbrev ti173:SPat:=⟨[(0,.sl tg89),(1,.i .i64)],[]⟩
abbrev to173:SPat:=⟨[(4,.i .i64)],[]⟩
def F173:List (Int×Int×Int)×Int→Option (Int):=fun (list,at_) =>
 zAA (F242240 (list,at_)) fun (y,y1) =>
 some (y)
def tb173:=insT 173 (mkE 173 true [] ti173 to173 F173 [.tmp 4] 8 []) zRx
theorem ok173:TbOk Tryz.prog tb173:=okI ok242240 noPl noIv func173 rfl call173
abbrev ti243:SPat:=⟨[(0,.agg (pl [.i .i64,.i .i64])),(1,.ptr 100000 0)],[.box 100000 (pl plC)]⟩
abbrev to243:SPat:=⟨[(3,.b)],[.box 100000 (pl plC)]⟩
def F243:(Int×Int)×Cls→Option (Bool×Cls):=fun ((k0,k1),o0,o1,o2,o3,o4,o5,o6) =>
 cndO (decide (k0=3))
 (zAA (F162 ((o0,o1,o2,o3,o4,o5,o6),k1)) fun y =>
 cndO (!y)
 (some ((true,o0,o1,o2,o3,o4,o5,o6)))
 (cndO (!decide (k0=3))
 (some ((!decide (k1=0),o0,o1,o2,o3,o4,o5,o6)))
 (some ((false,o0,o1,o2,o3,o4,o5,o6)))))
 (cndO (!decide (k0=3))
 (some ((!decide (k1=0),o0,o1,o2,o3,o4,o5,o6)))
 (some ((false,o0,o1,o2,o3,o4,o5,o6))))
def tb243:=insT 243 (mkE 243 false [(1,[])] ti243 to243 F243 [.tmp 3] 24 [100000]) tb173
theorem ok243:TbOk Tryz.prog tb243:=okI ok173 noPl noIv func243 rfl call243
abbrev ti244290:SPat:=⟨[(0,.sl zBH),(1,.fn 243 (pl [.ptr 100000 0]))],[.box 100000 (pl plC)]⟩
abbrev to244290:SPat:=⟨[(4,.i .i64)],[.box 100000 (pl plC)]⟩
abbrev zTI:SPat:=⟨[(0,.sl zBH),(1,.fn 243 (pl [.ptr 100000 0])),(7,.i .i64),(8,.i .i64)],[.box 100000 (pl plC)]⟩
abbrev zGt:SPat:=⟨[],[.box 100000 (pl plC)]⟩
def tv244290:Nat→Option SPat:=fun k=>bif k == 2 then some zTI else bif k == 2000000 then some zGt else none
def F244290:List (Int×Int)×Cls→Option (Int×Cls):=fun (s,o0,o1,o2,o3,o4,o5,o6) =>
 bindE (Y:=Cls) (zAF (fun (s1,v7,v8,o01,o11,o21,o31,o41,o51,o61) =>
 cndO (decide (v8<v7))
 (grdO (decide (0≤v8)) (atO (s1) v8.toNat fun x=>zAA (F243 ((x.1,x.2),o01,o11,o21,o31,o41,o51,o61)) fun (y,y1,y2,y3,y4,y5,x1,x2) =>
 cndO (y)
 (some (inr (inr (v8,y1,y2,y3,y4,y5,x1,x2))))
 (some (inl (s1,v7,IntKind.wrap .i64 (v8+1),y1,y2,y3,y4,y5,x1,x2)))))
 (some (inr (inl (o01,o11,o21,o31,o41,o51,o61))))) ((s,(s.length:Int),(0:Int),o0,o1,o2,o3,o4,o5,o6))) fun (o01,o11,o21,o31,o41,o51,o61) =>
 some (((-1:Int),o01,o11,o21,o31,o41,o51,o61))
def zRv:=insT 244290 (mkE 290 false [(1,[0])] ti244290 to244290 F244290 [.tmp 4] 19 [100000]) tb243
theorem ok244290:TbOk Tryz.prog zRv:=okI ok243 noPl tv244290 func290 rfl call290
abbrev ti244242:SPat:=⟨[(0,.sl zBH),(1,.fn 243 (pl [.ptr 100000 0]))],[.box 100000 (pl plC)]⟩
abbrev to244242:SPat:=⟨[(4,.b)],[.box 100000 (pl plC)]⟩
def F244242:List (Int×Int)×Cls→Option (Bool×Cls):=fun (s,o0,o1,o2,o3,o4,o5,o6) =>
 zAA (F244290 (s,o0,o1,o2,o3,o4,o5,o6)) fun (y,y1,y2,y3,y4,y5,x,x1) =>
 some ((decide (0≤y),y1,y2,y3,y4,y5,x,x1))
def zRw:=insT 244242 (mkE 242 false [(1,[0])] ti244242 to244242 F244242 [.tmp 4] 9 [100000]) zRv
theorem ok244242:TbOk Tryz.prog zRw:=okI ok244290 noPl noIv func242 rfl call242
abbrev ti174:SPat:=⟨[(0,.agg (pl plC)),(1,.sl zBH)],[]⟩
abbrev to174:SPat:=⟨[(4,.b)],[]⟩
def F174:(Cls)×List (Int×Int)→Option (Bool):=fun ((c0,c1,c2,c3,c4,c5,c6),list) =>
 zAA (F244242 (list,c0,c1,c2,c3,c4,c5,c6)) fun (y,y1,y2,y3,y4,y5,x,x1) =>
 some (!y)
def tb174:=insT 174 (mkE 174 true [] ti174 to174 F174 [.tmp 4] 9 []) zRw
theorem ok174:TbOk Tryz.prog tb174:=okI ok244242 noPl noIv func174 rfl call174
abbrev ti87:SPat:=⟨[(0,.agg (pl plC)),(1,.agg (pl plM))],[]⟩
abbrev to87:SPat:=⟨[(4,.b)],[]⟩
abbrev ts87_9:SPat:=⟨[(2,.ptr 2 0),(3,.ptr 3 0),(5,.ar 5),(56,.ar 5),(57,.i .i64),(58,.i .i64)],[.box 2 (pl plC),.box 3 (pl plM),.arr 5 tg89 true]⟩
abbrev ts87_18:SPat:=⟨[(2,.ptr 2 0),(3,.ptr 3 0),(5,.own tg89 true),(100,.sl zCg),(101,.i .i64),(102,.i .i64)],[.box 2 (pl plC),.box 3 (pl plM)]⟩
abbrev ts87_25:SPat:=⟨[(2,.ptr 2 0),(3,.ptr 3 0),(5,.own tg89 true),(16,.i .i64),(154,.sl zBd),(155,.i .i64),(156,.i .i64)],[.box 2 (pl plC),.box 3 (pl plM)]⟩
abbrev zNX:SPat:=⟨[(2,.ptr 2 0),(3,.ptr 3 0),(5,.own tg89 true),(6,.b),(10,.i .i64)],[.box 2 (pl plC),.box 3 (pl plM)]⟩
abbrev zNW:SPat:=⟨[(2,.ptr 2 0),(3,.ptr 3 0),(5,.own tg89 true)],[.box 2 (pl plC),.box 3 (pl plM)]⟩
abbrev zNV:SPat:=⟨[(2,.ptr 2 0),(3,.ptr 3 0),(5,.own tg89 true)],[.box 2 (pl plC),.box 3 (pl plM)]⟩
abbrev zNU:SPat:=⟨[(2,.ptr 2 0),(3,.ptr 3 0),(5,.ar 5),(56,.ar 5),(57,.i .i64),(58,.i .i64)],[.box 2 (pl plC),.box 3 (pl plM),.arr 5 tg89 true]⟩
abbrev zNT:SPat:=⟨[(2,.ptr 2 0),(3,.ptr 3 0),(5,.own tg89 true)],[.box 2 (pl plC),.box 3 (pl plM)]⟩
abbrev zNS:SPat:=⟨[(2,.ptr 2 0),(3,.ptr 3 0),(5,.own tg89 true),(100,.sl zCg),(101,.i .i64),(102,.i .i64)],[.box 2 (pl plC),.box 3 (pl plM)]⟩
abbrev zNR:SPat:=⟨[],[]⟩
abbrev zNQ:SPat:=⟨[(2,.ptr 2 0),(3,.ptr 3 0),(5,.own tg89 true),(16,.i .i64),(154,.sl zBd),(155,.i .i64),(156,.i .i64)],[.box 2 (pl plC),.box 3 (pl plM)]⟩
def tv87:Nat→Option SPat:=fun k=>bif k == 9 then some ts87_9 else bif k == 18 then some ts87_18 else bif k == 25 then some ts87_25 else bif k == 1000006 then some zNX else bif k == 1000008 then some zNW else bif k == 2000000 then some zNV else bif k == 2000002 then some zNU else bif k == 2000003 then some zNT else bif k == 2000004 then some zNS else bif k == 2000005 then some zNR else bif k == 2000006 then some zNQ else none
def F87:(Cls)×Mth→Option (Bool):=fun ((app0,app1,app2,app3,app4,app5,app6),v10,v11,v12,v13,v14,v15,v16,v17) =>
 zAA (F31 v15) fun (y,y1) =>
 zAA (F111 ((app0,app1,app2,app3,app4,app5,app6),v12)) fun y2 =>
 zAA (F170 y2) fun (y3,y4,y5) =>
 bindE (Y:=List (Int×Int×Int)×Bool×Int×(Cls)×Mth) (cndO (decide (andI IntKind.i64 v10 (1:Int)=0))
 (some (inl (y,y1,IntKind.wrap .i64 ((y3.length:Int)+1),(app0,app1,app2,app3,app4,app5,app6),v10,v11,v12,v13,v14,v15,v16,v17)))
 (some (inl (y,y1,(y3.length:Int),(app0,app1,app2,app3,app4,app5,app6),v10,v11,v12,v13,v14,v15,v16,v17)))) fun (v5,v6,v101,(o0,o1,o2,o3,o4,o5,o6),o01,o11,o21,o31,o41,o51,o61,o7) =>
 bindE (Y:=List (Int×Int×Int)×(Cls)×Mth) (cndO (!v6)
 (some (inr false))
 (cndO (decide (8<o31))
 (some (inr false))
 (zAA (F89 (o41,v101,(8:Int))) fun y6 =>
 cndO (!y6)
 (some (inr false))
 (some (inl (v5,(o0,o1,o2,o3,o4,o5,o6),o01,o11,o21,o31,o41,o51,o61,o7)))))) fun (v51,(o02,o12,o22,o32,o42,o52,o62),o03,o13,o23,o33,o43,o53,o63,o71) =>
 bindE (Y:=List (Int×Int×Int)×(Cls)×Mth) (zAF (fun (v57,v58,(o04,o14,o24,o34,o44,o54,o64),(o05,o15,o25,o35,o45,o55,o65,o72),l5) =>
 cndO (decide (v58<v57))
 (grdO (decide (0≤v58) && decide (v58<(l5.length:Int))) (atO (l5) v58.toNat fun x=>zAA (F171 (x.2.1)) fun y6 =>
 bindE (Y:=Int×Int×(Cls)×(Mth)×List (Int×Int×Int)) (zAA (F89 (x.2.1,(3:Int),(6:Int))) fun y7 =>
 cndO (y7)
 (cndO (decide (o45≤x.2.2))
 (some (inr (inr (inr false))))
 (zAA (F172 (x.2.1)) fun y8 =>
 cndO (y8)
 (zAA (F173 (l5,x.2.2)) fun y9 =>
 cndO (decide (y9<0))
 (some (inr (inr (inr false))))
 (cndO (!decide (y6=0))
 (zAA (F124 (o04,x.2.2)) fun (y10,y11,y12,y13) =>
 cndO (!decide (y10=y6))
 (some (inr (inr (inr false))))
 (some (inl (v57,v58,(o04,o14,o24,o34,o44,o54,o64),(o05,o15,o25,o35,o45,o55,o65,o72),l5))))
 (some (inl (v57,v58,(o04,o14,o24,o34,o44,o54,o64),(o05,o15,o25,o35,o45,o55,o65,o72),l5)))))
 (cndO (!decide (y6=0))
 (zAA (F124 (o04,x.2.2)) fun (y9,y10,y11,y12) =>
 cndO (!decide (y9=y6))
 (some (inr (inr (inr false))))
 (some (inl (v57,v58,(o04,o14,o24,o34,o44,o54,o64),(o05,o15,o25,o35,o45,o55,o65,o72),l5))))
 (some (inl (v57,v58,(o04,o14,o24,o34,o44,o54,o64),(o05,o15,o25,o35,o45,o55,o65,o72),l5))))))
 (zAA (F172 (x.2.1)) fun y8 =>
 cndO (y8)
 (zAA (F173 (l5,x.2.2)) fun y9 =>
 cndO (decide (y9<0))
 (some (inr (inr (inr false))))
 (cndO (!decide (y6=0))
 (zAA (F124 (o04,x.2.2)) fun (y10,y11,y12,y13) =>
 cndO (!decide (y10=y6))
 (some (inr (inr (inr false))))
 (some (inl (v57,v58,(o04,o14,o24,o34,o44,o54,o64),(o05,o15,o25,o35,o45,o55,o65,o72),l5))))
 (some (inl (v57,v58,(o04,o14,o24,o34,o44,o54,o64),(o05,o15,o25,o35,o45,o55,o65,o72),l5)))))
 (cndO (!decide (y6=0))
 (zAA (F124 (o04,x.2.2)) fun (y9,y10,y11,y12) =>
 cndO (!decide (y9=y6))
 (some (inr (inr (inr false))))
 (some (inl (v57,v58,(o04,o14,o24,o34,o44,o54,o64),(o05,o15,o25,o35,o45,o55,o65,o72),l5))))
 (some (inl (v57,v58,(o04,o14,o24,o34,o44,o54,o64),(o05,o15,o25,o35,o45,o55,o65,o72),l5)))))) fun (v571,v581,(o06,o16,o26,o36,o46,o56,o66),(o07,o17,o27,o37,o47,o57,o67,o73),l51) =>
 some (inl (v571,IntKind.wrap .i64 (v581+1),(o06,o16,o26,o36,o46,o56,o66),(o07,o17,o27,o37,o47,o57,o67,o73),l51))))
 (some (inr (inl (l5,(o04,o14,o24,o34,o44,o54,o64),o05,o15,o25,o35,o45,o55,o65,o72))))) (((v51.length:Int),(0:Int),(o02,o12,o22,o32,o42,o52,o62),(o03,o13,o23,o33,o43,o53,o63,o71),v51))) fun (v52,(o04,o14,o24,o34,o44,o54,o64),o05,o15,o25,o35,o45,o55,o65,o72) =>
 bindE (Y:=List (Int×Int×Int)×(Cls)×Mth) (zAF (fun (v53,v100,v1011,v102,(o06,o16,o26,o36,o46,o56,o66),o07,o17,o27,o37,o47,o57,o67,o73) =>
 cndO (decide (v102<v1011))
 (bindE (Y:=List (Int×Int×Int)×List (Int×Int×Int×Int)×Int×Int×(Cls)×Mth) (grdO (decide (0≤v102)) (atO (v100) v102.toNat fun x=>cndO (decide (x.2.1≤x.1))
 (some (inr (inr (inr false))))
 (zAA (F173 (v53,x.1)) fun y6 =>
 cndO (decide (y6<0))
 (some (inr (inr (inr false))))
 (zAA (F173 (v53,x.2.2.1)) fun y7 =>
 cndO (decide (y7<0))
 (some (inr (inr (inr false))))
 (zAA (F173 (v53,x.2.1)) fun y8 =>
 cndO (decide (y8<0))
 (cndO (!decide (x.2.1=(o57.length:Int)))
 (some (inr (inr (inr false))))
 (cndO (!decide (x.2.2.2=0))
 (zAA (F162 ((o06,o16,o26,o36,o46,o56,o66),x.2.2.2)) fun y9 =>
 cndO (!y9)
 (some (inr (inr (inr false))))
 (some (inl (v53,v100,v1011,v102,(o06,o16,o26,o36,o46,o56,o66),o07,o17,o27,o37,o47,o57,o67,o73))))
 (some (inl (v53,v100,v1011,v102,(o06,o16,o26,o36,o46,o56,o66),o07,o17,o27,o37,o47,o57,o67,o73)))))
 (cndO (!decide (x.2.2.2=0))
 (zAA (F162 ((o06,o16,o26,o36,o46,o56,o66),x.2.2.2)) fun y9 =>
 cndO (!y9)
 (some (inr (inr (inr false))))
 (some (inl (v53,v100,v1011,v102,(o06,o16,o26,o36,o46,o56,o66),o07,o17,o27,o37,o47,o57,o67,o73))))
 (some (inl (v53,v100,v1011,v102,(o06,o16,o26,o36,o46,o56,o66),o07,o17,o27,o37,o47,o57,o67,o73))))))))) fun (v54,v1001,v1012,v1021,(o08,o18,o28,o38,o48,o58,o68),o09,o19,o29,o39,o49,o59,o69,o74) =>
 some (inl (v54,v1001,v1012,IntKind.wrap .i64 (v1021+1),(o08,o18,o28,o38,o48,o58,o68),o09,o19,o29,o39,o49,o59,o69,o74)))
 (some (inr (inl (v53,(o06,o16,o26,o36,o46,o56,o66),o07,o17,o27,o37,o47,o57,o67,o73))))) ((v52,o65,(o65.length:Int),(0:Int),(o04,o14,o24,o34,o44,o54,o64),o05,o15,o25,o35,o45,o55,o65,o72))) fun (v53,(o06,o16,o26,o36,o46,o56,o66),o07,o17,o27,o37,o47,o57,o67,o73) =>
 bindE (zAF (fun (v54,v161,v154,v155,v156,(o08,o18,o28,o38,o48,o58,o68),o09,o19,o29,o39,o49,o59,o69,o74) =>
 cndO (decide (v156<v155))
 (bindE (Y:=List (Int×Int×Int)×Int×List Frm×Int×Int×(Cls)×Mth) (grdO (decide (0≤v156)) (atO (v154) v156.toNat fun x=>zAA (F173 (v54,x.1)) fun y6 =>
 cndO (decide (y6<0))
 (some (inr (inr (inr false))))
 (cndO (decide (x.1≤v161))
 (some (inr (inr (inr false))))
 (cndO (!decide ((x.2.1.length:Int)=o49))
 (some (inr (inr (inr false))))
 (cndO (decide (o39<(x.2.2.length:Int)))
 (some (inr (inr (inr false))))
 (zAA (F174 ((o08,o18,o28,o38,o48,o58,o68),x.2.1)) fun y7 =>
 cndO (!y7)
 (some (inr (inr (inr false))))
 (zAA (F174 ((o08,o18,o28,o38,o48,o58,o68),x.2.2)) fun y8 =>
 cndO (!y8)
 (some (inr (inr (inr false))))
 (some (inl (v54,x.1,v154,v155,v156,(o08,o18,o28,o38,o48,o58,o68),o09,o19,o29,o39,o49,o59,o69,o74)))))))))) fun (v55,v162,v1541,v1551,v1561,(o010,o110,o210,o310,o410,o510,o610),o011,o111,o211,o311,o411,o511,o611,o75) =>
 some (inl (v55,v162,v1541,v1551,IntKind.wrap .i64 (v1561+1),(o010,o110,o210,o310,o410,o510,o610),o011,o111,o211,o311,o411,o511,o611,o75)))
 (some (inr (inl ())))) ((v53,(-1:Int),o73,(o73.length:Int),(0:Int),(o06,o16,o26,o36,o46,o56,o66),o07,o17,o27,o37,o47,o57,o67,o73))) fun _ =>
 some (true)
def tb87:=insT 87 (mkE 87 true [] ti87 to87 F87 [.tmp 4] 204 []) tb174
theorem ok87:TbOk Tryz.prog tb87:=okI ok174 noPl tv87 func87 rfl call87
abbrev ti29:SPat:=⟨[(0,.agg (pl plC))],[]⟩
abbrev to29:SPat:=⟨[(2,.i .i64)],[]⟩
abbrev ts29_8:SPat:=⟨[(1,.ptr 1 0),(22,.i .i64),(23,.i .i64)],[.box 1 (pl plC)]⟩
abbrev ts29_14:SPat:=⟨[(1,.ptr 1 0),(33,.i .i64),(34,.i .i64)],[.box 1 (pl plC)]⟩
abbrev ts29_20:SPat:=⟨[(1,.ptr 1 0),(43,.sl tg53),(44,.i .i64),(45,.i .i64)],[.box 1 (pl plC)]⟩
abbrev zOd:SPat:=⟨[(1,.ptr 1 0)],[.box 1 (pl plC)]⟩
abbrev zOc:SPat:=⟨[(1,.ptr 1 0)],[.box 1 (pl plC)]⟩
abbrev zOb:SPat:=⟨[],[]⟩
abbrev zOa:SPat:=⟨[(1,.ptr 1 0),(43,.sl tg53),(44,.i .i64),(45,.i .i64)],[.box 1 (pl plC)]⟩
def tv29:Nat→Option SPat:=fun k=>bif k == 8 then some ts29_8 else bif k == 14 then some ts29_14 else bif k == 20 then some ts29_20 else bif k == 2000001 then some zOd else bif k == 2000003 then some zOc else bif k == 2000005 then some zOb else bif k == 2000006 then some zOa else none
def F29:Cls→Option (Int):=fun (c0,c1,c2,c3,c4,c5,c6) =>
 zAA (F20 (c0,c1,c2,c3,c4,c5,c6)) fun y =>
 cndO (decide (y=[]))
 (some ((1:Int)))
 (zAA (F14 c0) fun y1 =>
 cndO (!decide (y1=0))
 (some ((2:Int)))
 (zAA (F83 (c0,c1,c2,c3,c4,c5,c6)) fun y2 =>
 cndO (!y2)
 (some ((3:Int)))
 (bindE (Y:=Cls) (zAF (fun (v22,v23,o0,o1,o2,o3,o4,o5,o6) =>
 cndO (decide (v23<v22))
 (zAA (F84 ((o0,o1,o2,o3,o4,o5,o6),v23)) fun y3 =>
 cndO (!y3)
 (some (inr (inr (4:Int))))
 (some (inl (v22,IntKind.wrap .i64 (v23+1),o0,o1,o2,o3,o4,o5,o6))))
 (some (inr (inl (o0,o1,o2,o3,o4,o5,o6))))) (((c5.length:Int),(0:Int),c0,c1,c2,c3,c4,c5,c6))) fun (o0,o1,o2,o3,o4,o5,o6) =>
 bindE (Y:=Cls) (zAF (fun (v33,v34,o01,o11,o21,o31,o41,o51,o61) =>
 cndO (decide (v34<v33))
 (zAA (F85 ((o01,o11,o21,o31,o41,o51,o61),v34)) fun y3 =>
 cndO (!y3)
 (some (inr (inr (5:Int))))
 (some (inl (v33,IntKind.wrap .i64 (v34+1),o01,o11,o21,o31,o41,o51,o61))))
 (some (inr (inl (o01,o11,o21,o31,o41,o51,o61))))) (((o6.length:Int),(0:Int),o0,o1,o2,o3,o4,o5,o6))) fun (o01,o11,o21,o31,o41,o51,o61) =>
 bindE (zAF (fun (v43,v44,v45,o02,o12,o22,o32,o42,o52,o62) =>
 cndO (decide (v45<v44))
 (bindE (Y:=List Mth×Int×Int×Cls) (grdO (decide (0≤v45)) (atO (v43) v45.toNat fun x=>zAA (F86 (x.1)) fun y3 =>
 cndO (!y3)
 (zAA (F87 ((o02,o12,o22,o32,o42,o52,o62),x.1,x.2.1,x.2.2.1,x.2.2.2.1,x.2.2.2.2.1,x.2.2.2.2.2.1,x.2.2.2.2.2.2.1,x.2.2.2.2.2.2.2)) fun y4 =>
 cndO (!y4)
 (some (inr (inr (inr (6:Int)))))
 (some (inl (v43,v44,v45,o02,o12,o22,o32,o42,o52,o62))))
 (some (inl (v43,v44,v45,o02,o12,o22,o32,o42,o52,o62))))) fun (v431,v441,v451,o03,o13,o23,o33,o43,o53,o63) =>
 some (inl (v431,v441,IntKind.wrap .i64 (v451+1),o03,o13,o23,o33,o43,o53,o63)))
 (some (inr (inl ())))) ((o61,(o61.length:Int),(0:Int),o01,o11,o21,o31,o41,o51,o61))) fun _ =>
 some ((0:Int)))))
def tb29:=insT 29 (mkE 29 true [] ti29 to29 F29 [.tmp 2] 60 []) tb87
theorem ok29:TbOk Tryz.prog tb29:=okI ok87 noPl tv29 func29 rfl call29
abbrev ti30:SPat:=⟨[(0,.agg (pl plC))],[]⟩
abbrev to30:SPat:=⟨[(2,.i .i64)],[]⟩
def F30:Cls→Option (Int):=fun (c0,c1,c2,c3,c4,c5,c6) =>
 zAA (F22 (c0,c1,c2,c3,c4,c5,c6)) fun y =>
 cndO (decide (y=[]))
 (some ((1:Int)))
 (zAA (F88 (c0,c1,c2,c3,c4,c5,c6)) fun y1 =>
 some (y1))
def tb30:=insT 30 (mkE 30 true [] ti30 to30 F30 [.tmp 2] 8 []) tb29
theorem ok30:TbOk Tryz.prog tb30:=okI ok29 noPl noIv func30 rfl call30
abbrev ti7:SPat:=⟨[(0,.sl .byte)],[]⟩
abbrev to7:SPat:=⟨[(2,.b)],[]⟩
abbrev ts7_12:SPat:=⟨[(3,.ptr 3 0),(4,.i .i64),(5,.i .i64)],[.box 3 (pl plC)]⟩
abbrev zQa:SPat:=⟨[(3,.ptr 3 0),(4,.i .i64)],[.box 3 (pl plD)]⟩
abbrev zQZ:SPat:=⟨[(3,.ptr 3 0),(4,.i .i64),(5,.i .i64)],[.box 3 (pl plC)]⟩
abbrev zQY:SPat:=⟨[],[]⟩
abbrev zQX:SPat:=⟨[(3,.ptr 3 0),(4,.i .i64),(5,.i .i64)],[.box 3 (pl plC)]⟩
def tv7:Nat→Option SPat:=fun k=>bif k == 12 then some ts7_12 else bif k == 1000007 then some zQa else bif k == 1000014 then some zQZ else bif k == 2000000 then some zQY else bif k == 2000001 then some zQX else none
def F7:List UInt8→Option (Bool):=fun app =>
 cndO (decide (1048576<(app.length:Int)))
 (some (true))
 (zAA (F28 app) fun (y,y1,y2,y3,y4,y5,x) =>
 zAA (F29 (y,y1,y2,y3,y4,y5,x)) fun y6 =>
 bindE (Y:=Int×Cls) (zAA (F30 (y,y1,y2,y3,y4,y5,x)) fun y7 =>
 cndO (!decide (y6=y7))
 (some (inr false))
 (zAA (F20 (y,y1,y2,y3,y4,y5,x)) fun y8 =>
 cndO (!decide (decide (y6=1)=decide (y8=[])))
 (some (inr false))
 (some (inl (y6,y,y1,y2,y3,y4,y5,x))))) fun (v4,o0,o1,o2,o3,o4,o5,o6) =>
 cndO (decide (v4=1))
 (some (true))
 (zAA (F14 o0) fun y7 =>
 cndO (!decide (decide (v4=2) = !decide (y7=0)))
 (some (false))
 (bindE (zAF (fun (v41,v5,o01,o11,o21,o31,o41,o51,o61) =>
 bindE (Y:=Int×Int×Cls) (cndO (decide (v5<(o61.length:Int)))
 (cndO (decide (v41=0))
 (some (inl (v41,v5,o01,o11,o21,o31,o41,o51,o61)))
 (some (inr (inr (inl ())))))
 (some (inr (inr (inl ()))))) fun (v42,v51,o02,o12,o22,o32,o42,o52,o62) =>
 bindE (Y:=Int×Int×Cls) (grdO (decide (0≤v51)) (atO (o62) v51.toNat fun x1=>zAA (F31 (x1.2.2.2.2.2.1)) fun (y8,y9) =>
 cndO (decide (y9=decide (8≤x1.1)))
 (some (inr (inr (inr false))))
 (cndO (decide (8<x1.2.2.2.1))
 (some (inr (inr (inr false))))
 (cndO (decide (8<x1.2.2.2.2.1))
 (some (inr (inr (inr false))))
 (some (inl (v42,v51,o02,o12,o22,o32,o42,o52,o62))))))) fun (v43,v52,o03,o13,o23,o33,o43,o53,o63) =>
 some (inl (v43,IntKind.wrap .i64 (v52+1),o03,o13,o23,o33,o43,o53,o63))) ((v4,(0:Int),o0,o1,o2,o3,o4,o5,o6))) fun _ =>
 some (true))))
theorem r7 x:funT T tb30 noPl 74 tv7 (bodyOf Tryz.f7) ti7 to7 x=F7 x:=by kernel_rfl
def te7:=mkE 7 true [] ti7 to7 F7 [.tmp 2] 74 []
theorem c7:zHG Tryz.prog 7 te7.W:=zVe ok30 layOk mixed true _ ti7 to7 [] noPl tv7 func7 rfl results7 ntmps7 (by kernel_rfl) (by kernel_rfl) call7 F7 fun x _ h=>(r7 x).trans h
end Go.Proofs.YtdpapeledldifaaGreat
end
section
namespace Go.Proofs.YtdpapeledldifaaGreat
open Go Go.AM Go.TM Go.RowKit Go.ChangeShapes Go.WideShapes Go.ChangeAt
theorem rowL7 (x:List UInt8) (h:F7 x=some true):AC Tryz.prog 7 (encC false (.sl .byte) x) [] fun sv _=>sv = .b true :=
 law_args c7 x true rfl rfl h rfl
set_option maxRecDepth 100000 in
theorem lifted7 (hall:∀ x:List UInt8,F7 x=some true) (os:Os) (started:os.Started) (H:Type) (enc:TypeId×Value→H) :
  ReturnsInHanded {} Tryz.checked os 7 .any (Rows.fnCheckSpec.pre6 enc Tryz.prog Tryz.f7 [] false) (Rows.fnCheckSpec.post enc Tryz.prog Tryz.f7 false true false false):=by
 refine returnsInHanded_of_change_sized (C:=Tryz.checked) own started (by kernel_rfl) Tryz.func7
  (ChangeSpec.witness6 (enc:=enc) (C:=Tryz.checked) false ⟨#[],#[.slice none 0 0],[]⟩ 8 (by kernel_rfl) (by kernel_rfl) (by kernel_rfl) (by kernel_rfl)) ?_
 intro W base args ds gs before hval0 hW _ hsz0 _
 have hval:∀ (j:Nat) t v,Tryz.f7.params[j]? = some t→args[j]? = some v→Value.okWide Tryz.prog W .any base t v:=hval0
 have hsz:(DataW.weightsEach Tryz.prog (Tryz.f7.params.toList++[]) (ds++gs)).all (· ≤ reachBytes)=true:=hsz0
 have hW':=hW
 obtain ⟨p,q,hA0,hV,rfl,hfz,hnd⟩:=hW
 have hA:DataW.TrodAll enc Tryz.prog W 0 (fun _=>true) true Tryz.f7.params.toList args.toList ds p:=hA0
 rw [Tryz.params7] at hA hval hsz
 obtain ⟨v0,d0,rfl,rfl,h0⟩:=trodAll_one hA
 obtain ⟨rfl,rfl⟩:=trodVars_none hV
 obtain ⟨b0,n0,k0,rfl⟩:=okWide_slice Tryz.underlying22 (hval 0 22 v0 rfl rfl)
 have h0k:=h0
 obtain ⟨fuel,ht⟩:=h0
 obtain ⟨x,sx,lx,ox,rx⟩:=opens 8 fuel (.sl .byte) 22 [.slice b0 n0 k0] d0 p rd22 ht (fun m hm=>by
  have:=List.all_eq_true.1 hsz m (by simpa [DataW.weightsEach] using hm)
  simpa using this)
 have hlt:∀ z∈p,z.block<W.heap.size:=fun z hz=>hW'.lt z (by simpa using hz)
 refine (zVt Tryz.func7 (by kernel_rfl) (by kernel_rfl) (rowL7 x (hall x)) (fun _ _ h=>h) rfl (fun G hG=>rx G hG)).mono fun e W' ⟨he,hb⟩=>?_
 subst he
 exact ⟨_,rfl,[d0],[],p++[],[],p,[],hW',trodAll_mk1 (shut_bool Tryz.underlying4 true),trodAll_mk1 (Below.trod laidOut (by kernel_rfl) (of_decide_eq_true (by kernel_rfl)) h0k hb hlt),rfl,hb.frame _,fun h=>by cases h⟩
set_option maxHeartbeats 4000000 in
theorem joined7:joinedFacts Tryz.pinned.checked.prog 7 Tryz.f7 Rows.fnCheckSpec Rows.fnCheckRow=true:=by
 unfold joinedFacts
 repeat' with_reducible apply band
 all_goals (as_aux_lemma=>kernel_rfl)
theorem fnCheck_of (hall:∀ x:List UInt8,F7 x=some true):Rows.FnCheckSaid :=
 OpenClaim.holds_of_wide 7 Tryz.f7 rfl rfl rfl rfl rfl rfl rfl ⟨rfl,rfl,rfl,rfl,rfl⟩ rfl rfl rfl rfl rfl (by kernel_rfl) Tryz.func7 joined7
  (of_decide_eq_true (by kernel_rfl)) (by unfold Func.isWrapper;first | (rw [if_pos (by decide +kernel)];kernel_rfl) | (rw [if_neg (by decide +kernel)];exact ⟨rfl,rfl⟩))
  (fun os started H enc _=>lifted7 hall os started H enc)
end Go.Proofs.YtdpapeledldifaaGreat
end
section
namespace Go.TM
open Go.AM
section
variable {α β X Y R:Type} {Q:R→Prop}
def Tot (r:Option R) (Q:R→Prop):Prop:=∃ a,r=some a∧Q a
theorem Tot.ret {a:R} (h:Q a):Tot (some a) Q:=⟨a,rfl,h⟩
theorem Tot.mono {r:Option R} {Q':R→Prop} (h:Tot r Q) (g:∀ a,Q a→Q' a):Tot r Q':=by
 obtain ⟨a,e,h⟩:=h;exact ⟨a,e,g a h⟩
theorem Tot.bind {x:Option α} {P:α→Prop} {k:α→Option R} (h:Tot x P) (hk:∀ a,P a→Tot (k a) Q):Tot (zAA x k) Q:=by
 obtain ⟨a,rfl,h⟩:=h;exact hk a h
theorem Tot.grd {t:Bool} {k:Option R} (ht:t=true) (h:Tot k Q):Tot (grdO t k) Q:=by subst ht;exact h
theorem Tot.cnd {t:Bool} {a b:Option R} (h1:t=true→Tot a Q) (h2:t=false→Tot b Q):Tot (cndO t a b) Q:=by
 cases t
 ·exact h2 rfl
 ·exact h1 rfl
theorem Tot.at {l:List α} {n:Nat} {k:α→Option R} (hn:n<l.length) (h:∀ x,l[n]? = some x→Tot (k x) Q):Tot (atO l n k) Q:=by
 have e:l[n]? = some l[n]:=List.getElem?_eq_getElem hn
 show Tot (match l[n]? with | some x=>k x | none=>none) Q
 rw [e];exact h _ e
theorem Tot.at' {l:List α} {n:Nat} {k:α→Option R} {x:α} (e:l[n]? = some x) (h:Tot (k x) Q):Tot (atO l n k) Q:=by
 show Tot (match l[n]? with | some x=>k x | none=>none) Q
 rw [e];exact h
theorem Tot.seq {u:Option Unit} {k:Option R} (h1:Tot u fun _=>True) (h:Tot k Q):Tot (seqU u k) Q:=by
 obtain ⟨a,rfl,_⟩:=h1;exact h
theorem Tot.bindE {x:Option (Y ⊕ R)} {k:Y→Option R} (P:Y→Prop) (h:Tot x (Sum.elim P Q)) (hk:∀ y,P y→Tot (k y) Q):Tot (bindE x k) Q:=by
 obtain ⟨a,rfl,h⟩:=h
 cases a with
 | inl y=>exact hk y h
 | inr r=>exact ⟨r,rfl,h⟩
theorem Tot.loop {f:X→Option (X ⊕ R)} (I:X→Prop) (μ:X→Nat) (hs:∀ x,I x→Tot (f x) (Sum.elim (fun y=>I y∧μ y<μ x) Q)):∀ {x:X},I x→Tot (zAF f x) Q:=by
 have key:∀ n x,μ x≤n→I x→Tot (zAF f x) Q:=by
  intro n
  induction n with
  | zero =>
    intro x hx hi
    obtain ⟨a,e,h⟩:=hs x hi
    rw [zAk,e]
    cases a with
    | inl y=>exact absurd h.2 (by omega)
    | inr r=>exact ⟨r,rfl,h⟩
  | succ n ih =>
    intro x hx hi
    obtain ⟨a,e,h⟩:=hs x hi
    rw [zAk,e]
    cases a with
    | inl y=>exact ih y (by have:=h.2;omega) h.1
    | inr r=>exact ⟨r,rfl,h⟩
 intro x hi
 exact key _ x (Nat.le_refl _) hi
theorem zDN (a:Option R):zBU a a=a:=by unfold zBU;rw [if_pos rfl]
end
end Go.TM
end
section
namespace Go.TM
open Go.AM
section
variable {R α X Y:Type}
@[simp] theorem zAJ (A B:Option R):cndO true A B=A:=rfl
@[simp] theorem zAK (A B:Option R):cndO false A B=B:=rfl
@[simp] theorem zAE {p:Prop} [Decidable p] (A B:Option R):cndO (decide p) A B=if p then A else B:=by
  by_cases h:p <;> simp [h]
@[simp] theorem zAS (b:Bool) (A B:Option R):cndO (!b) A B=cndO b B A:=by cases b <;> rfl
@[simp] theorem zAG (A:Option R):grdO true A=A:=rfl
theorem zAW {p:Prop} [Decidable p] {A:Option R} (h:p):grdO (decide p) A=A:=by simp [h]
theorem zCs (a b:Bool) (A:Option R):grdO (a && b) A=grdO a (grdO b A):=by cases a <;> rfl
@[simp] theorem zAB (a:α) (k:α→Option R):zAA (some a) k=k a:=rfl
@[simp] theorem zAC (y:Y) (k:Y→Option R):bindE (some (.inl y)) k=k y:=rfl
@[simp] theorem zAH (r:R) (k:Y→Option R):bindE (some (.inr r)) k=some r:=rfl
@[simp] theorem zAV (u:Unit) (k:Option R):seqU (some u) k=k:=rfl
theorem atO_at {l:List α} {n:Nat} {x:α} {k:α→Option R} (h:l[n]? = some x):atO l n k=k x:=by unfold atO;rw [h]
theorem zAL {l:List α} {n:Nat} {k:α→Option R} (h:n<l.length):atO l n k=k l[n]:=atO_at (List.getElem?_eq_getElem h)
theorem zAo {c:Prop} [Decidable c] (A B:Option (Y ⊕ R)) (k:Y→Option R):bindE (if c then A else B) k=if c then bindE A k else bindE B k:=by split <;> rfl
theorem zBT {l:List α} {n:Nat} (h:n<l.length):l.drop n=l[n] :: l.drop (n+1):=List.drop_eq_getElem_cons h
end
end Go.TM
end
section
namespace Go.TM
open Go.AM
section
variable {α β:Type}
def SzOk (r:Option Int) (left:Int) (P:Prop):Prop:=∃ y,r=some y ∧ -1≤y∧y≤left∧(0≤y→P)
theorem SzOk.bind {r:Option Int} {k:Int→Option Int} {left:Int} {P Q:Prop} (h:SzOk r left P) (hk:∀ y,0≤y→y≤left→SzOk (k y) y Q) :
  SzOk (zAA r fun y=>cndO (decide (y<(0:Int))) (some (-1:Int)) (k y)) left (P∧Q):=by
 obtain ⟨y,h1,h2,h3,h4⟩:=h
 rw [h1,zAB,zAE]
 by_cases hy:y<0
 ·rw [if_pos hy];exact ⟨-1,rfl,by omega,by omega,by omega⟩
 ·rw [if_neg hy]
  obtain ⟨z,g1,g2,g3,g4⟩:=hk y (by omega) h3
  exact ⟨z,g1,g2,by omega,fun hz=>⟨h4 (by omega),g4 hz⟩⟩
end
end Go.TM
end
section
namespace Go.Proofs.YtdpapeledldifaaGreat
open Go Go.AM Go.TM
def Rd (c:Nat) (r:List UInt8×Int):Prop:=r.1.length≤2000∧0≤r.2∧r.2≤c
theorem Rd.mono {c d:Nat} {r:List UInt8×Int} (h:Rd c r) (hc:c≤d):Rd d r:=⟨h.1,h.2.1,by have:=h.2.2;omega⟩
theorem zQR {a b:Int} (ha:0≤a) (ha':a<9223372036854775808) (hb:0≤b) (hb':b<9223372036854775808):0≤xorI .i64 a b:=by
 unfold xorI
 have e:∀ {x:Int},0≤x→x<9223372036854775808→(BitVec.ofInt 64 x).toNat=x.toNat:=by
  intro x h0 h1
  rw [BitVec.toNat_ofInt]
  show (x % ((2 ^ 64:Nat):Int)).toNat=_
  rw [Int.emod_eq_of_lt h0 (by omega)]
 show 0≤IntKind.wrap .i64 ((BitVec.ofInt 64 a ^^^ BitVec.ofInt 64 b).toNat:Int)
 rw [BitVec.toNat_xor,e ha ha',e hb hb']
 have h:=Nat.xor_lt_two_pow (n:=63) (show a.toNat<2 ^ 63 by omega) (show b.toNat<2 ^ 63 by omega)
 rw [wrapI (by omega) (by omega)]
 omega
theorem zHI {a n:Int} (ha:0≤a) (hn:1≤n):0≤Int.tmod a n∧Int.tmod a n<n:=by
 rw [Int.tmod_eq_emod_of_nonneg ha]
 exact ⟨Int.emod_nonneg _ (by omega),Int.emod_lt_of_pos _ (by omega)⟩
theorem zRu {a n:Int} (ha:0≤a) (hn:1≤n):0≤Int.tdiv a n∧Int.tdiv a n≤a:=by
 rw [Int.tdiv_eq_ediv_of_nonneg ha]
 exact ⟨Int.ediv_nonneg ha (by omega),Int.ediv_le_self _ ha⟩
theorem zNJ (x:UInt8):(0:Int)≤(x.toNat:Int)∧(x.toNat:Int)≤255:=by
 have:=x.toNat_lt;omega
theorem t51 {n:Int} {r:List UInt8×Int} {c:Nat} (h:Rd c r) (hc:c≤1000000):Tot (F51 (n,r)) fun y=>0≤y.1∧(1≤n→y.1<n)∧(n<1→y.1=0)∧Rd (c+1) y.2:=by
 obtain ⟨b,p⟩:=r
 obtain ⟨hb,h0,h1⟩:=h
 simp only at hb h0 h1
 have hR:Rd (c+1) (b,p+1):=⟨hb,by show (0:Int)≤p+1;omega,by show p+1≤((c+1:Nat):Int);omega⟩
 unfold F51
 simp only [show IntKind.wrap .i64 (p+1)=p+1 from wrapI (by omega) (by omega)]
 refine Tot.bindE (fun y=>y=(n,b,p+1)∧1≤n∧b≠[]) ?_ ?_
 ·refine Tot.cnd (fun hn=>?_) (fun hn=>?_)
  ·simp only [decide_eq_true_eq] at hn
   exact Tot.ret ⟨by simp,fun h=>absurd h (by omega),fun _=>rfl,hR⟩
  ·simp only [decide_eq_false_iff_not] at hn
   refine Tot.cnd (fun hb=>?_) (fun hb=>?_)
   ·exact Tot.ret ⟨by simp,fun h=>by show (0:Int)<n;omega,fun _=>rfl,hR⟩
   ·simp only [decide_eq_false_iff_not] at hb
    exact Tot.ret ⟨rfl,by omega,fun e=>hb (by rw [e];rfl)⟩
 ·rintro _ ⟨rfl,hn,hne⟩
  have hl:1≤b.length:=by cases b;exact absurd rfl hne;simp
  simp only [show IntKind.wrap .i64 (p+1 - 1)=p by rw [show p+1 - 1=p by omega];exact wrapI (by omega) (by omega)]
  have hnz:(!decide (n=0))=true:=by simp;omega
  have hlz:(!decide (((b.length:Nat):Int)=0))=true:=by simp;omega
  refine Tot.cnd (fun hk=>?_) (fun hk=>?_)
  ·simp only [decide_eq_true_eq] at hk
   refine Tot.grd (by simpa using h0) (Tot.at (by omega) fun x hx=>Tot.grd hnz ?_)
   have hx:=zNJ x
   have hw:IntKind.wrap .i64 ((x.toNat:Nat):Int)=x.toNat:=wrapI (by omega) (by omega)
   rw [hw]
   have:=zHI (n:=n) hx.1 hn
   exact Tot.ret ⟨this.1,fun _=>this.2,fun h=>absurd h (by omega),hR⟩
  ·have hm1:=zHI (a:=p) (n:=(b.length:Int)) h0 (by omega)
   have w7:IntKind.wrap .i64 (IntKind.wrap .i64 (p*7)+3)=p*7+3:=by
    rw [wrapI (x:=p*7) (by omega) (by omega),wrapI (by omega) (by omega)]
   simp only [w7]
   have hm2:=zHI (a:=p*7+3) (n:=(b.length:Int)) (by omega) (by omega)
   refine Tot.grd hlz (Tot.grd (by simpa using hm1.1) (Tot.at (by omega) fun x hx=>Tot.grd hlz (Tot.grd (by simpa using hm2.1) (Tot.at (by omega) fun x1 hx1=>Tot.grd hlz (Tot.grd hnz ?_)))))
   have hx:=zNJ x
   have hx1:=zNJ x1
   have hd:=zRu (a:=p) (n:=(b.length:Int)) h0 (by omega)
   generalize (x.toNat:Int)=u at hx ⊢
   generalize (x1.toNat:Int)=v at hx1 ⊢
   generalize Int.tdiv p (b.length:Int)=d at hd ⊢
   have e:IntKind.wrap .i64 (IntKind.wrap .i64 (IntKind.wrap .i64 (IntKind.wrap .i64 (IntKind.wrap .i64 u*131)+IntKind.wrap .i64 (IntKind.wrap .i64 v*1117))+IntKind.wrap .i64 (p*29))+IntKind.wrap .i64 (IntKind.wrap .i64 d*53))=u*131+v*1117+p*29+d*53:=by
    rw [wrapI (x:=u) (by omega) (by omega),wrapI (x:=v) (by omega) (by omega),wrapI (x:=d) (by omega) (by omega),wrapI (x:=u*131) (by omega) (by omega),wrapI (x:=v*1117) (by omega) (by omega),wrapI (x:=p*29) (by omega) (by omega),wrapI (x:=d*53) (by omega) (by omega),wrapI (x:=u*131+v*1117) (by omega) (by omega),wrapI (x:=u*131+v*1117+p*29) (by omega) (by omega),wrapI (by omega) (by omega)]
   simp only [e]
   generalize ht:u*131+v*1117+p*29+d*53=t
   have h64:=zRu (a:=t) (n:=64) (by omega) (by omega)
   rw [wrapI (x:=Int.tdiv t 64) (by omega) (by omega)]
   have hxo:=zQR (a:=t) (b:=Int.tdiv t 64) (by omega) (by omega) (by omega) (by omega)
   have:=zHI (n:=n) hxo hn
   exact Tot.ret ⟨this.1,fun _=>this.2,fun h=>absurd h (by omega),hR⟩
theorem tot_of {α:Type} {F:List α×List UInt8×Int→Option (α×List UInt8×Int)} (hF:∀ l r,F (l,r)=zAA (F51 (((l.length:Nat):Int),r)) fun y=>grdO (decide (0≤y.1)) (atO l y.1.toNat fun x=>some (x,y.2)))
  {l:List α} {r:List UInt8×Int} {c:Nat} (h:Rd c r) (hc:c≤1000000) (hl:l≠[]):Tot (F (l,r)) fun y=>y.1∈l∧Rd (c+1) y.2:=by
 rw [hF]
 have hl:1≤l.length:=by cases l;exact absurd rfl hl;simp
 refine Tot.bind (t51 h hc) fun y hy=>?_
 have:=hy.2.1 (by omega)
 refine Tot.grd (by simpa using hy.1) (Tot.at (by omega) fun x hx=>Tot.ret ⟨List.mem_of_getElem? hx,hy.2.2.2⟩)
theorem t105 {l:List Int} {r:List UInt8×Int} {c:Nat} (h:Rd c r) (hc:c≤1000000) (hl:l≠[]):Tot (F105 (l,r)) fun y=>y.1∈l∧Rd (c+1) y.2 :=
 tot_of (fun l r=>rfl) h hc hl
theorem t119 {l:List (List UInt8)} {r:List UInt8×Int} {c:Nat} (h:Rd c r) (hc:c≤1000000) (hl:l≠[]):Tot (F119 (l,r)) fun y=>y.1∈l∧Rd (c+1) y.2 :=
 tot_of (fun l r=>rfl) h hc hl
theorem t49 (code:List UInt8):Tot (F49 code) (Rd 0):=by
 unfold F49
 refine Tot.cnd (fun h=>?_) (fun h=>?_)
 ·simp only [decide_eq_true_eq] at h
  refine Tot.grd (by simp;omega) (Tot.ret ⟨?_,by simp,by simp⟩)
  simp only [List.drop_zero,List.length_take];omega
 ·simp only [decide_eq_false_iff_not] at h
  exact Tot.ret ⟨by simp only;omega,by simp,by simp⟩
theorem zFW (n:Int) : -9223372036854775808≤IntKind.wrap .i64 n∧IntKind.wrap .i64 n≤9223372036854775807:=by
 simp only [IntKind.wrap,IntKind.bits,IntKind.signed]
 simp
 split <;> omega
theorem wrap8' (n:Int):0≤IntKind.wrap .u8 n∧IntKind.wrap .u8 n≤255:=by
 have h:IntKind.wrap .u8 n=n % 256:=by simp [IntKind.wrap,IntKind.bits,IntKind.signed]
 rw [h];omega
theorem u8ok (n:Int):(decide ((0:Int)≤IntKind.wrap .u8 n) && decide (IntKind.wrap .u8 n≤(255:Int)))=true:=by
 have:=wrap8' n;simp [this.1,this.2]
theorem d274:∀ (k:Nat) (n:Int),n≤9223372036854775807→0≤n→n<10 ^ (k+1)→k≤30→Tot (G274 (k+1) n) fun s=>s.length≤k+1
 | 0,n,_,h0,h1,_=>by
   show Tot (H274 (G274 0) n) _
   unfold H274
   refine Tot.cnd (fun h=>?_) (fun _=>Tot.cnd (fun h=>?_) (fun _=>Tot.cnd (fun _=>Tot.grd (u8ok _) (Tot.ret (by simp))) (fun h=>?_)))
   ·simp only [decide_eq_true_eq] at h;omega
   ·simp only [decide_eq_true_eq] at h;omega
   ·simp only [decide_eq_false_iff_not] at h;omega
 | k+1,n,hm,h0,h1,hk=>by
   show Tot (H274 (G274 (k+1)) n) _
   unfold H274
   refine Tot.cnd (fun h=>?_) (fun _=>Tot.cnd (fun h=>?_) (fun _=>Tot.cnd (fun _=>Tot.grd (u8ok _) (Tot.ret (by simp))) (fun h=>?_)))
   ·simp only [decide_eq_true_eq] at h;omega
   ·simp only [decide_eq_true_eq] at h;omega
   ·simp only [decide_eq_false_iff_not] at h
    have hp:(10:Int) ^ (k+1+1)=10 ^ (k+1)*10:=Int.pow_succ _ _
    have hd:Int.tdiv n 10=n / 10:=Int.tdiv_eq_ediv_of_nonneg h0
    have hlt:n / 10<10 ^ (k+1):=by omega
    have hw:IntKind.wrap .i64 (Int.tdiv n 10)=n / 10:=by rw [hd];exact wrapI (by omega) (by omega)
    obtain ⟨y,e,hy⟩:=d274 k (n / 10) (by omega) (by omega) hlt (by omega)
    rw [hw,e]
    simp only [zAB,decide_true,zAG,zAV,u8ok]
    have hl:decide (y.length+1≤9223372036854775807)=true:=by simp only [decide_eq_true_eq];omega
    simp only [hl,zAG,zDN]
    exact Tot.ret (by simp only [List.length_append,List.length_cons,List.length_nil];omega)
theorem t274 {n:Int} (h1 : -9223372036854775808≤n) (h2:n≤9223372036854775807):Tot (F274 n) fun s=>s.length≤25:=by
 have p23:(10:Int) ^ 23=100000000000000000000000:=by decide
 have p24:(10:Int) ^ 24=1000000000000000000000000:=by decide
 by_cases h0:0≤n
 ·exact (d274 23 n h2 h0 (by omega) (by omega)).mono fun s h=>by omega
 ·show Tot (H274 (G274 23) n) _
  unfold H274
  refine Tot.cnd (fun h=>Tot.ret (by simp)) (fun h=>Tot.cnd (fun _=>?_) (fun h=>?_))
  ·simp only [decide_eq_false_iff_not] at h
   rw [wrapI (x:=0 - n) (by omega) (by omega)]
   refine Tot.bind (d274 22 (0 - n) (by omega) (by omega) (by omega) (by omega)) fun y hy=>Tot.grd (by simp only [decide_eq_true_eq];omega) (Tot.ret ?_)
   simp only [List.length_append,List.length_cons,List.length_nil];omega
  ·simp only [decide_eq_false_iff_not] at h;omega
theorem t301 {list:List (List UInt8)} {s:List UInt8} (hl:list.length≤1000000000000):Tot (F301 (list,s)) fun _=>True:=by
 unfold F301
 refine Tot.bindE (fun _=>True) (Tot.loop (fun x=>x.1=list∧0≤x.2.2∧x.2.2≤(list.length:Int)) (fun x=>list.length - x.2.2.toNat) ?_ ⟨rfl,by simp,by simp⟩) (fun _ _=>Tot.ret trivial)
 rintro ⟨l,s,i⟩ ⟨rfl,h0,h1⟩
 simp only at hl
 refine Tot.cnd (fun h=>?_) (fun h=>Tot.ret trivial)
 simp only [decide_eq_true_eq] at h
 simp only at h0 h1
 refine Tot.grd (by simpa using h0) (Tot.at (by omega) fun x _=>Tot.cnd (fun _=>Tot.ret trivial) fun _=>Tot.ret ?_)
 simp only [Sum.elim_inl,true_and]
 rw [wrapI (by omega) (by omega)]
 omega
theorem t107 (a b c:Int):Tot (F107 (a,b,c)) fun _=>True:=by
 unfold F107
 exact Tot.cnd (fun _=>Tot.ret trivial) fun _=>Tot.ret trivial
theorem t251 (n:Int):Tot (F251 n) fun _=>True:=by
 unfold F251
 refine Tot.bindE (fun _=>True) ?_ fun y _=>?_
 ·exact Tot.cnd (fun _=>Tot.ret trivial) fun _=>Tot.cnd (fun _=>Tot.ret trivial) fun _=>Tot.cnd (fun _=>Tot.ret trivial) fun _=>Tot.cnd (fun _=>Tot.ret trivial) fun _=>Tot.cnd (fun _=>Tot.ret trivial) fun _=>Tot.ret trivial
 ·refine Tot.bind (t107 _ _ _) fun y _=>Tot.cnd (fun _=>Tot.ret trivial) fun _=>Tot.bind (t107 _ _ _) fun y _=>Tot.cnd (fun _=>Tot.ret trivial) fun _=>Tot.bind (t107 _ _ _) fun y _=>Tot.cnd (fun _=>Tot.ret trivial) fun _=>Tot.ret trivial
theorem t278 {s:List UInt8} {b most:Int} (hs:s.length≤1000000000000) (hm:0≤most) :
  Tot (F278 (s,b,most)) fun out=>1≤out.length∧out.length≤s.length+1∧(out.length:Int)≤most+1∧∀ x∈out,x.length≤s.length:=by
 unfold F278
 refine Tot.bindE (fun y=>y.1=s∧y.2.1.length≤s.length∧(y.2.1.length:Int)≤most∧(∀ x∈y.2.1,x.length≤s.length)∧0≤y.2.2∧y.2.2≤(s.length:Int))
  (Tot.loop (fun x=>x.1=s∧x.2.2.1=most∧(∀ z∈x.2.2.2.1,z.length≤s.length)∧(x.2.2.2.1.length:Int)≤most∧(x.2.2.2.1.length:Int)≤x.2.2.2.2.2∧0≤x.2.2.2.2.1∧x.2.2.2.2.1≤x.2.2.2.2.2∧x.2.2.2.2.2≤(s.length:Int)) (fun x=>s.length - x.2.2.2.2.2.toNat) ?_ ⟨rfl,rfl,by simp,by simpa using hm,by simp,by simp,by simp,by simp⟩) ?_
 ·rintro ⟨s1,b1,m1,out,fr,i⟩ ⟨rfl,rfl,h1,h2,h3,h4,h5,h6⟩
  simp only at h1 h2 h3 h4 h5 h6 hs
  refine Tot.bindE (fun y=>y=(s1,b1,m1,out,fr,i)∧i<(s1.length:Int)∧(out.length:Int)<m1) ?_ ?_
  ·refine Tot.cnd (fun h=>Tot.cnd (fun g=>?_) fun _=>?_) fun _=>?_
   ·simp only [decide_eq_true_eq] at h g
    exact Tot.ret ⟨rfl,h,g⟩
   ·exact Tot.ret ⟨rfl,by simp only;omega,h2,h1,h4,by simp only;omega⟩
   ·exact Tot.ret ⟨rfl,by simp only;omega,h2,h1,h4,by simp only;omega⟩
  ·rintro _ ⟨rfl,g1,g2⟩
   refine Tot.bindE (fun y=>y.1=s1∧y.2.2.1=m1∧(∀ z∈y.2.2.2.1,z.length≤s1.length)∧(y.2.2.2.1.length:Int)≤m1∧(y.2.2.2.1.length:Int)≤i+1∧0≤y.2.2.2.2.1∧y.2.2.2.2.1≤i+1∧y.2.2.2.2.2=i) ?_ ?_
   ·refine Tot.grd (by simp only [decide_eq_true_eq];omega) (Tot.at (by omega) fun x _=>Tot.cnd (fun _=>?_) fun _=>?_)
    ·refine Tot.grd (by simp only [Bool.and_eq_true,decide_eq_true_eq];omega) (Tot.grd (by simp only [Bool.and_eq_true,decide_eq_true_eq];omega) (Tot.ret ⟨rfl,rfl,?_,?_,?_,?_,?_,rfl⟩))
     ·intro z hz
      simp only [List.mem_append,List.mem_singleton] at hz
      rcases hz with hz | rfl
      ·exact h1 z hz
      ·simp only [List.length_drop,List.length_take];omega
     ·simp only [List.length_append,List.length_cons,List.length_nil];omega
     ·simp only [List.length_append,List.length_cons,List.length_nil];omega
     ·simp only;rw [wrapI (by omega) (by omega)];omega
     ·simp only;rw [wrapI (by omega) (by omega)];omega
    ·exact Tot.ret ⟨rfl,rfl,h1,h2,by simp only;omega,h4,by simp only;omega,rfl⟩
   ·rintro ⟨s2,b2,m2,out2,fr2,i2⟩ ⟨rfl,rfl,k1,k2,k3,k4,k5,rfl⟩
    simp only at k1 k2 k3 k4 k5 hs g1 g2 h4 h5
    have hw:IntKind.wrap .i64 (i2+1)=i2+1:=wrapI (by omega) (by omega)
    refine Tot.ret ⟨⟨rfl,rfl,k1,k2,?_,k4,?_,?_⟩,?_⟩ <;> (simp only;rw [hw];omega)
 ·rintro ⟨s1,out,fr⟩ ⟨rfl,h1,h2,h3,h4,h5⟩
  simp only at h1 h2 h3 h4 h5 hs
  refine Tot.grd (by simp only [Bool.and_eq_true,decide_eq_true_eq];omega) (Tot.grd (by simp only [Bool.and_eq_true,decide_eq_true_eq];omega) (Tot.ret ⟨?_,?_,?_,?_⟩))
  ·simp
  ·simp only [List.length_append,List.length_cons,List.length_nil];omega
  ·simp only [List.length_append,List.length_cons,List.length_nil];omega
  ·intro z hz
   simp only [List.mem_append,List.mem_singleton] at hz
   rcases hz with hz | rfl
   ·exact h3 z hz
   ·simp only [List.length_drop,List.length_take];omega
end Go.Proofs.YtdpapeledldifaaGreat
end
section
namespace Go.Proofs.YtdpapeledldifaaGreat
open Go Go.AM Go.TM
set_option maxRecDepth 10000
def Gt (K:Nat) (g:List UInt8×List UInt8×List UInt8×Int×List UInt8):Prop :=
 g.1.length≤K∧g.2.1.length≤K∧g.2.2.1.length≤K∧((-9223372036854775808:Int)≤g.2.2.2.1∧g.2.2.2.1≤(9223372036854775807:Int))∧g.2.2.2.2.length≤3
theorem Gt.mono {K L:Nat} {g:List UInt8×List UInt8×List UInt8×Int×List UInt8} (h:Gt K g) (hc:K≤L):Gt L g :=
 ⟨Nat.le_trans h.1 hc,Nat.le_trans h.2.1 hc,Nat.le_trans h.2.2.1 hc,h.2.2.2.1,h.2.2.2.2⟩
theorem zCo {m:Nat} {l:List (List UInt8)} {r:List UInt8×Int} {c:Nat} (h:Rd c r) (hc:c≤1000000) (hl:l≠[]) (hm:∀ x∈l,x.length≤m):Tot (F119 (l,r)) fun y=>y.1.length≤m∧Rd (c+1) y.2 :=
 (t119 h hc hl).mono fun y hy=>⟨hm _ hy.1,hy.2⟩
theorem zUY {m:Int} {l:List Int} {r:List UInt8×Int} {c:Nat} (h:Rd c r) (hc:c≤1000000) (hl:l≠[]) (hm:∀ x∈l,-m≤x∧x≤m):Tot (F105 (l,r)) fun y=>-m≤y.1∧y.1≤m∧Rd (c+1) y.2 :=
 (t105 h hc hl).mono fun y hy=>⟨(hm _ hy.1).1,(hm _ hy.1).2,hy.2⟩
theorem t273 {s:List UInt8} {g:List UInt8×List UInt8×List UInt8×Int×List UInt8} {r:List UInt8×Int} {K:Nat} {c:Nat} (hs:List.length s≤100) (hg:Gt K g) (hr:Rd c r) (hK:K≤950000) (hc:c≤950000):Tot (F273 (s,g,r)) fun y=>Gt (K+110) y.1∧Rd (c+0) y.2:=by
 obtain ⟨o1,o2,o3,o4,o5⟩:=g
 have ko1:List.length o1≤K+0:=hg.1
 have ko2:List.length o2≤K+0:=hg.2.1
 have ko3:List.length o3≤K+0:=hg.2.2.1
 have ko5:List.length o5≤3:=hg.2.2.2.2
 obtain ⟨o0,o11⟩:=r
 unfold F273
 refine Tot.grd (by simp <;> omega) ?_
 refine Tot.grd (by simp <;> omega) ?_
 refine Tot.grd (by simp <;> omega) ?_
 refine Tot.bind (P:=fun y=>y.length≤100) (Tot.ret (by decide)) ?_
 intro y ky
 refine Tot.seq (by repeat first | exact Tot.ret trivial | refine Tot.seq ?_ ?_ | refine Tot.grd (by first | decide | simp <;> omega) ?_) ?_
 refine Tot.bind (t278 (by omega) (by omega)) ?_
 intro y1 ky1
 refine Tot.seq (by repeat first | exact Tot.ret trivial | refine Tot.seq ?_ ?_ | refine Tot.grd (by first | decide | simp <;> omega) ?_) ?_
 refine Tot.at (by omega) fun x _=>?_
 refine Tot.bind (t301 (by omega)) ?_
 intro y2 _
 refine Tot.seq (by repeat first | exact Tot.ret trivial | refine Tot.seq ?_ ?_ | refine Tot.grd (by first | decide | simp <;> omega) ?_) ?_
 refine Tot.bind (t251 _) ?_
 intro y3 _
 refine Tot.seq (by repeat first | exact Tot.ret trivial | refine Tot.seq ?_ ?_ | refine Tot.grd (by first | decide | simp <;> omega) ?_) ?_
 exact Tot.ret ⟨⟨(by show List.length _≤_;first | omega | simp <;> omega),(by show List.length _≤_;first | omega | simp <;> omega),(by show List.length _≤_;first | omega | simp <;> omega),(zFW _),(by show List.length _≤_;first | omega | simp <;> omega)⟩,hr.mono (by omega)⟩
theorem t277 {g:List UInt8×List UInt8×List UInt8×Int×List UInt8} {r:List UInt8×Int} {K:Nat} {c:Nat} (hg:Gt K g) (hr:Rd c r) (hK:K≤950000) (hc:c≤950000):Tot (F277 (g,r)) fun y=>List.length y.1≤25∧Gt (K+0) y.2.1∧Rd (c+1) y.2.2:=by
 obtain ⟨o1,o2,o3,o4,o5⟩:=g
 obtain ⟨o0,o11⟩:=r
 unfold F277
 refine Tot.bind (t51 hr (by omega)) ?_
 rintro ⟨y,y1,y2⟩ ⟨(a2:(0:Int)≤y),(b3:(1:Int)≤(3:Int)→y<(3:Int)),-,hr1⟩
 refine Tot.bind (t274 (by omega) (by omega)) ?_
 intro y3 (ky3:List.length y3≤25)
 exact Tot.ret ⟨(by first | omega | simp <;> omega),hg.mono (by omega),hr1.mono (by omega)⟩
theorem t308 {g:List UInt8×List UInt8×List UInt8×Int×List UInt8} {r:List UInt8×Int} {K:Nat} {c:Nat} (hg:Gt K g) (hr:Rd c r) (hK:K≤950000) (hc:c≤950000):Tot (F308 (g,r)) fun y=>List.length y.1≤20∧Gt (K+0) y.2.1∧Rd (c+0) y.2.2:=by
 obtain ⟨o1,o2,o3,o4,o5⟩:=g
 have ko1:List.length o1≤K+0:=hg.1
 have ko2:List.length o2≤K+0:=hg.2.1
 have ko3:List.length o3≤K+0:=hg.2.2.1
 have ko5:List.length o5≤3:=hg.2.2.2.2
 obtain ⟨o0,o11⟩:=r
 unfold F308
 refine Tot.grd (by simp <;> omega) ?_
 refine Tot.grd (by simp <;> omega) ?_
 refine Tot.grd (by simp <;> omega) ?_
 refine Tot.grd (by simp <;> omega) ?_
 exact Tot.ret ⟨(by first | omega | simp <;> omega),hg.mono (by omega),hr.mono (by omega)⟩
theorem t307 {locals:List UInt8} {stack:List UInt8} {g:List UInt8×List UInt8×List UInt8×Int×List UInt8} {r:List UInt8×Int} {K:Nat} {c:Nat} (hlocals:List.length locals≤20) (hstack:List.length stack≤20) (hg:Gt K g) (hr:Rd c r) (hK:K≤950000) (hc:c≤950000):Tot (F307 (locals,stack,g,r)) fun y=>Gt (K+110) y.1∧Rd (c+0) y.2:=by
 obtain ⟨o1,o2,o3,o4,o5⟩:=g
 have ko1:List.length o1≤K+0:=hg.1
 have ko2:List.length o2≤K+0:=hg.2.1
 have ko3:List.length o3≤K+0:=hg.2.2.1
 have ko5:List.length o5≤3:=hg.2.2.2.2
 obtain ⟨o0,o11⟩:=r
 unfold F307
 refine Tot.grd (by simp <;> omega) ?_
 refine Tot.bind (t274 hg.2.2.2.1.1 hg.2.2.2.1.2) ?_
 intro y (ky:List.length y≤25)
 refine Tot.seq (by repeat first | exact Tot.ret trivial | refine Tot.seq ?_ ?_ | refine Tot.grd (by first | decide | simp <;> omega) ?_) ?_
 refine Tot.grd (by simp <;> omega) ?_
 refine Tot.grd (by simp <;> omega) ?_
 refine Tot.grd (by simp <;> omega) ?_
 refine Tot.grd (by simp <;> omega) ?_
 refine Tot.grd (by simp <;> omega) ?_
 refine Tot.grd (by simp <;> omega) ?_
 exact Tot.ret ⟨⟨(by show List.length _≤_;first | omega | simp <;> omega),(by show List.length _≤_;first | omega | simp <;> omega),(by show List.length _≤_;first | omega | simp <;> omega),⟨hg.2.2.2.1.1,hg.2.2.2.1.2⟩,(by show List.length _≤_;first | omega | simp <;> omega)⟩,hr.mono (by omega)⟩
theorem t303 {g:List UInt8×List UInt8×List UInt8×Int×List UInt8} {r:List UInt8×Int} {K:Nat} {c:Nat} (hg:Gt K g) (hr:Rd c r) (hK:K≤900000) (hc:c≤900000):Tot (F303 (g,r)) fun y=>Gt (K+500) y.1∧Rd (c+10) y.2:=by
 obtain ⟨o1,o2,o3,o4,o5⟩:=g
 obtain ⟨o0,o11⟩:=r
 unfold F303
 refine Tot.bind (t51 hr (by omega)) ?_
 rintro ⟨y,y1,y2⟩ ⟨(a2:(0:Int)≤y),(b3:(1:Int)≤(6:Int)→y<(6:Int)),-,hr1⟩
 refine Tot.bindE (fun y=>Gt (K+330) y.1∧Rd (c+4) y.2) ?_ ?_
 ·refine Tot.cnd (fun c4=>?_) (fun c4=>?_)
  ·refine Tot.bind (t277 hg hr1 (by omega) (by omega)) ?_
   rintro ⟨y3,⟨y4,y5,y6,y7,y8⟩,x,x1⟩ ⟨(ky3:List.length y3≤25),hg5,hr6⟩
   refine Tot.grd (by simp <;> omega) ?_
   refine Tot.bind (t273 (by first | omega | simp <;> omega) hg5 hr6 (by omega) (by omega)) ?_
   rintro ⟨⟨y9,y10,y11,y12,y13⟩,y14,x2⟩ ⟨hg7,hr8⟩
   refine Tot.bind (t273 (by first | omega | simp <;> omega) hg7 hr8 (by omega) (by omega)) ?_
   rintro ⟨⟨y15,y16,y17,y18,y19⟩,y20,x3⟩ ⟨hg9,hr10⟩
   exact Tot.ret ⟨hg9.mono (by omega),hr10.mono (by omega)⟩
  ·refine Tot.cnd (fun c11=>?_) (fun c11=>?_)
   ·refine Tot.bind (t277 hg hr1 (by omega) (by omega)) ?_
    rintro ⟨y3,⟨y4,y5,y6,y7,y8⟩,x,x1⟩ ⟨(ky3:List.length y3≤25),hg12,hr13⟩
    refine Tot.grd (by simp <;> omega) ?_
    refine Tot.bind (t273 (by first | omega | simp <;> omega) hg12 hr13 (by omega) (by omega)) ?_
    rintro ⟨⟨y9,y10,y11,y12,y13⟩,y14,x2⟩ ⟨hg14,hr15⟩
    refine Tot.bind (t273 (by first | omega | simp <;> omega) hg14 hr15 (by omega) (by omega)) ?_
    rintro ⟨⟨y15,y16,y17,y18,y19⟩,y20,x3⟩ ⟨hg16,hr17⟩
    exact Tot.ret ⟨hg16.mono (by omega),hr17.mono (by omega)⟩
   ·refine Tot.cnd (fun c18=>?_) (fun c18=>?_)
    ·refine Tot.bind (t273 (by first | omega | simp <;> omega) hg hr1 (by omega) (by omega)) ?_
     rintro ⟨⟨y3,y4,y5,y6,y7⟩,y8,x⟩ ⟨hg19,hr20⟩
     exact Tot.ret ⟨hg19.mono (by omega),hr20.mono (by omega)⟩
    ·refine Tot.cnd (fun c21=>?_) (fun c21=>?_)
     ·refine Tot.bind (zUY (m:=100000) hr1 (by omega) (by simp) (by decide)) ?_
      rintro ⟨y3,y4,y5⟩ ⟨(a23:(-100000:Int)≤y3),(b24:y3≤(100000:Int)),hr22⟩
      refine Tot.bind (t274 (by omega) (by omega)) ?_
      intro y6 (ky6:List.length y6≤25)
      refine Tot.grd (by simp <;> omega) ?_
      refine Tot.bind (t273 (by first | omega | simp <;> omega) hg hr22 (by omega) (by omega)) ?_
      rintro ⟨⟨y7,y8,y9,y10,y11⟩,y12,x⟩ ⟨hg25,hr26⟩
      refine Tot.bind (zUY (m:=100000) hr26 (by omega) (by simp) (by decide)) ?_
      rintro ⟨y13,y14,y15⟩ ⟨(a28:(-100000:Int)≤y13),(b29:y13≤(100000:Int)),hr27⟩
      refine Tot.bind (t274 (by omega) (by omega)) ?_
      intro y16 (ky16:List.length y16≤25)
      refine Tot.grd (by simp <;> omega) ?_
      refine Tot.bind (t273 (by first | omega | simp <;> omega) hg25 hr27 (by omega) (by omega)) ?_
      rintro ⟨⟨y17,y18,y19,y20,y21⟩,y22,x1⟩ ⟨hg30,hr31⟩
      refine Tot.bind (zCo (m:=3) hr31 (by omega) (by simp) (by decide)) ?_
      rintro ⟨y23,y24,y25⟩ ⟨(ky23:List.length y23≤3),hr32⟩
      refine Tot.bind (t273 (by first | omega | simp <;> omega) hg30 hr32 (by omega) (by omega)) ?_
      rintro ⟨⟨y26,y27,y28,y29,y30⟩,y31,x2⟩ ⟨hg33,hr34⟩
      exact Tot.ret ⟨hg33.mono (by omega),hr34.mono (by omega)⟩
     ·refine Tot.bind (zUY (m:=100000) hr1 (by omega) (by simp) (by decide)) ?_
      rintro ⟨y3,y4,y5⟩ ⟨(a36:(-100000:Int)≤y3),(b37:y3≤(100000:Int)),hr35⟩
      refine Tot.bind (t274 (by omega) (by omega)) ?_
      intro y6 (ky6:List.length y6≤25)
      refine Tot.grd (by simp <;> omega) ?_
      refine Tot.bind (t273 (by first | omega | simp <;> omega) hg hr35 (by omega) (by omega)) ?_
      rintro ⟨⟨y7,y8,y9,y10,y11⟩,y12,x⟩ ⟨hg38,hr39⟩
      exact Tot.ret ⟨hg38.mono (by omega),hr39.mono (by omega)⟩
 rintro ⟨⟨o12,o21,o31,o41,o51⟩,o01,o13⟩ ⟨hg40,hr41⟩
 exact Tot.ret ⟨hg40.mono (by omega),hr41.mono (by omega)⟩
theorem t304 {g:List UInt8×List UInt8×List UInt8×Int×List UInt8} {r:List UInt8×Int} {K:Nat} {c:Nat} (hg:Gt K g) (hr:Rd c r) (hK:K≤900000) (hc:c≤900000):Tot (F304 (g,r)) fun y=>Gt (K+300) y.1∧Rd (c+5) y.2:=by
 obtain ⟨o1,o2,o3,o4,o5⟩:=g
 obtain ⟨o0,o11⟩:=r
 unfold F304
 refine Tot.bind (t51 hr (by omega)) ?_
 rintro ⟨y,y1,y2⟩ ⟨(a2:(0:Int)≤y),(b3:(1:Int)≤(10:Int)→y<(10:Int)),-,hr1⟩
 refine Tot.bindE (fun y=>Gt (K+220) y.1∧Rd (c+3) y.2) ?_ ?_
 ·refine Tot.cnd (fun c4=>?_) (fun c4=>?_)
  ·refine Tot.bind (t273 (by first | omega | simp <;> omega) hg hr1 (by omega) (by omega)) ?_
   rintro ⟨⟨y3,y4,y5,y6,y7⟩,y8,x⟩ ⟨hg5,hr6⟩
   exact Tot.ret ⟨hg5.mono (by omega),hr6.mono (by omega)⟩
  ·refine Tot.bindE (fun y=>Gt (K+0) y.2.2.1∧Rd (c+1) y.2.2.2) ?_ ?_
   ·refine Tot.cnd (fun c7=>?_) (fun c7=>?_)
    ·exact Tot.ret ⟨hg.mono (by omega),hr1.mono (by omega)⟩
    ·exact Tot.ret ⟨hg.mono (by omega),hr1.mono (by omega)⟩
   rintro ⟨v8,v15,⟨o12,o21,o31,o41,o51⟩,o01,o13⟩ ⟨hg8,hr9⟩
   refine Tot.cnd (fun c10=>?_) (fun c10=>?_)
   ·refine Tot.bind (t273 (by first | omega | simp <;> omega) hg8 hr9 (by omega) (by omega)) ?_
    rintro ⟨⟨y3,y4,y5,y6,y7⟩,y8,x⟩ ⟨hg11,hr12⟩
    exact Tot.ret ⟨hg11.mono (by omega),hr12.mono (by omega)⟩
   ·refine Tot.cnd (fun c13=>?_) (fun c13=>?_)
    ·refine Tot.bind (t273 (by first | omega | simp <;> omega) hg8 hr9 (by omega) (by omega)) ?_
     rintro ⟨⟨y3,y4,y5,y6,y7⟩,y8,x⟩ ⟨hg14,hr15⟩
     exact Tot.ret ⟨hg14.mono (by omega),hr15.mono (by omega)⟩
    ·refine Tot.cnd (fun c16=>?_) (fun c16=>?_)
     ·refine Tot.bind (t277 hg8 hr9 (by omega) (by omega)) ?_
      rintro ⟨y3,⟨y4,y5,y6,y7,y8⟩,x,x1⟩ ⟨(ky3:List.length y3≤25),hg17,hr18⟩
      refine Tot.grd (by simp <;> omega) ?_
      refine Tot.bind (t273 (by first | omega | simp <;> omega) hg17 hr18 (by omega) (by omega)) ?_
      rintro ⟨⟨y9,y10,y11,y12,y13⟩,y14,x2⟩ ⟨hg19,hr20⟩
      refine Tot.bind (zCo (m:=1) hr20 (by omega) (by simp) (by decide)) ?_
      rintro ⟨y15,y16,y17⟩ ⟨(ky15:List.length y15≤1),hr21⟩
      refine Tot.grd (by simp <;> omega) ?_
      refine Tot.bind (t273 (by first | omega | simp <;> omega) hg19 hr21 (by omega) (by omega)) ?_
      rintro ⟨⟨y18,y19,y20,y21,y22⟩,y23,x3⟩ ⟨hg22,hr23⟩
      exact Tot.ret ⟨hg22.mono (by omega),hr23.mono (by omega)⟩
     ·refine Tot.cnd (fun c24=>?_) (fun c24=>?_)
      ·refine Tot.bind (t277 hg8 hr9 (by omega) (by omega)) ?_
       rintro ⟨y3,⟨y4,y5,y6,y7,y8⟩,x,x1⟩ ⟨(ky3:List.length y3≤25),hg25,hr26⟩
       refine Tot.grd (by simp <;> omega) ?_
       refine Tot.bind (t273 (by first | omega | simp <;> omega) hg25 hr26 (by omega) (by omega)) ?_
       rintro ⟨⟨y9,y10,y11,y12,y13⟩,y14,x2⟩ ⟨hg27,hr28⟩
       refine Tot.bind (t273 (by first | omega | simp <;> omega) hg27 hr28 (by omega) (by omega)) ?_
       rintro ⟨⟨y15,y16,y17,y18,y19⟩,y20,x3⟩ ⟨hg29,hr30⟩
       exact Tot.ret ⟨hg29.mono (by omega),hr30.mono (by omega)⟩
      ·refine Tot.cnd (fun c31=>?_) (fun c31=>?_)
       ·refine Tot.bind (zCo (m:=3) hr9 (by omega) (by simp) (by decide)) ?_
        rintro ⟨y3,y4,y5⟩ ⟨(ky3:List.length y3≤3),hr32⟩
        refine Tot.grd (by simp <;> omega) ?_
        refine Tot.bind (t273 (by first | omega | simp <;> omega) hg8 hr32 (by omega) (by omega)) ?_
        rintro ⟨⟨y6,y7,y8,y9,y10⟩,y11,x⟩ ⟨hg33,hr34⟩
        exact Tot.ret ⟨hg33.mono (by omega),hr34.mono (by omega)⟩
       ·refine Tot.bind (t273 (by first | omega | simp <;> omega) hg8 hr9 (by omega) (by omega)) ?_
        rintro ⟨⟨y3,y4,y5,y6,y7⟩,y8,x⟩ ⟨hg35,hr36⟩
        exact Tot.ret ⟨hg35.mono (by omega),hr36.mono (by omega)⟩
 rintro ⟨⟨o12,o21,o31,o41,o51⟩,o01,o13⟩ ⟨hg37,hr38⟩
 exact Tot.ret ⟨hg37.mono (by omega),hr38.mono (by omega)⟩
theorem t305 {g:List UInt8×List UInt8×List UInt8×Int×List UInt8} {r:List UInt8×Int} {K:Nat} {c:Nat} (hg:Gt K g) (hr:Rd c r) (hK:K≤850000) (hc:c≤850000):Tot (F305 (g,r)) fun y=>Gt (K+1200) y.1∧Rd (c+20) y.2:=by
 obtain ⟨o1,o2,o3,o4,o5⟩:=g
 obtain ⟨o0,o11⟩:=r
 unfold F305
 refine Tot.bind (zCo (m:=6) hr (by omega) (by simp) (by decide)) ?_
 rintro ⟨y,y1,y2⟩ ⟨(ky:List.length y≤6),hr1⟩
 refine Tot.bindE (fun y=>List.length y.1≤10∧Gt (K+500) y.2.1∧Rd (c+11) y.2.2) ?_ ?_
 ·refine Tot.cnd (fun c2=>?_) (fun c2=>?_)
  ·refine Tot.bind (t277 hg hr1 (by omega) (by omega)) ?_
   rintro ⟨y3,⟨y4,y5,y6,y7,y8⟩,x,x1⟩ ⟨(ky3:List.length y3≤25),hg3,hr4⟩
   refine Tot.grd (by simp <;> omega) ?_
   refine Tot.bind (t273 (by first | omega | simp <;> omega) hg3 hr4 (by omega) (by omega)) ?_
   rintro ⟨⟨y9,y10,y11,y12,y13⟩,y14,x2⟩ ⟨hg5,hr6⟩
   exact Tot.ret ⟨(by first | omega | simp <;> omega),hg5.mono (by omega),hr6.mono (by omega)⟩
  ·refine Tot.cnd (fun c7=>?_) (fun c7=>?_)
   ·refine Tot.bind (t277 hg hr1 (by omega) (by omega)) ?_
    rintro ⟨y3,⟨y4,y5,y6,y7,y8⟩,x,x1⟩ ⟨(ky3:List.length y3≤25),hg8,hr9⟩
    refine Tot.grd (by simp <;> omega) ?_
    refine Tot.bind (t273 (by first | omega | simp <;> omega) hg8 hr9 (by omega) (by omega)) ?_
    rintro ⟨⟨y9,y10,y11,y12,y13⟩,y14,x2⟩ ⟨hg10,hr11⟩
    refine Tot.bind (t277 hg10 hr11 (by omega) (by omega)) ?_
    rintro ⟨y15,⟨y16,y17,y18,y19,y20⟩,x3,x4⟩ ⟨(ky15:List.length y15≤25),hg12,hr13⟩
    refine Tot.grd (by simp <;> omega) ?_
    refine Tot.bind (t273 (by first | omega | simp <;> omega) hg12 hr13 (by omega) (by omega)) ?_
    rintro ⟨⟨y21,y22,y23,y24,y25⟩,y26,x5⟩ ⟨hg14,hr15⟩
    exact Tot.ret ⟨(by first | omega | simp <;> omega),hg14.mono (by omega),hr15.mono (by omega)⟩
   ·refine Tot.bind (t303 hg hr1 (by omega) (by omega)) ?_
    rintro ⟨⟨y3,y4,y5,y6,y7⟩,y8,x⟩ ⟨hg16,hr17⟩
    exact Tot.ret ⟨(by first | omega | simp <;> omega),hg16.mono (by omega),hr17.mono (by omega)⟩
 rintro ⟨test,⟨o12,o21,o31,o41,o51⟩,o01,o13⟩ ⟨(ktest:List.length test≤10),hg18,hr19⟩
 refine Tot.grd (by simp <;> omega) ?_
 refine Tot.bind (t274 (zFW _).1 (zFW _).2) ?_
 intro y3 (ky3:List.length y3≤25)
 refine Tot.grd (by simp <;> omega) ?_
 refine Tot.bind (t273 (by first | omega | simp <;> omega) hg18 hr19 (by omega) (by omega)) ?_
 rintro ⟨⟨y4,y5,y6,y7,y8⟩,y9,x⟩ ⟨hg20,hr21⟩
 refine Tot.bind (t273 (by first | omega | simp <;> omega) hg20 hr21 (by omega) (by omega)) ?_
 rintro ⟨⟨y10,y11,y12,y13,y14⟩,y15,x1⟩ ⟨hg22,hr23⟩
 refine Tot.bind (t273 (by first | omega | simp <;> omega) hg22 hr23 (by omega) (by omega)) ?_
 rintro ⟨⟨y16,y17,y18,y19,y20⟩,y21,x2⟩ ⟨hg24,hr25⟩
 refine Tot.bind (t308 hg24 hr25 (by omega) (by omega)) ?_
 rintro ⟨y22,⟨y23,y24,y25,y26,y27⟩,x3,x4⟩ ⟨(ky22:List.length y22≤20),hg26,hr27⟩
 refine Tot.bind (zCo (m:=1) hr27 (by omega) (by simp) (by decide)) ?_
 rintro ⟨y28,y29,y30⟩ ⟨(ky28:List.length y28≤1),hr28⟩
 refine Tot.bind (t307 (by first | omega | simp <;> omega) (by first | omega | simp <;> omega) hg26 hr28 (by omega) (by omega)) ?_
 rintro ⟨⟨y31,y32,y33,y34,y35⟩,y36,x5⟩ ⟨hg29,hr30⟩
 exact Tot.ret ⟨hg29.mono (by omega),hr30.mono (by omega)⟩
theorem t306 {g:List UInt8×List UInt8×List UInt8×Int×List UInt8} {r:List UInt8×Int} {K:Nat} {c:Nat} (hg:Gt K g) (hr:Rd c r) (hK:K≤850000) (hc:c≤850000):Tot (F306 (g,r)) fun y=>Gt (K+600) y.1∧Rd (c+5) y.2:=by
 obtain ⟨o1,o2,o3,o4,o5⟩:=g
 obtain ⟨o0,o11⟩:=r
 unfold F306
 refine Tot.bind (t51 hr (by omega)) ?_
 rintro ⟨y,y1,y2⟩ ⟨(a2:(0:Int)≤y),(b3:(1:Int)≤(5:Int)→y<(5:Int)),-,hr1⟩
 refine Tot.bindE (fun y=>Gt (K+440) y.1∧Rd (c+2) y.2) ?_ ?_
 ·refine Tot.cnd (fun c4=>?_) (fun c4=>?_)
  ·refine Tot.bind (t277 hg hr1 (by omega) (by omega)) ?_
   rintro ⟨y3,⟨y4,y5,y6,y7,y8⟩,x,x1⟩ ⟨(ky3:List.length y3≤25),hg5,hr6⟩
   refine Tot.grd (by simp <;> omega) ?_
   refine Tot.bind (t273 (by first | omega | simp <;> omega) hg5 hr6 (by omega) (by omega)) ?_
   rintro ⟨⟨y9,y10,y11,y12,y13⟩,y14,x2⟩ ⟨hg7,hr8⟩
   refine Tot.bind (t273 (by first | omega | simp <;> omega) hg7 hr8 (by omega) (by omega)) ?_
   rintro ⟨⟨y15,y16,y17,y18,y19⟩,y20,x3⟩ ⟨hg9,hr10⟩
   refine Tot.bind (t273 (by first | omega | simp <;> omega) hg9 hr10 (by omega) (by omega)) ?_
   rintro ⟨⟨y21,y22,y23,y24,y25⟩,y26,x4⟩ ⟨hg11,hr12⟩
   exact Tot.ret ⟨hg11.mono (by omega),hr12.mono (by omega)⟩
  ·refine Tot.cnd (fun c13=>?_) (fun c13=>?_)
   ·refine Tot.bind (t273 (by first | omega | simp <;> omega) hg hr1 (by omega) (by omega)) ?_
    rintro ⟨⟨y3,y4,y5,y6,y7⟩,y8,x⟩ ⟨hg14,hr15⟩
    refine Tot.bind (t277 hg14 hr15 (by omega) (by omega)) ?_
    rintro ⟨y9,⟨y10,y11,y12,y13,y14⟩,x1,x2⟩ ⟨(ky9:List.length y9≤25),hg16,hr17⟩
    refine Tot.grd (by simp <;> omega) ?_
    refine Tot.bind (t273 (by first | omega | simp <;> omega) hg16 hr17 (by omega) (by omega)) ?_
    rintro ⟨⟨y15,y16,y17,y18,y19⟩,y20,x3⟩ ⟨hg18,hr19⟩
    exact Tot.ret ⟨hg18.mono (by omega),hr19.mono (by omega)⟩
   ·refine Tot.cnd (fun c20=>?_) (fun c20=>?_)
    ·refine Tot.bind (t273 (by first | omega | simp <;> omega) hg hr1 (by omega) (by omega)) ?_
     rintro ⟨⟨y3,y4,y5,y6,y7⟩,y8,x⟩ ⟨hg21,hr22⟩
     refine Tot.bind (t277 hg21 hr22 (by omega) (by omega)) ?_
     rintro ⟨y9,⟨y10,y11,y12,y13,y14⟩,x1,x2⟩ ⟨(ky9:List.length y9≤25),hg23,hr24⟩
     refine Tot.grd (by simp <;> omega) ?_
     refine Tot.bind (t273 (by first | omega | simp <;> omega) hg23 hr24 (by omega) (by omega)) ?_
     rintro ⟨⟨y15,y16,y17,y18,y19⟩,y20,x3⟩ ⟨hg25,hr26⟩
     exact Tot.ret ⟨hg25.mono (by omega),hr26.mono (by omega)⟩
    ·refine Tot.cnd (fun c27=>?_) (fun c27=>?_)
     ·refine Tot.bind (t277 hg hr1 (by omega) (by omega)) ?_
      rintro ⟨y3,⟨y4,y5,y6,y7,y8⟩,x,x1⟩ ⟨(ky3:List.length y3≤25),hg28,hr29⟩
      refine Tot.grd (by simp <;> omega) ?_
      refine Tot.bind (t273 (by first | omega | simp <;> omega) hg28 hr29 (by omega) (by omega)) ?_
      rintro ⟨⟨y9,y10,y11,y12,y13⟩,y14,x2⟩ ⟨hg30,hr31⟩
      refine Tot.bind (t273 (by first | omega | simp <;> omega) hg30 hr31 (by omega) (by omega)) ?_
      rintro ⟨⟨y15,y16,y17,y18,y19⟩,y20,x3⟩ ⟨hg32,hr33⟩
      exact Tot.ret ⟨hg32.mono (by omega),hr33.mono (by omega)⟩
     ·refine Tot.bind (t273 (by first | omega | simp <;> omega) hg hr1 (by omega) (by omega)) ?_
      rintro ⟨⟨y3,y4,y5,y6,y7⟩,y8,x⟩ ⟨hg34,hr35⟩
      refine Tot.bind (t277 hg34 hr35 (by omega) (by omega)) ?_
      rintro ⟨y9,⟨y10,y11,y12,y13,y14⟩,x1,x2⟩ ⟨(ky9:List.length y9≤25),hg36,hr37⟩
      refine Tot.grd (by simp <;> omega) ?_
      refine Tot.bind (t273 (by first | omega | simp <;> omega) hg36 hr37 (by omega) (by omega)) ?_
      rintro ⟨⟨y15,y16,y17,y18,y19⟩,y20,x3⟩ ⟨hg38,hr39⟩
      refine Tot.bind (t273 (by first | omega | simp <;> omega) hg38 hr39 (by omega) (by omega)) ?_
      rintro ⟨⟨y21,y22,y23,y24,y25⟩,y26,x4⟩ ⟨hg40,hr41⟩
      refine Tot.bind (t273 (by first | omega | simp <;> omega) hg40 hr41 (by omega) (by omega)) ?_
      rintro ⟨⟨y27,y28,y29,y30,y31⟩,y32,x5⟩ ⟨hg42,hr43⟩
      exact Tot.ret ⟨hg42.mono (by omega),hr43.mono (by omega)⟩
 rintro ⟨⟨o12,o21,o31,o41,o51⟩,o01,o13⟩ ⟨hg44,hr45⟩
 exact Tot.ret ⟨hg44.mono (by omega),hr45.mono (by omega)⟩
end Go.Proofs.YtdpapeledldifaaGreat
end
section
namespace Go.Proofs.YtdpapeledldifaaGreat
open Go Go.AM Go.TM
def bCst (c:Cst):Prop:=c.2.1.length≤1048576
def zGX (l:List Knd):Prop:=l.length≤1048576
def bFrm (f:Frm):Prop:=zGX f.2.1∧zGX f.2.2
def bMth (m:Mth):Prop:=m.2.2.2.2.2.1.length≤1048576∧m.2.2.2.2.2.2.1.length≤1048576∧m.2.2.2.2.2.2.2.length≤1048576∧∀ f∈m.2.2.2.2.2.2.2,bFrm f
def bCls (c:Cls):Prop:=(c.1.length≤1048576∧∀ x∈c.1,bCst x)∧c.2.2.2.2.1.length≤1048576∧c.2.2.2.2.2.1.length≤1048576∧c.2.2.2.2.2.2.length≤1048576∧∀ x∈c.2.2.2.2.2.2,bMth x
end Go.Proofs.YtdpapeledldifaaGreat
end
section
namespace Go.Proofs.YtdpapeledldifaaGreat
open Go Go.AM Go.TM
set_option maxRecDepth 10000
theorem zCK {α R:Type} {l:List α} {n:Nat} {x:α} {k:α→Option R} (e:l[n]? = some x):atO l n k=k x:=by
 show (match l[n]? with | some x=>k x | none=>none)=k x
 rw [e]
def Pl (K:Nat) (p:List Cst):Prop:=p.length≤K∧∀ x∈p,x.2.1.length≤60
theorem Pl.mono {K L:Nat} {p:List Cst} (h:Pl K p) (hc:K≤L):Pl L p:=⟨Nat.le_trans h.1 hc,h.2⟩
theorem Pl.app {K:Nat} {p:List Cst} {x:Cst} (h:Pl K p) (hx:x.2.1.length≤60):Pl (K+1) (p++[x]):=by
 refine ⟨by have:=h.1;simp only [List.length_append,List.length_cons,List.length_nil];omega,fun y hy=>?_⟩
 simp only [List.mem_append,List.mem_singleton] at hy
 rcases hy with hy | rfl
 ·exact h.2 y hy
 ·exact hx
theorem t327 {s:List UInt8} (hs:s.length≤1000000000000):Tot (F327 s) fun _=>True:=by
 unfold F327
 refine Tot.bindE (fun y=>y.1=s) (Tot.loop (fun z=>z.1=s∧0≤z.2.2∧z.2.2≤(s.length:Int)) (fun z=>s.length - z.2.2.toNat) ?_ ⟨rfl,by simp,by simp⟩) ?_
 ·rintro ⟨s1,n,i⟩ ⟨rfl,h0,h1⟩
  simp only at h0 h1 hs
  refine Tot.cnd (fun h=>?_) (fun h=>Tot.ret rfl)
  simp only [decide_eq_true_eq] at h
  refine Tot.bindE (fun y=>y=(s1,n,i)) ?_ ?_
  ·exact Tot.grd (by simpa using h0) (Tot.at (by omega) fun x _=>Tot.cnd (fun _=>Tot.ret trivial) fun _=>Tot.grd (by simpa using h0) (Tot.at (by omega) fun x1 _=>Tot.cnd (fun _=>Tot.ret trivial) fun _=>Tot.cnd (fun _=>Tot.ret trivial) fun _=>Tot.ret rfl))
  ·rintro _ rfl
   refine Tot.grd (by simpa using h0) (Tot.at (by omega) fun x _=>Tot.ret ⟨⟨rfl,?_,?_⟩,?_⟩) <;> (simp only;rw [wrapI (x:=i+1) (by omega) (by omega)];omega)
 ·rintro ⟨s1,n⟩ rfl
  refine Tot.cnd (fun _=>Tot.ret trivial) fun _=>Tot.cnd (fun h=>?_) fun _=>Tot.ret trivial
  simp only [decide_eq_true_eq] at h
  exact Tot.at (by omega) fun x _=>Tot.cnd (fun _=>Tot.ret trivial) fun _=>Tot.ret trivial
theorem t325 {s:List UInt8} (hs:s.length≤1000000000000):Tot (F325 s) fun _=>True:=by
 unfold F325
 refine Tot.bindE (fun y=>y.1=s∧(y.2=true→1<s.length)) ?_ ?_
 ·refine Tot.cnd (fun h=>?_) fun h=>Tot.ret ⟨rfl,by simp⟩
  simp only [decide_eq_true_eq] at h
  exact Tot.at (by omega) fun x _=>Tot.ret ⟨rfl,fun _=>by omega⟩
 ·rintro ⟨s1,b⟩ ⟨rfl,hb⟩
  simp only at hb hs
  refine Tot.cnd (fun h=>?_) fun h=>Tot.bind (t327 hs) fun _ _=>Tot.ret trivial
  have:=hb h
  exact Tot.grd (by simp;omega) (Tot.bind (t327 (by simp;omega)) fun _ _=>Tot.ret trivial)
theorem t326 {x:Cst} {p:List Cst} {f n s:Int} {fa:List Int} {fi:List (Int×Int×Int)} {ms:List Mth} {bad:Bool} {K:Nat} (hx:x.2.1.length≤60) (hp:Pl K p) (hK:K≤1000000):Tot (F326 (x,p,f,n,s,fa,fi,ms,bad)) fun y=>∃ i q,y=(i,q,f,n,s,fa,fi,ms,bad)∧Pl (K+1) q:=by
 obtain ⟨c0,c1,c2,c3⟩:=x
 have hl:=hp.1
 unfold F326
 refine Tot.bindE (fun y=>y=((c0,c1,c2,c3),p,f,n,s,fa,fi,ms,bad)) (Tot.loop (fun z=>z.2=((c0,c1,c2,c3),p,f,n,s,fa,fi,ms,bad)∧0≤z.1∧z.1≤(p.length:Int)) (fun z=>p.length - z.1.toNat) ?_ ⟨rfl,by simp,by simp⟩) ?_
 ·rintro ⟨i,z⟩ ⟨hz,h0,h1⟩
  simp only at hz h0 h1
  subst hz
  refine Tot.cnd (fun h=>?_) (fun h=>Tot.ret rfl)
  simp only [decide_eq_true_eq] at h
  refine Tot.grd (by simp;omega) (Tot.at (by omega) fun y _=>Tot.cnd (fun _=>?_) fun _=>?_)
  ·exact Tot.ret ⟨_,_,rfl,hp.mono (by omega)⟩
  ·refine Tot.ret ⟨⟨rfl,?_,?_⟩,?_⟩ <;> (simp only;rw [wrapI (by omega) (by omega)];omega)
 ·rintro _ rfl
  exact Tot.grd (by simp;omega) (Tot.ret ⟨_,_,rfl,hp.app hx⟩)
theorem t312 {x:List UInt8} {p:List Cst} {f n s:Int} {fa:List Int} {fi:List (Int×Int×Int)} {ms:List Mth} {bad:Bool} {K:Nat} (hp:Pl K p) (hK:K≤1000000):Tot (F312 (x,p,f,n,s,fa,fi,ms,bad)) fun y=>∃ i q b,y=(i,q,f,n,s,fa,fi,ms,b)∧Pl (K+1) q:=by
 unfold F312
 refine Tot.cnd (fun h=>Tot.ret ⟨_,_,_,rfl,hp.mono (by omega)⟩) (fun h=>?_)
 simp only [decide_eq_false_iff_not] at h
 refine Tot.bind (t326 (by simp only;omega) hp hK) ?_
 rintro _ ⟨i,q,rfl,hq⟩
 exact Tot.ret ⟨_,_,_,rfl,hq⟩
theorem t310 {x:List UInt8} {p:List Cst} {f n s:Int} {fa:List Int} {fi:List (Int×Int×Int)} {ms:List Mth} {bad:Bool} {K:Nat} (hp:Pl K p) (hK:K≤900000):Tot (F310 (x,p,f,n,s,fa,fi,ms,bad)) fun y=>∃ i q b,y=(i,q,f,n,s,fa,fi,ms,b)∧Pl (K+2) q:=by
 unfold F310
 refine Tot.bind (t312 hp (by omega)) ?_
 rintro _ ⟨i,q,b,rfl,hq⟩
 refine Tot.bind (t326 (by simp) hq (by omega)) ?_
 rintro _ ⟨i,q,rfl,hq⟩
 exact Tot.ret ⟨_,_,_,rfl,hq⟩
theorem t311 {x:List UInt8} {p:List Cst} {f n s:Int} {fa:List Int} {fi:List (Int×Int×Int)} {ms:List Mth} {bad:Bool}  (hx:x.length≤1000000000000):Tot (F311 (x,p,f,n,s,fa,fi,ms,bad)) fun y=>∃ i b,y=(i,p,f,n,s,fa,fi,ms,b):=by
 unfold F311
 refine Tot.bind (t327 hx) ?_
 rintro i -
 exact Tot.cnd (fun _=>Tot.ret ⟨_,_,rfl⟩) fun _=>Tot.ret ⟨_,_,rfl⟩
theorem zSM {x:Cst} {p:List Cst} {f n s:Int} {fa:List Int} {fi:List (Int×Int×Int)} {ms:List Mth} {bad:Bool} {K:Nat} (hx:x.2.1.length≤60) (hp:Pl K p) (hK:K≤1000000):Tot (F5000326 (x,(p,f,n,s,fi,ms,bad),fa)) fun y=>∃ i q,y=(i,(q,f,n,s,fi,ms,bad),fa)∧Pl (K+1) q:=by
 obtain ⟨c0,c1,c2,c3⟩:=x
 have hl:=hp.1
 unfold F5000326
 refine Tot.bindE (fun y=>y=((c0,c1,c2,c3),(p,f,n,s,fi,ms,bad),fa)) (Tot.loop (fun z=>z.2=((c0,c1,c2,c3),(p,f,n,s,fi,ms,bad),fa)∧0≤z.1∧z.1≤(p.length:Int)) (fun z=>p.length - z.1.toNat) ?_ ⟨rfl,by simp,by simp⟩) ?_
 ·rintro ⟨i,z⟩ ⟨hz,h0,h1⟩
  simp only at hz h0 h1
  subst hz
  refine Tot.cnd (fun h=>?_) (fun h=>Tot.ret rfl)
  simp only [decide_eq_true_eq] at h
  refine Tot.grd (by simp;omega) (Tot.at (by omega) fun y _=>Tot.cnd (fun _=>?_) fun _=>?_)
  ·exact Tot.ret ⟨_,_,rfl,hp.mono (by omega)⟩
  ·refine Tot.ret ⟨⟨rfl,?_,?_⟩,?_⟩ <;> (simp only;rw [wrapI (by omega) (by omega)];omega)
 ·rintro _ rfl
  exact Tot.grd (by simp;omega) (Tot.ret ⟨_,_,rfl,hp.app hx⟩)
theorem t5000312 {x:List UInt8} {p:List Cst} {f n s:Int} {fa:List Int} {fi:List (Int×Int×Int)} {ms:List Mth} {bad:Bool} {K:Nat} (hp:Pl K p) (hK:K≤1000000):Tot (F5000312 (x,(p,f,n,s,fi,ms,bad),fa)) fun y=>∃ i q b,y=(i,(q,f,n,s,fi,ms,b),fa)∧Pl (K+1) q:=by
 unfold F5000312
 refine Tot.cnd (fun h=>Tot.ret ⟨_,_,_,rfl,hp.mono (by omega)⟩) (fun h=>?_)
 simp only [decide_eq_false_iff_not] at h
 refine Tot.bind (zSM (by simp only;omega) hp hK) ?_
 rintro _ ⟨i,q,rfl,hq⟩
 exact Tot.ret ⟨_,_,_,rfl,hq⟩
theorem t5000310 {x:List UInt8} {p:List Cst} {f n s:Int} {fa:List Int} {fi:List (Int×Int×Int)} {ms:List Mth} {bad:Bool} {K:Nat} (hp:Pl K p) (hK:K≤900000):Tot (F5000310 (x,(p,f,n,s,fi,ms,bad),fa)) fun y=>∃ i q b,y=(i,(q,f,n,s,fi,ms,b),fa)∧Pl (K+2) q:=by
 unfold F5000310
 refine Tot.bind (t5000312 hp (by omega)) ?_
 rintro _ ⟨i,q,b,rfl,hq⟩
 refine Tot.bind (zSM (by simp) hq (by omega)) ?_
 rintro _ ⟨i,q,rfl,hq⟩
 exact Tot.ret ⟨_,_,_,rfl,hq⟩
theorem t6000326 {x:Cst} {p:List Cst} {f n s:Int} {fa:List Int} {fi:List (Int×Int×Int)} {ms:List Mth} {bad:Bool} {K:Nat} (hx:x.2.1.length≤60) (hp:Pl K p) (hK:K≤1000000):Tot (F6000326 (x,(p,f,n,s,fa,ms,bad),fi)) fun y=>∃ i q,y=(i,(q,f,n,s,fa,ms,bad),fi)∧Pl (K+1) q:=by
 obtain ⟨c0,c1,c2,c3⟩:=x
 have hl:=hp.1
 unfold F6000326
 refine Tot.bindE (fun y=>y=((c0,c1,c2,c3),(p,f,n,s,fa,ms,bad),fi)) (Tot.loop (fun z=>z.2=((c0,c1,c2,c3),(p,f,n,s,fa,ms,bad),fi)∧0≤z.1∧z.1≤(p.length:Int)) (fun z=>p.length - z.1.toNat) ?_ ⟨rfl,by simp,by simp⟩) ?_
 ·rintro ⟨i,z⟩ ⟨hz,h0,h1⟩
  simp only at hz h0 h1
  subst hz
  refine Tot.cnd (fun h=>?_) (fun h=>Tot.ret rfl)
  simp only [decide_eq_true_eq] at h
  refine Tot.grd (by simp;omega) (Tot.at (by omega) fun y _=>Tot.cnd (fun _=>?_) fun _=>?_)
  ·exact Tot.ret ⟨_,_,rfl,hp.mono (by omega)⟩
  ·refine Tot.ret ⟨⟨rfl,?_,?_⟩,?_⟩ <;> (simp only;rw [wrapI (by omega) (by omega)];omega)
 ·rintro _ rfl
  exact Tot.grd (by simp;omega) (Tot.ret ⟨_,_,rfl,hp.app hx⟩)
theorem zSL {x:List UInt8} {p:List Cst} {f n s:Int} {fa:List Int} {fi:List (Int×Int×Int)} {ms:List Mth} {bad:Bool} {K:Nat} (hp:Pl K p) (hK:K≤1000000):Tot (F6000312 (x,(p,f,n,s,fa,ms,bad),fi)) fun y=>∃ i q b,y=(i,(q,f,n,s,fa,ms,b),fi)∧Pl (K+1) q:=by
 unfold F6000312
 refine Tot.cnd (fun h=>Tot.ret ⟨_,_,_,rfl,hp.mono (by omega)⟩) (fun h=>?_)
 simp only [decide_eq_false_iff_not] at h
 refine Tot.bind (t6000326 (by simp only;omega) hp hK) ?_
 rintro _ ⟨i,q,rfl,hq⟩
 exact Tot.ret ⟨_,_,_,rfl,hq⟩
theorem t6000311 {x:List UInt8} {p:List Cst} {f n s:Int} {fa:List Int} {fi:List (Int×Int×Int)} {ms:List Mth} {bad:Bool}  (hx:x.length≤1000000000000):Tot (F6000311 (x,(p,f,n,s,fa,ms,bad),fi)) fun y=>∃ i b,y=(i,(p,f,n,s,fa,ms,b),fi):=by
 unfold F6000311
 refine Tot.bind (t327 hx) ?_
 rintro i -
 exact Tot.cnd (fun _=>Tot.ret ⟨_,_,rfl⟩) fun _=>Tot.ret ⟨_,_,rfl⟩
theorem zIo {x:Cst} {p:List Cst} {f n s:Int} {fa:List Int} {fi:List (Int×Int×Int)} {ms:List Mth} {bad:Bool} {K:Nat} {ri:Nat} {r0 r1 r2 r3 r4:Int} {r5:List UInt8} {r6:List (Int×Int×Int×Int)} {fr:List Frm} (hx:x.2.1.length≤60) (hp:Pl K p) (hK:K≤1000000):Tot (F807000326 (x,(p,f,n,s,fa,fi,bad),(ms,ri,r0,r1,r2,r3,r4,r5,r6),fr)) fun y=>∃ i q,y=(i,(q,f,n,s,fa,fi,bad),(ms,ri,r0,r1,r2,r3,r4,r5,r6),fr)∧Pl (K+1) q:=by
 obtain ⟨c0,c1,c2,c3⟩:=x
 have hl:=hp.1
 unfold F807000326
 refine Tot.bindE (fun y=>y=((c0,c1,c2,c3),(p,f,n,s,fa,fi,bad),(ms,ri,r0,r1,r2,r3,r4,r5,r6),fr)) (Tot.loop (fun z=>z.2=((c0,c1,c2,c3),(p,f,n,s,fa,fi,bad),(ms,ri,r0,r1,r2,r3,r4,r5,r6),fr)∧0≤z.1∧z.1≤(p.length:Int)) (fun z=>p.length - z.1.toNat) ?_ ⟨rfl,by simp,by simp⟩) ?_
 ·rintro ⟨i,z⟩ ⟨hz,h0,h1⟩
  simp only at hz h0 h1
  subst hz
  refine Tot.cnd (fun h=>?_) (fun h=>Tot.ret rfl)
  simp only [decide_eq_true_eq] at h
  refine Tot.grd (by simp;omega) (Tot.at (by omega) fun y _=>Tot.cnd (fun _=>?_) fun _=>?_)
  ·exact Tot.ret ⟨_,_,rfl,hp.mono (by omega)⟩
  ·refine Tot.ret ⟨⟨rfl,?_,?_⟩,?_⟩ <;> (simp only;rw [wrapI (by omega) (by omega)];omega)
 ·rintro _ rfl
  exact Tot.grd (by simp;omega) (Tot.ret ⟨_,_,rfl,hp.app hx⟩)
theorem zTU {x:List UInt8} {p:List Cst} {f n s:Int} {fa:List Int} {fi:List (Int×Int×Int)} {ms:List Mth} {bad:Bool} {K:Nat} {ri:Nat} {r0 r1 r2 r3 r4:Int} {r5:List UInt8} {r6:List (Int×Int×Int×Int)} {fr:List Frm} (hp:Pl K p) (hK:K≤1000000):Tot (F807000312 (x,(p,f,n,s,fa,fi,bad),(ms,ri,r0,r1,r2,r3,r4,r5,r6),fr)) fun y=>∃ i q b,y=(i,(q,f,n,s,fa,fi,b),(ms,ri,r0,r1,r2,r3,r4,r5,r6),fr)∧Pl (K+1) q:=by
 unfold F807000312
 refine Tot.cnd (fun h=>Tot.ret ⟨_,_,_,rfl,hp.mono (by omega)⟩) (fun h=>?_)
 simp only [decide_eq_false_iff_not] at h
 refine Tot.bind (zIo (by simp only;omega) hp hK) ?_
 rintro _ ⟨i,q,rfl,hq⟩
 exact Tot.ret ⟨_,_,_,rfl,hq⟩
theorem zTW {x:List UInt8} {p:List Cst} {f n s:Int} {fa:List Int} {fi:List (Int×Int×Int)} {ms:List Mth} {bad:Bool} {K:Nat} {ri:Nat} {r0 r1 r2 r3 r4:Int} {r5:List UInt8} {r6:List (Int×Int×Int×Int)} {fr:List Frm} (hp:Pl K p) (hK:K≤900000):Tot (F807000310 (x,(p,f,n,s,fa,fi,bad),(ms,ri,r0,r1,r2,r3,r4,r5,r6),fr)) fun y=>∃ i q b,y=(i,(q,f,n,s,fa,fi,b),(ms,ri,r0,r1,r2,r3,r4,r5,r6),fr)∧Pl (K+2) q:=by
 unfold F807000310
 refine Tot.bind (zTU hp (by omega)) ?_
 rintro _ ⟨i,q,b,rfl,hq⟩
 refine Tot.bind (zIo (by simp) hq (by omega)) ?_
 rintro _ ⟨i,q,rfl,hq⟩
 exact Tot.ret ⟨_,_,_,rfl,hq⟩
theorem zTV {x:List UInt8} {p:List Cst} {f n s:Int} {fa:List Int} {fi:List (Int×Int×Int)} {ms:List Mth} {bad:Bool}  {ri:Nat} {r0 r1 r2 r3 r4:Int} {r5:List UInt8} {r6:List (Int×Int×Int×Int)} {fr:List Frm} (hx:x.length≤1000000000000):Tot (F807000311 (x,(p,f,n,s,fa,fi,bad),(ms,ri,r0,r1,r2,r3,r4,r5,r6),fr)) fun y=>∃ i b,y=(i,(p,f,n,s,fa,fi,b),(ms,ri,r0,r1,r2,r3,r4,r5,r6),fr):=by
 unfold F807000311
 refine Tot.bind (t327 hx) ?_
 rintro i -
 exact Tot.cnd (fun _=>Tot.ret ⟨_,_,rfl⟩) fun _=>Tot.ret ⟨_,_,rfl⟩
end Go.Proofs.YtdpapeledldifaaGreat
end
