/- Part 29 of the proof of FnTidy; no condition. -/
import Derived.Test.YtdpapeledldifaaGreatX27
set_option autoImplicit true
set_option relaxedAutoImplicit true
set_option linter.all false
namespace Go.Proofs.YtdpapeledldifaaGreat
noncomputable section
open Go Go.AM Go.TM
open Go.Proofs.Tryz
open Sum (inl inr)
open Go.IntKind (wrap)
set_option maxRecDepth 100000
set_option maxHeartbeats 4000000
def F205:zBy×zBy→Option (zBy×Bool):=fun(a,b)=>
 zAA (F260 (a,b)) fun(a,b)=>
 some ((a,b))
def tb205:=insT 205 (mkE 205 true [] zUW to259 F205 [.tmp 4,.tmp 5] 11 []) tb260
def ok205:zTb tb205:=okI ok260 noPl noIv func205 rfl call205
abbrev to115:SPat:=⟨[(2,.s),(3,.b)],[]⟩
def F115:zBy→Option (zBy×Bool):=fun a=>
 zAA (F204 (a,[(76:UInt8)])) fun(a,b)=>
 zAA (F205 (a,[(59:UInt8)])) fun(a,c)=>
 cndO (b)
 (cndO (c)
 (zAA (F48 a) fun b=>
 some ((a,b)))
 (some ((a,false))))
 (some ((a,false)))
def tb115:=insT 115 (mkE 115 true [] zEV to115 F115 [.tmp 2,.tmp 3] 27 []) tb205
def ok115:zTb tb115:=okI ok205 noPl noIv func115 rfl call115
def F122:zBy→Option Bool:=fun a=>
 zAA (F115 a) fun(_,b)=>
 cndO (b)
 (some true)
 (some (decide (a=[(73:UInt8)])))
def tb122:=insT 122 (mkE 122 true [] zEV zEL F122 [.tmp 2] 15 []) tb115
def ok122:zTb tb122:=okI ok115 noPl noIv func122 rfl call122
def F289:zBy×Int→Option Int:=fun(a,b)=>
 zAA (F322 (a,b)) fun a=>
 some (a)
def tb289:=insT 289 (mkE 289 true [] ti322 zNR F289 [.tmp 4] 8 []) tb122
def ok289:zTb tb289:=okI ok122 noPl noIv func289 rfl call289
abbrev ti321:SPat:=⟨[(0,.s),(1,.sc [41])],[]⟩
abbrev zLs:SPat:=⟨[(0,.s),(1,.sc [41]),(5,.i .i64),(16,.b)],[]⟩
def tv321:Nat→Option SPat:=fun k=>bif k==1000003 then some zLs else none
def F321:zBy→Option Int:=fun a=>
 bindE (Y:=zBy×Int×Bool) (some (inl (a,1,decide ([(41:UInt8)]=a)))) fun(a,b,c)=>
 cndO (c)
 (some ((0:Int)))
 (cndO (decide (b=1))
 (atO ([(41:UInt8)]) ((0:Nat)) fun b=>zAA (F289 (a,(b.toNat:Int))) fun a=>
 some a)
 (cndO (decide ((a.length:Int)≤b))
 (some ((-1:Int)))
 (none)))
def tb321:=insT 321 (mkE 321 true [] ti321 zNR F321 [.tmp 4] 143 []) tb289
def ok321:zTb tb321:=okI ok289 noPl tv321 func321 rfl call321
abbrev to288:SPat:=⟨[(4,.s),(5,.s),(6,.b)],[]⟩
def tp288:Nat→List Nat×Plan:=fun id=>bif id==3 then(zn35,(.br 9 zn16 [3,4,5,6,7,8] [] (.br 10 zn1 [] [] (.br 11 zn15 [] [] .fin .fin) .fin) .fin))else([],.fin)
def F288:zBy→Option (zBy×zBy×Bool):=fun a=>
 zAA (F321 a) fun b=>
 cndO (decide (0≤b))
 (grdO (decide (0≤b)&&decide (b≤(a.length:Int))) (grdO (decide (0≤wrap .i64 (b+1))&&decide (wrap .i64 (b+1)≤(a.length:Int))&&decide ((a.length:Int)≤(a.length:Int))) (seqU (seqU (grdO (decide (a=a)) (some ())) (seqU (grdO (decide (b=b)) (some ())) (seqU (grdO (decide (wrap .i64 (b+1)=wrap .i64 (b+1))) (some ())) (seqU (grdO (decide (0≤wrap .i64 (b+1))&&decide (wrap .i64 (b+1)≤(a.length:Int))&&decide ((a.length:Int)≤(a.length:Int))) (grdO (decide (List.drop (Int.toNat (wrap .i64 (b+1))) (List.take (Int.toNat (a.length:Int)) a)=List.drop (Int.toNat (wrap .i64 (b+1))) (List.take (Int.toNat (a.length:Int)) a))) (some ()))) (some ()))))) (some ((List.drop (0:Nat) (List.take b.toNat a),List.drop (Int.toNat (wrap .i64 (b+1))) (List.take (Int.toNat (a.length:Int)) a),true))))))
 (some ((a,[],false)))
def tb288:=insT 288 (mkE 288 true [] ti321 to288 F288 [.tmp 4,.tmp 5,.tmp 6] 23 []) tb321
def ok288:zTb tb288:=okI ok321 tp288 noIv func288 rfl call288
def F238:zBy→Option (zBy×zBy×Bool):=fun a=>
 zAA (F288 a) fun(a,b,c)=>
 some ((a,b,c))
def tb238:=insT 238 (mkE 238 true [] ti321 to288 F238 [.tmp 4,.tmp 5,.tmp 6] 13 []) tb288
def ok238:zTb tb238:=okI ok288 noPl noIv func238 rfl call238
def F239:zBy×Int→Option Int:=fun(a,b)=>
 zAA (F289 (a,b)) fun a=>
 some (a)
def tb239:=insT 239 (mkE 239 true [] ti322 zNR F239 [.tmp 4] 8 []) tb238
def ok239:zTb tb239:=okI ok238 noPl noIv func239 rfl call239
abbrev ts170_6:SPat:=⟨[(6,.s),(8,.s),(10,.own .str true)],[]⟩
abbrev zNA:SPat:=⟨[(6,.s),(8,.s)],[]⟩
abbrev zGu:SPat:=⟨[(6,.s),(8,.s),(10,.own .str true),(11,.i .i64)],[]⟩
abbrev zMz:SPat:=⟨[(6,.s),(10,.own .str true)],[]⟩
def tv170:Nat→Option SPat:=fun k=>bif k==6 then some ts170_6 else bif k==1000005 then some zNA else bif k==1000010 then some zGu else bif k==1000012 then some zGu else bif k==2000000 then some zMz else none
def F170:zBy→Option (List zBy×zBy×Bool):=fun a=>
 zAA (F238 a) fun(a,b,c)=>
 zAA (F204 (a,[(40:UInt8)])) fun(a,d)=>
 bindE (Y:=zBy×zBy) (cndO (!c)
 (some (inr ([],[],false)))
 (cndO (!d)
 (some (inr ([],[],false)))
 (cndO (!decide (b=[(86:UInt8)]))
 (zAA (F122 b) fun c=>
 cndO (!c)
 (some (inr ([],[],false)))
 (some (inl (b,a))))
 (some (inl (b,a)))))) fun(a,b)=>
 bindE (Y:=zBy×List zBy) (zAE (fun(a,b,c)=>
 cndO (!decide (b=[]))
 (bindE (Y:=zBy×zBy×List zBy×Int) (atO b 0 fun d=>cndO (!decide ((d.toNat:Int)=73))
 (zAA (F239 (b,59)) fun d=>
 some (inl (a,b,c,wrap .i64 (d+1))))
 (some (inl (a,b,c,1)))) fun(a,b,c,d)=>
 bindE (Y:=zBy×zBy×List zBy×Int) (grdO (decide (0≤d)&&decide (d≤(b.length:Int))) (zAA (F122 (List.drop (0:Nat) (List.take d.toNat b))) fun e=>
 cndO (!e)
 (some (inr (inr (inr ([],[],false)))))
 (cndO (decide ((c.length:Int)=4))
 (some (inr (inr (inr ([],[],false)))))
 (some (inl (a,b,c,d)))))) fun(a,b,c,d)=>
 grdO (decide (0≤d)&&decide (d≤(b.length:Int))) (grdO (decide (c.length+1≤9223372036854775807)&&decide ((c.length+1)*16≤140737488355328)) (grdO (decide (0≤d)&&decide (d≤(b.length:Int))&&decide ((b.length:Int)≤(b.length:Int))) (some (inl (a,List.drop d.toNat (List.take (Int.toNat (b.length:Int)) b),c++[List.drop (0:Nat) (List.take d.toNat b)]))))))
 (some (inr (inl (a,c))))) ((a,b,[]))) fun(a,b)=>
 some ((b,a,true))
def tb170:=insT 170 (mkE 170 true [] zEV to214 F170 [.tmp 2,.tmp 3,.tmp 4] 67 []) tb239
def ok170:zTb tb170:=okI ok239 noPl tv170 func170 rfl call170
def F113:zBy→Option Bool:=fun a=>
 zAA (F170 a) fun(_,_,a)=>
 some (a)
def tb113:=insT 113 (mkE 113 true [] zEV zEL F113 [.tmp 2] 13 []) tb170
def ok113:zTb tb113:=okI ok170 noPl noIv func113 rfl call113
def F121:zBy→Option Bool:=fun a=>
 zAA (F122 a) fun b=>
 cndO (b)
 (some true)
 (zAA (F113 a) fun a=>
 some a)
def tb121:=insT 121 (mkE 121 true [] zEV zEL F121 [.tmp 2] 9 []) tb113
def ok121:zTb tb121:=okI ok113 noPl noIv func121 rfl call121
def F124:List Cst×Int→Option Cst:=fun(a,b)=>
 zAA (F89 (b,1,(a.length:Int))) fun c=>
 cndO (!c)
 (some (((0:Int),[],(0:Int),(0:Int))))
 (grdO (decide (0≤wrap .i64 (b-1))) (atO a (Int.toNat (wrap .i64 (b-1))) fun a=>some ((a.1,a.2.1,a.2.2.1,a.2.2.2))))
def tb124:=insT 124 (mkE 124 true [] zRJ to215 F124 [.cell 4 27] 16 []) tb121
def ok124:zTb tb124:=okI ok121 noPl noIv func124 rfl call124
abbrev ti49126:SPat:=⟨[(0,.sl tg27),(1,.i .i64),(2,.fn 48 (pl []))],[]⟩
def F49126:List Cst×Int→Option Bool:=fun(a,b)=>
 zAA (F124 (a,b)) fun(a,b,_,_)=>
 cndO (decide (a=1))
 (zAA (F48 b) fun a=>
 some a)
 (some false)
def zWE:=insT 49126 (mkE 126 true [] ti49126 zKj F49126 [.tmp 6] 20 []) tb124
def ok49126:zTb zWE:=okI ok124 noPl noIv func126 rfl call126
abbrev ti122126:SPat:=⟨[(0,.sl tg27),(1,.i .i64),(2,.fn 121 (pl []))],[]⟩
def F122126:List Cst×Int→Option Bool:=fun(a,b)=>
 zAA (F124 (a,b)) fun(a,b,_,_)=>
 cndO (decide (a=1))
 (zAA (F121 b) fun a=>
 some a)
 (some false)
def zSw:=insT 122126 (mkE 126 true [] ti122126 zKj F122126 [.tmp 6] 20 []) zWE
def ok122126:zTb zSw:=okI ok49126 noPl noIv func126 rfl call126
def F125:List Cst×Int→Option Bool:=fun(a,b)=>
 zAA (F124 (a,b)) fun(b,_,c,_)=>
 cndO (decide (b=2))
 (zAA (F49126 (a,c)) fun a=>
 some a)
 (some false)
def tb125:=insT 125 (mkE 125 true [] zRJ zBu F125 [.tmp 4] 18 []) zSw
def ok125:zTb tb125:=okI ok122126 noPl noIv func125 rfl call125
abbrev ti123126:SPat:=⟨[(0,.sl tg27),(1,.i .i64),(2,.fn 122 (pl []))],[]⟩
def F123126:List Cst×Int→Option Bool:=fun(a,b)=>
 zAA (F124 (a,b)) fun(a,b,_,_)=>
 cndO (decide (a=1))
 (zAA (F122 b) fun a=>
 some a)
 (some false)
def zSu:=insT 123126 (mkE 126 true [] ti123126 zKj F123126 [.tmp 6] 20 []) tb125
def ok123126:zTb zSu:=okI ok125 noPl noIv func126 rfl call126
abbrev ti123123:SPat:=⟨[(0,.fn 122 (pl [])),(1,.ptr 100000 0),(2,.ptr 100001 0)],[.box 100000 (pl [.sl tg27]),.box 100001 (pl zo4)]⟩
abbrev zSa:SPat:=⟨[(4,.b)],[.box 100000 (pl [.sl tg27]),.box 100001 (pl zo4)]⟩
def F123123:List Cst×Cst→Option (Bool×List Cst×Cst):=fun(a,b,c,d,e)=>
 zAA (F124 (a,e)) fun(f,_,_,g)=>
 cndO (decide (c=[]))
 (zAA (F125 (a,d)) fun h=>
 cndO (h)
 (cndO (decide (f=3))
 (zAA (F123126 (a,g)) fun f=>
 some ((f,a,b,c,d,e)))
 (some ((false,a,b,c,d,e))))
 (some ((false,a,b,c,d,e))))
 (some ((false,a,b,c,d,e)))
def zSv:=insT 123123 (mkE 123 false [(1,[]),(2,[])] ti123123 zSa F123123 [.tmp 4] 31 [100000,100001]) zSu
def ok123123:zTb zSv:=okI ok123126 noPl noIv func123 rfl call123
abbrev ti114126:SPat:=⟨[(0,.sl tg27),(1,.i .i64),(2,.fn 113 (pl []))],[]⟩
def F114126:List Cst×Int→Option Bool:=fun(a,b)=>
 zAA (F124 (a,b)) fun(a,b,_,_)=>
 cndO (decide (a=1))
 (zAA (F113 b) fun a=>
 some a)
 (some false)
def zSx:=insT 114126 (mkE 126 true [] ti114126 zKj F114126 [.tmp 6] 20 []) zSv
def ok114126:zTb zSx:=okI ok123123 noPl noIv func126 rfl call126
abbrev ti114123:SPat:=⟨[(0,.fn 113 (pl [])),(1,.ptr 100000 0),(2,.ptr 100001 0)],[.box 100000 (pl [.sl tg27]),.box 100001 (pl zo4)]⟩
def F114123:List Cst×Cst→Option (Bool×List Cst×Cst):=fun(a,b,c,d,e)=>
 zAA (F124 (a,e)) fun(f,_,_,g)=>
 cndO (decide (c=[]))
 (zAA (F125 (a,d)) fun h=>
 cndO (h)
 (cndO (decide (f=3))
 (zAA (F114126 (a,g)) fun f=>
 some ((f,a,b,c,d,e)))
 (some ((false,a,b,c,d,e))))
 (some ((false,a,b,c,d,e))))
 (some ((false,a,b,c,d,e)))
def zSy:=insT 114123 (mkE 123 false [(1,[]),(2,[])] ti114123 zSa F114123 [.tmp 4] 31 [100000,100001]) zSx
def ok114123:zTb zSy:=okI ok114126 noPl noIv func123 rfl call123
abbrev ti52:SPat:=⟨[(0,.sl tg27),(1,.agg (pl zo4))],[]⟩
def tv52:Nat→Option SPat:=fun k=>bif k==2000000 then some zCA else none
def F52:List Cst×Cst→Option Bool:=fun(a,b,c,d,e)=>
 bindE (cndO (decide (b=1))
 (cndO (decide (d=0))
 (cndO (decide (e=0))
 (zAA (F48 c) fun a=>
 cndO (a)
 (some (inr true))
 (zAA (F121 c) fun a=>
 some (inr a)))
 (some (inr false)))
 (some (inr false)))
 (cndO (decide (b=2))
 (cndO (decide (c=[]))
 (cndO (decide (e=0))
 (zAA (F49126 (a,d)) fun a=>
 some (inr a))
 (some (inr false)))
 (some (inr false)))
 (cndO (decide (b=3))
 (cndO (decide (c=[]))
 (zAA (F49126 (a,d)) fun b=>
 cndO (b)
 (zAA (F122126 (a,e)) fun a=>
 some (inr a))
 (some (inr false)))
 (some (inr false)))
 (cndO (decide (b=4))
 (zAA (F123123 (a,b,c,d,e)) fun(a,_,_,_,_,_)=>
 some (inr a))
 (cndO (decide (b=5))
 (zAA (F114123 (a,b,c,d,e)) fun(a,_,_,_,_,_)=>
 some (inr a))
 (cndO (decide (b=6))
 (zAA (F114123 (a,b,c,d,e)) fun(a,_,_,_,_,_)=>
 some (inr a))
 (some (inl ())))))))) fun _=>
 some (false)
def tb52:=insT 52 (mkE 52 true [] ti52 zBu F52 [.tmp 4] 74 []) zSy
def ok52:zTb tb52:=okI ok114123 noPl tv52 func52 rfl call52
abbrev ts14_2:SPat:=⟨[(0,.sl tg27),(5,.sl tg27),(6,.i .i64),(7,.i .i64)],[]⟩
def tv14:Nat→Option SPat:=fun k=>bif k==2 then some ts14_2 else bif k==2000000 then some zCA else none
def F14:List Cst→Option Int:=fun a=>
 bindE (zAE (fun(a,b,c,d)=>
 cndO (decide (d<c))
 (grdO (decide (0≤d)) (atO b d.toNat fun e=>cndO (decide (d=60))
 (some (inr (inr (61:Int))))
 (zAA (F52 (a,e.1,e.2.1,e.2.2.1,e.2.2.2)) fun e=>
 cndO (!e)
 (some (inr (inr (wrap .i64 (d+1)))))
 (some (inl (a,b,c,wrap .i64 (d+1)))))))
 (some (inr (inl ())))) ((a,a,(a.length:Int),(0:Int)))) fun _=>
 some ((0:Int))
def tb14:=insT 14 (mkE 14 true [] ti15 zJG F14 [.tmp 2] 21 []) tb52
def ok14:zTb tb14:=okI ok52 noPl tv14 func14 rfl call14
abbrev ti162:SPat:=⟨[(0,.agg (pl plC)),(1,.i .i64)],[]⟩
def F162 :  Cls×Int→Option Bool:=fun((a,_,_,_,_,_,_),b)=>
 zAA (F124 (a,b)) fun(a,_,_,_)=>
 some (decide (a=2))
def tb162:=insT 162 (mkE 162 true [] ti162 zBu F162 [.tmp 4] 11 []) tb14
def ok162:zTb tb162:=okI ok14 noPl noIv func162 rfl call162
def F111 :  Cls×Int→Option zBy:=fun((a,_,_,_,_,_,_),b)=>
 zAA (F124 (a,b)) fun(b,c,d,_)=>
 cndO (decide (b=2))
 (zAA (F124 (a,d)) fun(_,a,_,_)=>
 some a)
 (some c)
def tb111:=insT 111 (mkE 111 true [] ti162 to130 F111 [.tmp 4] 20 []) tb162
def ok111:zTb tb111:=okI ok162 noPl noIv func111 rfl call111
abbrev ti164:SPat:=⟨[(0,.i .i64),(1,.ptr 100000 0),(2,.ptr 100001 0)],[.box 100000 (pl plC),.box 100001 (pl zo23)]⟩
abbrev to164:SPat:=⟨[(4,.b)],[.box 100000 (pl plC),.box 100001 (pl zo23)]⟩
def tp164:Nat→List Nat×Plan:=fun id=>bif id==1 then([0,1,3,4],(.br 2 [1,0] [3,4] [] (.br 5 zn27 [] [6] (.br 7 zn13 [] [] .fin .fin) .fin) .fin))else([],.fin)
def F164:Int×Cls×Int→Option (Bool×Cls×Int):=fun(a,(b,c,d,e,f,g,h),i)=>
 zAA (F111 ((b,c,d,e,f,g,h),a)) fun a=>
 seqU (seqU (grdO (decide (b=b)&&(decide (c=c)&&(decide (d=d)&&(decide (e=e)&&(decide (f=f)&&(decide (g=g)&&(decide (h=h)&&true))))))) (some ())) (seqU (grdO (decide (i=i)) (some ())) (some ()))) (zAA (F111 ((b,c,d,e,f,g,h),i)) fun j=>
 some ((decide (a=j),(b,c,d,e,f,g,h),i)))
def tb164:=insT 164 (mkE 164 false [(1,[]),(2,[])] ti164 to164 F164 [.tmp 4] 12 [100000,100001]) tb111
def ok164:zTb tb164:=okI ok111 tp164 noIv func164 rfl call164
abbrev zSh:SPat:=⟨[(0,.sl (.int .i64)),(1,.fn 164 (pl zo24))],[.box 100000 (pl plC),.box 100001 (pl zo23)]⟩
abbrev to165235:SPat:=⟨[(4,.i .i64)],[.box 100000 (pl plC),.box 100001 (pl zo23)]⟩
abbrev zUQ:SPat:=⟨[(0,.sl (.int .i64)),(1,.fn 164 (pl zo24)),(7,.i .i64),(8,.i .i64)],[.box 100000 (pl plC),.box 100001 (pl zo23)]⟩
abbrev zIb:SPat:=⟨[],[.box 100000 (pl plC),.box 100001 (pl zo23)]⟩
def tv165235:Nat→Option SPat:=fun k=>bif k==2 then some zUQ else bif k==2000000 then some zIb else none
def F165235:List Int×Cls×Int→Option (Int×Cls×Int):=fun(a,(b,c,d,e,f,g,h),i)=>
 bindE (Y :=  Cls×Int) (zAE (fun(a,b,c,(d,e,f,g,h,i,j),k)=>
 cndO (decide (c<b))
 (grdO (decide (0≤c)) (atO a c.toNat fun l=>zAA (F164 (l,(d,e,f,g,h,i,j),k)) fun(d,(e,f,g,h,i,j,k),l)=>
 cndO (d)
 (some (inr (inr (c,(e,f,g,h,i,j,k),l))))
 (some (inl (a,b,wrap .i64 (c+1),(e,f,g,h,i,j,k),l)))))
 (some (inr (inl ((d,e,f,g,h,i,j),k))))) ((a,(a.length:Int),(0:Int),(b,c,d,e,f,g,h),i))) fun((a,b,c,d,e,f,g),h)=>
 some (((-1:Int),(a,b,c,d,e,f,g),h))
def zSr:=insT 165235 (mkE 235 false [(1,[0]),(1,[1])] zSh to165235 F165235 [.tmp 4] 19 [100000,100001]) tb164
def ok165235:zTb zSr:=okI ok164 noPl tv165235 func235 rfl call235
def F165163:List Int×Cls×Int→Option (Bool×Cls×Int):=fun(a,(b,c,d,e,f,g,h),i)=>
 zAA (F165235 (a,(b,c,d,e,f,g,h),i)) fun(a,(b,c,d,e,f,g,h),i)=>
 some ((decide (0≤a),(b,c,d,e,f,g,h),i))
def zSs:=insT 165163 (mkE 163 false [(1,[0]),(1,[1])] zSh to164 F165163 [.tmp 4] 9 [100000,100001]) zSr
def ok165163:zTb zSs:=okI ok165235 noPl noIv func163 rfl call163
def F165:Cls→Option Bool:=fun(_,a,_,_,_,_,_)=>
 some (!decide (andI IntKind.i64 a (1:Int)=0))
def tb165:=insT 165 (mkE 165 true [] ti69 zEL F165 [.tmp 2] 7 []) zSs
def ok165:zTb tb165:=okI ok165163 noPl noIv func165 rfl call165
abbrev ts83_4:SPat:=⟨[(1,.ptr 1 0),(31,.sl (.int .i64)),(32,.i .i64),(33,.i .i64)],zo11⟩
def tv83:Nat→Option SPat:=fun k=>bif k==4 then some ts83_4 else bif k==1000003 then some zCN else bif k==2000000 then some zCN else bif k==2000001 then some ts83_4 else none
def tp83:Nat→List Nat×Plan:=fun id=>bif id==1 then([0,1,2],(.br 3 zn16 [] [4,5,6,7,8] (.br 9 zn20 [] [10,11,12,13,14,15,17,18,19] (.br 16 zn3 [17,18,19] [] (.br 20 zn41 [] [21,22] .fin .fin) .fin) .fin) .fin))else bif id==9 then([0,1,2,3,4,5,6,7],(.br 8 [3,2,1,0] [4,5,6,7] [] (.br 9 zn20 [] [] .fin .fin) .fin))else([],.fin)
def F83:Cls→Option Bool:=fun(a,b,c,d,e,f,g)=>
 bindE (Y:=Cls) (zAA (F162 ((a,b,c,d,e,f,g),c)) fun h=>
 cndO (!h)
 (some (inr false))
 (zAA (F162 ((a,b,c,d,e,f,g),d)) fun h=>
 cndO (!h)
 (some (inr false))
 (zAA (F111 ((a,b,c,d,e,f,g),d)) fun h=>
 seqU (seqU (grdO (decide (a=a)&&(decide (b=b)&&(decide (c=c)&&(decide (d=d)&&(decide (e=e)&&(decide (f=f)&&(decide (g=g)&&true))))))) (some ())) (seqU (grdO (decide (c=c)) (some ())) (some ()))) (zAA (F111 ((a,b,c,d,e,f,g),c)) fun i=>
 cndO (decide (h=i))
 (some (inr false))
 (some (inl (a,b,c,d,e,f,g))))))) fun(a,b,c,d,e,f,g)=>
 bindE (Y:=Cls) (zAE (fun(a,b,c,d,e,f,g,h,i,j)=>
 cndO (decide (c<b))
 (bindE (Y:=List Int×Int×Int×Cls) (grdO (decide (0≤c)) (atO a c.toNat fun k=>zAA (F162 ((d,e,f,g,h,i,j),k)) fun l=>
 cndO (!l)
 (some (inr (inr (inr false))))
 (grdO (decide (0≤c)&&decide (c≤(h.length:Int))) (zAA (F165163 (List.drop (0:Nat) (List.take c.toNat h),(d,e,f,g,h,i,j),k)) fun(d,(e,f,g,h,i,j,k),_)=>
 cndO (d)
 (some (inr (inr (inr false))))
 (some (inl (a,b,c,e,f,g,h,i,j,k))))))) fun(a,b,c,d,e,f,g,h,i,j)=>
 some (inl (a,b,wrap .i64 (c+1),d,e,f,g,h,i,j)))
 (some (inr (inl (d,e,f,g,h,i,j))))) ((e,(e.length:Int),(0:Int),a,b,c,d,e,f,g))) fun(a,b,c,d,e,f,g)=>
 seqU (seqU (grdO (decide (b=b)) (some ())) (seqU (grdO (decide (andI IntKind.i64 b (4:Int)=andI IntKind.i64 b (4:Int))) (some ())) (seqU (grdO (decide ((!decide (andI IntKind.i64 b (4:Int)=0)) = !decide (andI IntKind.i64 b (4:Int)=0))) (some ())) (some ())))) (zAA (F89 (b,0,7)) fun h=>
 cndO (h)
 (cndO (!decide (andI IntKind.i64 b (2:Int)=0))
 (cndO (!!decide (andI IntKind.i64 b (4:Int)=0))
 (zAA (F165 (a,b,c,d,e,f,g)) fun h=>
 cndO (!h)
 (some true)
 (cndO (!decide (andI IntKind.i64 b (4:Int)=0))
 (zAA (F111 ((a,b,c,d,e,f,g),d)) fun a=>
 some (decide (a=[(79:UInt8),98,106])))
 (some false)))
 (some false))
 (zAA (F165 (a,b,c,d,e,f,g)) fun h=>
 cndO (!h)
 (some true)
 (cndO (!decide (andI IntKind.i64 b (4:Int)=0))
 (zAA (F111 ((a,b,c,d,e,f,g),d)) fun a=>
 some (decide (a=[(79:UInt8),98,106])))
 (some false))))
 (some false))
def tb83:=insT 83 (mkE 83 true [] ti69 zEL F83 [.tmp 2] 84 []) tb165
def ok83:zTb tb83:=okI ok165 tp83 tv83 func83 rfl call83
abbrev ti167:SPat:=⟨[(0,.agg (pl zo6)),(1,.ptr 100000 0),(2,.ptr 100001 0)],[.box 100000 (pl plC),.box 100001 (pl zo6)]⟩
abbrev to167:SPat:=⟨[(4,.b)],[.box 100000 (pl plC),.box 100001 (pl zo6)]⟩
def tp167:Nat→List Nat×Plan:=fun id=>bif id==1 then(zn42,(.br 3 zn16 zn17 [] (.br 7 zn13 [] [8] (.br 9 zn20 [] [] .fin .fin) .fin) .fin))else([],.fin)
def F167:(Int×Int×Int)×Cls×Int×Int×Int→Option (Bool×Cls×Int×Int×Int):=fun((_,a,_),(b,c,d,e,f,g,h),i,j,k)=>
 zAA (F111 ((b,c,d,e,f,g,h),a)) fun a=>
 seqU (seqU (grdO (decide (b=b)&&(decide (c=c)&&(decide (d=d)&&(decide (e=e)&&(decide (f=f)&&(decide (g=g)&&(decide (h=h)&&true))))))) (some ())) (seqU (grdO (decide (j=j)) (some ())) (some ()))) (zAA (F111 ((b,c,d,e,f,g,h),j)) fun l=>
 some ((decide (a=l),(b,c,d,e,f,g,h),i,j,k)))
def tb167:=insT 167 (mkE 167 false [(1,[]),(2,[])] ti167 to167 F167 [.tmp 4] 14 [100000,100001]) tb83
def ok167:zTb tb167:=okI ok83 tp167 noIv func167 rfl call167
abbrev zSg:SPat:=⟨[(0,.sl tg89),(1,.fn 167 (pl zo24))],[.box 100000 (pl plC),.box 100001 (pl zo6)]⟩
abbrev to168236:SPat:=⟨[(4,.i .i64)],[.box 100000 (pl plC),.box 100001 (pl zo6)]⟩
abbrev zUP:SPat:=⟨[(0,.sl tg89),(1,.fn 167 (pl zo24)),(7,.i .i64),(8,.i .i64)],[.box 100000 (pl plC),.box 100001 (pl zo6)]⟩
abbrev zIa:SPat:=⟨[],[.box 100000 (pl plC),.box 100001 (pl zo6)]⟩
def tv168236:Nat→Option SPat:=fun k=>bif k==2 then some zUP else bif k==2000000 then some zIa else none
def F168236:List Fld×Cls×Int×Int×Int→Option (Int×Cls×Int×Int×Int):=fun(a,(b,c,d,e,f,g,h),i,j,k)=>
 bindE (Y :=  Cls×Int×Int×Int) (zAE (fun(a,b,c,(d,e,f,g,h,i,j),k,l,m)=>
 cndO (decide (c<b))
 (grdO (decide (0≤c)) (atO a c.toNat fun n=>zAA (F167 ((n.1,n.2.1,n.2.2),(d,e,f,g,h,i,j),k,l,m)) fun(d,(e,f,g,h,i,j,k),l,m,n)=>
 cndO (d)
 (some (inr (inr (c,(e,f,g,h,i,j,k),l,m,n))))
 (some (inl (a,b,wrap .i64 (c+1),(e,f,g,h,i,j,k),l,m,n)))))
 (some (inr (inl ((d,e,f,g,h,i,j),k,l,m))))) ((a,(a.length:Int),(0:Int),(b,c,d,e,f,g,h),i,j,k))) fun((a,b,c,d,e,f,g),h,i,j)=>
 some (((-1:Int),(a,b,c,d,e,f,g),h,i,j))
def zSp:=insT 168236 (mkE 236 false [(1,[0]),(1,[1])] zSg to168236 F168236 [.tmp 4] 19 [100000,100001]) tb167
def ok168236:zTb zSp:=okI ok167 noPl tv168236 func236 rfl call236
def F168166:List Fld×Cls×Int×Int×Int→Option (Bool×Cls×Int×Int×Int):=fun(a,(b,c,d,e,f,g,h),i,j,k)=>
 zAA (F168236 (a,(b,c,d,e,f,g,h),i,j,k)) fun(a,(b,c,d,e,f,g,h),i,j,k)=>
 some ((decide (0≤a),(b,c,d,e,f,g,h),i,j,k))
def zSq:=insT 168166 (mkE 166 false [(1,[0]),(1,[1])] zSg to167 F168166 [.tmp 4] 9 [100000,100001]) zSp
def ok168166:zTb zSq:=okI ok168236 noPl noIv func166 rfl call166
abbrev zOr:SPat:=⟨[(1,.i .i64),(2,.ptr 2 0),(5,.ptr 5 0)],[.box 2 (pl plC),.box 5 (pl zo6)]⟩
def tv84:Nat→Option SPat:=fun k=>bif k==1000004 then some zOr else none
def F84 :  Cls×Int→Option Bool:=fun((a,b,c,d,e,f,g),h)=>
 grdO (decide (0≤h)) (atO f h.toNat fun i=>bindE (Y:=Int×Cls×Int×Int×Int) (zAA (F49126 (a,i.2.1)) fun j=>
 cndO (!j)
 (some (inr false))
 (zAA (F123126 (a,i.2.2)) fun j=>
 cndO (!j)
 (some (inr false))
 (zAA (F89 (i.1,0,3)) fun j=>
 cndO (!j)
 (some (inr false))
 (zAA (F165 (a,b,c,d,e,f,g)) fun j=>
 cndO (j)
 (cndO (!decide (i.1=1))
 (some (inr false))
 (some (inl (h,(a,b,c,d,e,f,g),i.1,i.2.1,i.2.2))))
 (some (inl (h,(a,b,c,d,e,f,g),i.1,i.2.1,i.2.2))))))) fun(a,(b,c,d,e,f,g,h),i,j,k)=>
 grdO (decide (0≤a)&&decide (a≤(g.length:Int))) (zAA (F168166 (List.drop (0:Nat) (List.take a.toNat g),(b,c,d,e,f,g,h),i,j,k)) fun(a,(_,_,_,_,_,_,_),_,_,_)=>
 some (!a)))
def tb84:=insT 84 (mkE 84 true [] ti162 zBu F84 [.tmp 4] 47 []) zSq
def ok84:zTb tb84:=okI ok168166 noPl tv84 func84 rfl call84
abbrev ti169:SPat:=⟨[(0,.agg (pl plM)),(1,.ptr 100000 0),(2,.ptr 100001 0),(3,.ptr 100002 0)],[.box 100000 (pl plC),.box 100001 (pl [.s]),.box 100002 (pl [.s])]⟩
abbrev to169:SPat:=⟨[(5,.b)],[.box 100000 (pl plC),.box 100001 (pl [.s]),.box 100002 (pl [.s])]⟩
def tp169:Nat→List Nat×Plan:=fun id=>bif id==1 then([0,1,2,4],(.br 3 zn16 [4] [5,6,7,8,9,11] (.br 10 zn1 [11] [12,13] (.br 14 zn22 [] [] .fin .fin) .fin) .fin))else([],.fin)
def F169 :  Mth×Cls×zBy×zBy→Option (Bool×Cls×zBy×zBy):=fun((_,a,b,_,_,_,_,_),(c,d,e,f,g,h,i),j,k)=>
 zAA (F111 ((c,d,e,f,g,h,i),a)) fun a=>
 seqU (seqU (grdO (decide (j=j)) (some ())) (some ())) (cndO (decide (a=j))
 (zAA (F111 ((c,d,e,f,g,h,i),b)) fun a=>
 seqU (seqU (grdO (decide (k=k)) (some ())) (some ())) (some ((decide (a=k),(c,d,e,f,g,h,i),j,k))))
 (some ((false,(c,d,e,f,g,h,i),j,k))))
def tb169:=insT 169 (mkE 169 false [(1,[]),(2,[]),(3,[])] ti169 to169 F169 [.tmp 5] 20 [100000,100001,100002]) tb84
def ok169:zTb tb169:=okI ok84 tp169 noIv func169 rfl call169
abbrev zSf:SPat:=⟨[(0,.sl tg53),(1,.fn 169 (pl [.ptr 100000 0,.ptr 100001 0,.ptr 100002 0]))],[.box 100000 (pl plC),.box 100001 (pl [.s]),.box 100002 (pl [.s])]⟩
abbrev to170237:SPat:=⟨[(4,.i .i64)],[.box 100000 (pl plC),.box 100001 (pl [.s]),.box 100002 (pl [.s])]⟩
abbrev zUO:SPat:=⟨[(0,.sl tg53),(1,.fn 169 (pl [.ptr 100000 0,.ptr 100001 0,.ptr 100002 0])),(7,.i .i64),(8,.i .i64)],[.box 100000 (pl plC),.box 100001 (pl [.s]),.box 100002 (pl [.s])]⟩
abbrev zIZ:SPat:=⟨[],[.box 100000 (pl plC),.box 100001 (pl [.s]),.box 100002 (pl [.s])]⟩
def tv170237:Nat→Option SPat:=fun k=>bif k==2 then some zUO else bif k==2000000 then some zIZ else none
def F170237:List Mth×Cls×zBy×zBy→Option (Int×Cls×zBy×zBy):=fun(a,(b,c,d,e,f,g,h),i,j)=>
 bindE (Y :=  Cls×zBy×zBy) (zAE (fun(a,b,c,(d,e,f,g,h,i,j),k,l)=>
 cndO (decide (c<b))
 (grdO (decide (0≤c)) (atO a c.toNat fun m=>zAA (F169 ((m.1,m.2.1,m.2.2.1,m.2.2.2.1,m.2.2.2.2.1,m.2.2.2.2.2.1,m.2.2.2.2.2.2.1,m.2.2.2.2.2.2.2),(d,e,f,g,h,i,j),k,l)) fun(d,(e,f,g,h,i,j,k),l,m)=>
 cndO (d)
 (some (inr (inr (c,(e,f,g,h,i,j,k),l,m))))
 (some (inl (a,b,wrap .i64 (c+1),(e,f,g,h,i,j,k),l,m)))))
 (some (inr (inl ((d,e,f,g,h,i,j),k,l))))) ((a,(a.length:Int),(0:Int),(b,c,d,e,f,g,h),i,j))) fun((a,b,c,d,e,f,g),h,i)=>
 some (((-1:Int),(a,b,c,d,e,f,g),h,i))
def zSn:=insT 170237 (mkE 237 false [(1,[0]),(1,[1]),(1,[2])] zSf to170237 F170237 [.tmp 4] 19 [100000,100001,100002]) tb169
def ok170237:zTb zSn:=okI ok169 noPl tv170237 func237 rfl call237
abbrev to170168:SPat:=⟨[(4,.b)],[.box 100000 (pl plC),.box 100001 (pl [.s]),.box 100002 (pl [.s])]⟩
def F170168:List Mth×Cls×zBy×zBy→Option (Bool×Cls×zBy×zBy):=fun(a,(b,c,d,e,f,g,h),i,j)=>
 zAA (F170237 (a,(b,c,d,e,f,g,h),i,j)) fun(a,(b,c,d,e,f,g,h),i,j)=>
 some ((decide (0≤a),(b,c,d,e,f,g,h),i,j))
def zSo:=insT 170168 (mkE 168 false [(1,[0]),(1,[1]),(1,[2])] zSf to170168 F170168 [.tmp 4] 9 [100000,100001,100002]) zSn
def ok170168:zTb zSo:=okI ok170237 noPl noIv func168 rfl call168
abbrev zOq:SPat:=⟨[(1,.i .i64),(2,.ptr 2 0),(5,.ptr 5 0)],[.box 2 (pl plC),.box 5 (pl plM)]⟩
abbrev zOp:SPat:=⟨[(1,.i .i64),(2,.ptr 2 0),(5,.ptr 5 0),(6,.ptr 6 0),(7,.ptr 7 0),(41,.b)],[.box 2 (pl plC),.box 5 (pl plM),.box 6 (pl [.s]),.box 7 (pl [.s])]⟩
abbrev zOo:SPat:=⟨[(1,.i .i64),(2,.ptr 2 0),(5,.ptr 5 0),(6,.ptr 6 0),(7,.ptr 7 0),(56,.b)],[.box 2 (pl plC),.box 5 (pl plM),.box 6 (pl [.s]),.box 7 (pl [.s])]⟩
abbrev zOn:SPat:=⟨[(1,.i .i64),(2,.ptr 2 0),(6,.ptr 6 0),(7,.ptr 7 0)],[.box 2 (pl plC),.box 6 (pl [.s]),.box 7 (pl [.s])]⟩
def tv85:Nat→Option SPat:=fun k=>bif k==1000004 then some zOq else bif k==1000006 then some zOp else bif k==1000008 then some zOo else bif k==2000000 then some zOn else none
def tp85:Nat→List Nat×Plan:=fun id=>bif id==4 then(zn42,(.br 3 zn16 zn17 [] (.br 7 zn13 [] [] (.br 8 [] zn42 [] (.br 9 [] zn42 [] (.br 10 zn1 [] [] (.br 11 zn15 [] [] .fin .fin) .fin) .fin) (.br 9 [] zn42 [] (.br 8 [] zn42 [] (.br 10 zn1 [] [] (.br 11 zn15 [] [] .fin .fin) .fin) .fin) .fin)) (.br 8 [] zn42 [] (.br 7 zn13 [] [] (.br 9 [] zn42 [] (.br 10 zn1 [] [] (.br 11 zn15 [] [] .fin .fin) .fin) .fin) (.br 9 [] zn42 [] (.br 7 zn13 [] [] (.br 10 zn1 [] [] (.br 11 zn15 [] [] .fin .fin) .fin) .fin) .fin)) (.br 9 [] zn42 [] (.br 7 zn13 [] [] (.br 8 [] zn42 [] (.br 10 zn1 [] [] (.br 11 zn15 [] [] .fin .fin) .fin) .fin) (.br 8 [] zn42 [] (.br 7 zn13 [] [] (.br 10 zn1 [] [] (.br 11 zn15 [] [] .fin .fin) .fin) .fin) .fin)) .fin))) (.br 8 [] zn42 [] (.br 3 zn16 zn17 [] (.br 7 zn13 [] [] (.br 9 [] zn42 [] (.br 10 zn1 [] [] (.br 11 zn15 [] [] .fin .fin) .fin) .fin) (.br 9 [] zn42 [] (.br 7 zn13 [] [] (.br 10 zn1 [] [] (.br 11 zn15 [] [] .fin .fin) .fin) .fin) .fin)) (.br 9 [] zn42 [] (.br 3 zn16 zn17 [] (.br 7 zn13 [] [] (.br 10 zn1 [] [] (.br 11 zn15 [] [] .fin .fin) .fin) .fin) .fin) .fin)) (.br 9 [] zn42 [] (.br 3 zn16 zn17 [] (.br 7 zn13 [] [] (.br 8 [] zn42 [] (.br 10 zn1 [] [] (.br 11 zn15 [] [] .fin .fin) .fin) .fin) (.br 8 [] zn42 [] (.br 7 zn13 [] [] (.br 10 zn1 [] [] (.br 11 zn15 [] [] .fin .fin) .fin) .fin) .fin)) (.br 8 [] zn42 [] (.br 3 zn16 zn17 [] (.br 7 zn13 [] [] (.br 10 zn1 [] [] (.br 11 zn15 [] [] .fin .fin) .fin) .fin) .fin) .fin)) .fin))))else([],.fin)
def F85 :  Cls×Int→Option Bool:=fun((a,b,c,d,e,f,g),h)=>grdO (decide (0≤h)) (atO g h.toNat fun i=>bindE (Y:=Int×Cls×Mth) (zAA (F49126 (a,i.2.1)) fun j=>cndO (!j) (some (inr false)) (zAA (F114126 (a,i.2.2.1)) fun j=>cndO (!j) (some (inr false)) (zAA (F89 (i.1,0,15)) fun j=>cndO (!j) (some (inr false)) (some (inl (h,(a,b,c,d,e,f,g),i.1,i.2.1,i.2.2.1,i.2.2.2.1,i.2.2.2.2.1,i.2.2.2.2.2.1,i.2.2.2.2.2.2.1,i.2.2.2.2.2.2.2)))))) fun(a,(b,c,d,e,f,g,h),i,j,k,l,m,n,o,p)=>let a:=fun(q:zBy) (r:zBy)=>bindE (Y:=Int×Cls×zBy×zBy) (bindE (Y:=Int×Bool×Cls×Mth×zBy×zBy) (zAA (F86 i) fun s=>cndO s (cndO (!decide (i=8)) (some (inl (a,true,(b,c,d,e,f,g,h),(i,j,k,l,m,n,o,p),q,r))) (some (inl (a,decide (andI IntKind.i64 c (4:Int)=0),(b,c,d,e,f,g,h),(i,j,k,l,m,n,o,p),q,r)))) (some (inl (a,false,(b,c,d,e,f,g,h),(i,j,k,l,m,n,o,p),q,r)))) fun(a,b,(c,d,e,f,g,h,i),(j,k,l,m,n,o,p,q),r,s)=>cndO b (some (inr false)) (bindE (Y:=Int×Bool×Cls×Mth×zBy×zBy) (zAA (F86 j) fun b=>cndO (!b) (zAA (F165 (c,d,e,f,g,h,i)) fun b=>cndO b (some (inl (a,!decide (j=1),(c,d,e,f,g,h,i),(j,k,l,m,n,o,p,q),r,s))) (some (inl (a,false,(c,d,e,f,g,h,i),(j,k,l,m,n,o,p,q),r,s)))) (some (inl (a,false,(c,d,e,f,g,h,i),(j,k,l,m,n,o,p,q),r,s)))) fun(a,b,(c,d,e,f,g,h,i),(j,_,_,_,_,_,_,_),k,l)=>cndO b (some (inr false)) (cndO (decide (k=[(98:UInt8),101,103,105,110])) (cndO (!decide (j=1)) (some (inr false)) (cndO (!decide (l=[(40:UInt8),41,86])) (some (inr false)) (some (inl (a,(c,d,e,f,g,h,i),k,l))))) (some (inl (a,(c,d,e,f,g,h,i),k,l)))))) fun(a,(b,c,d,e,f,g,h),i,j)=>grdO (decide (0≤a)&&decide (a≤(h.length:Int))) (zAA (F170168 (List.drop (0:Nat) (List.take a.toNat h),(b,c,d,e,f,g,h),i,j)) fun(a,(_,_,_,_,_,_,_),_,_)=>some (!a));let i:=seqU (grdO (decide (b=b)&&(decide (c=c)&&(decide (d=d)&&(decide (e=e)&&(decide (f=f)&&(decide (g=g)&&(decide (h=h)&&true))))))) (some ())) (seqU (grdO (decide (k=k)) (some ())) (some ()));let l:=seqU (grdO (decide (b=b)&&(decide (c=c)&&(decide (d=d)&&(decide (e=e)&&(decide (f=f)&&(decide (g=g)&&(decide (h=h)&&true))))))) (some ())) (seqU (grdO (decide (j=j)) (some ())) i);zBK (zAA (F111 ((b,c,d,e,f,g,h),j)) fun j=>seqU i (zBK (zAA (F111 ((b,c,d,e,f,g,h),k)) fun b=>zBK (seqU l (seqU l (a j b))) (seqU l (seqU l (a j b)))) (zBK (seqU l (zBK (zAA (F111 ((b,c,d,e,f,g,h),k)) fun b=>seqU l (a j b)) (seqU l (zAA (F111 ((b,c,d,e,f,g,h),k)) fun b=>a j b)))) (seqU l (zBK (zAA (F111 ((b,c,d,e,f,g,h),k)) fun b=>seqU l (a j b)) (seqU l (zAA (F111 ((b,c,d,e,f,g,h),k)) fun b=>a j b))))))) (let a:=seqU l (zBK (zAA (F111 ((b,c,d,e,f,g,h),j)) fun j=>seqU i (zBK (zAA (F111 ((b,c,d,e,f,g,h),k)) fun b=>seqU l (a j b)) (seqU l (zAA (F111 ((b,c,d,e,f,g,h),k)) fun b=>a j b)))) (seqU l (zAA (F111 ((b,c,d,e,f,g,h),j)) fun j=>seqU i (zAA (F111 ((b,c,d,e,f,g,h),k)) fun b=>a j b))));zBK a a))
def tb85:=insT 85 (mkE 85 true [] ti162 zBu F85 [.tmp 4] 89 []) zSo
def ok85:zTb tb85:=okI ok170168 tp85 tv85 func85 rfl call85
abbrev zOl:SPat:=⟨[(0,.i .i64),(6,.b)],[]⟩
def tv90:Nat→Option SPat:=fun k=>bif k==1000004 then some zOl else none
def F90:Int→Option Int:=fun a=>
 zAA (F89 (a,3,6)) fun b=>
 cndO (b)
 (some ((1:Int)))
 (bindE (cndO (decide (a=1))
 (some (inl (a,true)))
 (zAA (F89 (a,14,29)) fun b=>
 some (inl (a,b)))) fun(a,b)=>
 cndO (b)
 (some ((2:Int)))
 (zAA (F89 (a,0,34)) fun a=>
 cndO (a)
 (some ((0:Int)))
 (some ((-1:Int)))))
def tb90:=insT 90 (mkE 90 true [] zGT zJG F90 [.tmp 2] 16 []) tb85
def ok90:zTb tb90:=okI ok85 noPl tv90 func90 rfl call90
abbrev ts31_11:SPat:=⟨[(0,.s),(4,.own tg89 true),(5,.i .i64),(6,.ptr 6 0),(7,.i .i64),(45,.sl .byte),(46,.i .i64),(47,.i .i64)],[.box 6 (pl zo6)]⟩
abbrev zFT:SPat:=⟨[(0,.s),(4,.own tg89 true),(5,.i .i64),(6,.ptr 6 0),(7,.i .i64)],[.box 6 (pl zo6)]⟩
abbrev zPE:SPat:=⟨[(0,.s),(4,.own tg89 true),(5,.i .i64),(6,.ptr 6 0),(7,.i .i64),(66,.b)],[.box 6 (pl zo6)]⟩
def tv31:Nat→Option SPat:=fun k=>bif k==5 then some zQz else bif k==11 then some ts31_11 else bif k==1000010 then some zFT else bif k==1000016 then some zPE else bif k==1000017 then some zFT else bif k==2000000 then some zGs else bif k==2000001 then some zQz else bif k==2000002 then some zFT else none
def F31:zBy→Option (List Fld×Bool):=fun a=>
 zAA (F89 ((a.length:Int),1,120)) fun b=>
 cndO (!b)
 (some (([],false)))
 (bindE (Y:=List Fld) (zAE (fun(a,b,c)=>
 cndO (decide (c<(a.length:Int)))
 (bindE (Y:=zBy×List Fld×Int) (grdO (decide (0≤c)) (atO a c.toNat fun d=>zAA (F90 (wrap .i64 (d.toNat:Int))) fun e=>
 bindE (Y:=zBy×List Fld×Int×Int×Int×Int×Int) (cndO (decide (e<0))
 (some (inr (inr (inr (inr ([],false))))))
 (cndO (decide (wrap .i64 ((a.length:Int)-c)≤e))
 (some (inr (inr (inr (inr ([],false))))))
 (some (inl (a,b,c,e,c,wrap .i64 (d.toNat:Int),0))))) fun(a,b,c,d,e,f,g)=>
 grdO (decide (0≤wrap .i64 (c+1))&&decide (wrap .i64 (c+1)≤wrap .i64 (wrap .i64 (c+1)+d))&&decide (wrap .i64 (wrap .i64 (c+1)+d)≤(a.length:Int))) (bindE (Y:=zBy×List Fld×Int×Int×Int×Int×Int) (zAE (fun(a,b,c,d,e,f,g,h,i,j)=>
 cndO (decide (g<f))
 (grdO (decide (0≤g)) (atO e g.toNat fun k=>some (inl (a,b,c,d,e,f,wrap .i64 (g+1),h,i,wrap .i64 (wrap .i64 ((256:Int)*j)+wrap .i64 (k.toNat:Int))))))
 (some (inr (inl (a,b,c,d,h,i,j))))) ((a,b,c,d,List.drop (Int.toNat (wrap .i64 (c+1))) (List.take (Int.toNat (wrap .i64 (wrap .i64 (c+1)+d))) a),(↑(List.length (List.drop (Int.toNat (wrap .i64 (c+1))) (List.take (Int.toNat (wrap .i64 (wrap .i64 (c+1)+d))) a))):Int),(0:Int),e,f,g))) fun(a,b,c,d,e,f,g)=>
 bindE (Y:=zBy×List Fld×Int×Int×Int×Int×Int) (bindE (Y:=zBy×List Fld×Int×Int×Bool×Int×Int×Int) (cndO (decide (f=1))
 (some (inl (a,b,c,d,decide (32767<g),e,f,g)))
 (some (inl (a,b,c,d,false,e,f,g)))) fun(a,b,c,d,e,f,g,h)=>
 cndO (e)
 (some (inl (a,b,c,d,f,g,wrap .i64 (h-65536))))
 (some (inl (a,b,c,d,f,g,h)))) fun(a,b,c,d,e,f,g)=>
 grdO (decide (b.length+1≤9223372036854775807)&&decide ((b.length+1)*24≤140737488355328)) (some (inl (a,b++[(e,f,g)],wrap .i64 (c+wrap .i64 ((1:Int)+d)))))))) fun(a,b,c)=>
 some (inl (a,b,c)))
 (some (inr (inl b)))) ((a,[],(0:Int)))) fun a=>
 some ((a,true)))
def tb31:=insT 31 (mkE 31 true [] zEV to193 F31 [.tmp 2,.tmp 3] 80 []) tb90
def ok31:zTb tb31:=okI ok90 noPl tv31 func31 rfl call31
abbrev zMy:SPat:=⟨[(0,.i .i64),(3,.b)],[]⟩
def tv171:Nat→Option SPat:=fun k=>bif k==1000002 then some zMy else none
def F171:Int→Option Int:=fun a=>
 bindE (cndO (decide (a=19))
 (some (inl (a,true)))
 (cndO (decide (a=28))
 (some (inl (a,true)))
 (some (inl (a,decide (a=29)))))) fun(a,b)=>
 cndO (b)
 (some ((2:Int)))
 (zAA (F89 (a,20,23)) fun b=>
 cndO (b)
 (some ((4:Int)))
 (zAA (F89 (a,24,26)) fun b=>
 cndO (b)
 (some ((5:Int)))
 (cndO (decide (a=27))
 (some ((6:Int)))
 (some ((0:Int))))))
def tb171:=insT 171 (mkE 171 true [] zGT zJG F171 [.tmp 2] 23 []) tb31
def ok171:zTb tb171:=okI ok31 noPl tv171 func171 rfl call171
def F172:Int→Option Bool:=fun a=>
 zAA (F89 (a,14,18)) fun a=>
 some (a)
def tb172:=insT 172 (mkE 172 true [] zGT zEL F172 [.tmp 2] 5 []) tb171
def ok172:zTb tb172:=okI ok171 noPl noIv func172 rfl call172
abbrev ti241:SPat:=⟨[(0,.agg (pl zo6)),(1,.ptr 100000 0)],[.box 100000 (pl zo23)]⟩
abbrev to241:SPat:=⟨[(3,.b)],[.box 100000 (pl zo23)]⟩
def F241:(Int×Int×Int)×Int→Option (Bool×Int):=fun((a,_,_),b)=>
 some ((decide (a=b),b))
def tb241:=insT 241 (mkE 241 false [(1,[])] ti241 to241 F241 [.tmp 3] 8 [100000]) tb172
def ok241:zTb tb241:=okI ok172 noPl noIv func241 rfl call241
abbrev ti242240:SPat:=⟨[(0,.sl tg89),(1,.fn 241 (pl [.ptr 100000 0]))],[.box 100000 (pl zo23)]⟩
abbrev to242240:SPat:=⟨[(4,.i .i64)],[.box 100000 (pl zo23)]⟩
abbrev zUM:SPat:=⟨[(0,.sl tg89),(1,.fn 241 (pl [.ptr 100000 0])),(7,.i .i64),(8,.i .i64)],[.box 100000 (pl zo23)]⟩
abbrev zIY:SPat:=⟨[],[.box 100000 (pl zo23)]⟩
def tv242240:Nat→Option SPat:=fun k=>bif k==2 then some zUM else bif k==2000000 then some zIY else none
def F242240:List Fld×Int→Option (Int×Int):=fun(a,b)=>
 bindE (zAE (fun(a,b,c,d)=>
 cndO (decide (c<b))
 (grdO (decide (0≤c)) (atO a c.toNat fun e=>zAA (F241 ((e.1,e.2.1,e.2.2),d)) fun(d,e)=>
 cndO (d)
 (some (inr (inr (c,e))))
 (some (inl (a,b,wrap .i64 (c+1),e)))))
 (some (inr (inl d)))) ((a,(a.length:Int),(0:Int),b))) fun a=>
 some (((-1:Int),a))
def zSl:=insT 242240 (mkE 240 false [(1,[0])] ti242240 to242240 F242240 [.tmp 4] 19 [100000]) tb241
def ok242240:zTb zSl:=okI ok241 noPl tv242240 func240 rfl call240
def F173:List Fld×Int→Option Int:=fun(a,b)=>
 zAA (F242240 (a,b)) fun(a,_)=>
 some (a)
def tb173:=insT 173 (mkE 173 true [] ti254 zNR F173 [.tmp 4] 8 []) zSl
def ok173:zTb tb173:=okI ok242240 noPl noIv func173 rfl call173
abbrev ti243:SPat:=⟨[(0,.agg (pl [.i .i64,.i .i64])),(1,.ptr 100000 0)],zo25⟩
abbrev to243:SPat:=⟨[(3,.b)],zo25⟩
def F243:(Int×Int)×Cls→Option (Bool×Cls):=fun((a,b),c,d,e,f,g,h,i)=>
 cndO (decide (a=3))
 (zAA (F162 ((c,d,e,f,g,h,i),b)) fun j=>
 cndO (!j)
 (some ((true,c,d,e,f,g,h,i)))
 (cndO (!decide (a=3))
 (some ((!decide (b=0),c,d,e,f,g,h,i)))
 (some ((false,c,d,e,f,g,h,i)))))
 (cndO (!decide (a=3))
 (some ((!decide (b=0),c,d,e,f,g,h,i)))
 (some ((false,c,d,e,f,g,h,i))))
def tb243:=insT 243 (mkE 243 false [(1,[])] ti243 to243 F243 [.tmp 3] 24 [100000]) tb173
def ok243:zTb tb243:=okI ok173 noPl noIv func243 rfl call243
abbrev zSd:SPat:=⟨[(0,.sl zBv),(1,.fn 243 (pl [.ptr 100000 0]))],zo25⟩
abbrev to244290:SPat:=⟨[(4,.i .i64)],zo25⟩
abbrev zUL:SPat:=⟨[(0,.sl zBv),(1,.fn 243 (pl [.ptr 100000 0])),(7,.i .i64),(8,.i .i64)],zo25⟩
abbrev zIX:SPat:=⟨[],zo25⟩
def tv244290:Nat→Option SPat:=fun k=>bif k==2 then some zUL else bif k==2000000 then some zIX else none
def F244290:List Knd×Cls→Option (Int×Cls):=fun(a,b,c,d,e,f,g,h)=>
 bindE (Y:=Cls) (zAE (fun(a,b,c,d,e,f,g,h,i,j)=>
 cndO (decide (c<b))
 (grdO (decide (0≤c)) (atO a c.toNat fun k=>zAA (F243 ((k.1,k.2),d,e,f,g,h,i,j)) fun(d,e,f,g,h,i,j,k)=>
 cndO (d)
 (some (inr (inr (c,e,f,g,h,i,j,k))))
 (some (inl (a,b,wrap .i64 (c+1),e,f,g,h,i,j,k)))))
 (some (inr (inl (d,e,f,g,h,i,j))))) ((a,(a.length:Int),(0:Int),b,c,d,e,f,g,h))) fun(a,b,c,d,e,f,g)=>
 some (((-1:Int),a,b,c,d,e,f,g))
def zSj:=insT 244290 (mkE 290 false [(1,[0])] zSd to244290 F244290 [.tmp 4] 19 [100000]) tb243
def ok244290:zTb zSj:=okI ok243 noPl tv244290 func290 rfl call290
abbrev to244242:SPat:=⟨[(4,.b)],zo25⟩
def F244242:List Knd×Cls→Option (Bool×Cls):=fun(a,b,c,d,e,f,g,h)=>
 zAA (F244290 (a,b,c,d,e,f,g,h)) fun(a,b,c,d,e,f,g,h)=>
 some ((decide (0≤a),b,c,d,e,f,g,h))
def zSk:=insT 244242 (mkE 242 false [(1,[0])] zSd to244242 F244242 [.tmp 4] 9 [100000]) zSj
def ok244242:zTb zSk:=okI ok244290 noPl noIv func242 rfl call242
def F174 :  Cls×List Knd→Option Bool:=fun((a,b,c,d,e,f,g),h)=>
 zAA (F244242 (h,a,b,c,d,e,f,g)) fun(a,_,_,_,_,_,_,_)=>
 some (!a)
def tb174:=insT 174 (mkE 174 true [] ti292 zBu F174 [.tmp 4] 9 []) zSk
def ok174:zTb tb174:=okI ok244242 noPl noIv func174 rfl call174
abbrev ts87_9:SPat:=⟨[(2,.ptr 2 0),(3,.ptr 3 0),(5,.ar 5),(56,.ar 5),(57,.i .i64),(58,.i .i64)],[.box 2 (pl plC),.box 3 (pl plM),.arr 5 tg89 true]⟩
abbrev zVK:SPat:=⟨[(2,.ptr 2 0),(3,.ptr 3 0),(5,.own tg89 true),(100,.sl zFQ),(101,.i .i64),(102,.i .i64)],zo17⟩
abbrev zVJ:SPat:=⟨[(2,.ptr 2 0),(3,.ptr 3 0),(5,.own tg89 true),(16,.i .i64),(154,.sl zBd),(155,.i .i64),(156,.i .i64)],zo17⟩
abbrev zOm:SPat:=⟨[(2,.ptr 2 0),(3,.ptr 3 0),(5,.own tg89 true),(6,.b),(10,.i .i64)],zo17⟩
def tv87:Nat→Option SPat:=fun k=>bif k==9 then some ts87_9 else bif k==18 then some zVK else bif k==25 then some zVJ else bif k==1000006 then some zOm else bif k==1000008 then some zBt else bif k==2000000 then some zBt else bif k==2000002 then some ts87_9 else bif k==2000003 then some zBt else bif k==2000004 then some zVK else bif k==2000005 then some zCA else bif k==2000006 then some zVJ else none
def F87 :  Cls×Mth→Option Bool:=fun((a,b,c,d,e,f,g),h,i,j,k,l,m,n,o)=>
 zAA (F31 m) fun(p,q)=>
 zAA (F111 ((a,b,c,d,e,f,g),j)) fun r=>
 zAA (F170 r) fun(r,_,_)=>
 bindE (Y:=List Fld×Bool×Int×Cls×Mth) (cndO (decide (andI IntKind.i64 h (1:Int)=0))
 (some (inl (p,q,wrap .i64 ((r.length:Int)+1),(a,b,c,d,e,f,g),h,i,j,k,l,m,n,o)))
 (some (inl (p,q,(r.length:Int),(a,b,c,d,e,f,g),h,i,j,k,l,m,n,o)))) fun(a,b,c,(d,e,f,g,h,i,j),k,l,m,n,o,p,q,r)=>
 bindE (Y:=List Fld×Cls×Mth) (cndO (!b)
 (some (inr false))
 (cndO (decide (8<n))
 (some (inr false))
 (zAA (F89 (o,c,8)) fun b=>
 cndO (!b)
 (some (inr false))
 (some (inl (a,(d,e,f,g,h,i,j),k,l,m,n,o,p,q,r)))))) fun(a,(b,c,d,e,f,g,h),i,j,k,l,m,n,o,p)=>
 bindE (Y:=List Fld×Cls×Mth) (zAE (fun(a,b,(c,d,e,f,g,h,i),(j,k,l,m,n,o,p,q),r)=>
 cndO (decide (b<a))
 (grdO (decide (0≤b)&&decide (b<(r.length:Int))) (atO r b.toNat fun s=>zAA (F171 s.2.1) fun t=>
 bindE (Y:=Int×Int×Cls×Mth×List Fld) (zAA (F89 (s.2.1,3,6)) fun u=>
 cndO (u)
 (cndO (decide (n≤s.2.2))
 (some (inr (inr (inr false))))
 (zAA (F172 s.2.1) fun u=>
 cndO (u)
 (zAA (F173 (r,s.2.2)) fun u=>
 cndO (decide (u<0))
 (some (inr (inr (inr false))))
 (cndO (!decide (t=0))
 (zAA (F124 (c,s.2.2)) fun(s,_,_,_)=>
 cndO (!decide (s=t))
 (some (inr (inr (inr false))))
 (some (inl (a,b,(c,d,e,f,g,h,i),(j,k,l,m,n,o,p,q),r))))
 (some (inl (a,b,(c,d,e,f,g,h,i),(j,k,l,m,n,o,p,q),r)))))
 (cndO (!decide (t=0))
 (zAA (F124 (c,s.2.2)) fun(s,_,_,_)=>
 cndO (!decide (s=t))
 (some (inr (inr (inr false))))
 (some (inl (a,b,(c,d,e,f,g,h,i),(j,k,l,m,n,o,p,q),r))))
 (some (inl (a,b,(c,d,e,f,g,h,i),(j,k,l,m,n,o,p,q),r))))))
 (zAA (F172 s.2.1) fun u=>
 cndO (u)
 (zAA (F173 (r,s.2.2)) fun u=>
 cndO (decide (u<0))
 (some (inr (inr (inr false))))
 (cndO (!decide (t=0))
 (zAA (F124 (c,s.2.2)) fun(s,_,_,_)=>
 cndO (!decide (s=t))
 (some (inr (inr (inr false))))
 (some (inl (a,b,(c,d,e,f,g,h,i),(j,k,l,m,n,o,p,q),r))))
 (some (inl (a,b,(c,d,e,f,g,h,i),(j,k,l,m,n,o,p,q),r)))))
 (cndO (!decide (t=0))
 (zAA (F124 (c,s.2.2)) fun(s,_,_,_)=>
 cndO (!decide (s=t))
 (some (inr (inr (inr false))))
 (some (inl (a,b,(c,d,e,f,g,h,i),(j,k,l,m,n,o,p,q),r))))
 (some (inl (a,b,(c,d,e,f,g,h,i),(j,k,l,m,n,o,p,q),r)))))) fun(a,b,(c,d,e,f,g,h,i),(j,k,l,m,n,o,p,q),r)=>
 some (inl (a,wrap .i64 (b+1),(c,d,e,f,g,h,i),(j,k,l,m,n,o,p,q),r))))
 (some (inr (inl (r,(c,d,e,f,g,h,i),j,k,l,m,n,o,p,q))))) (((a.length:Int),(0:Int),(b,c,d,e,f,g,h),(i,j,k,l,m,n,o,p),a))) fun(a,(b,c,d,e,f,g,h),i,j,k,l,m,n,o,p)=>
 bindE (Y:=List Fld×Cls×Mth) (zAE (fun(a,b,c,d,(e,f,g,h,i,j,k),l,m,n,o,p,q,r,s)=>
 cndO (decide (d<c))
 (bindE (Y:=List Fld×List Trp×Int×Int×Cls×Mth) (grdO (decide (0≤d)) (atO b d.toNat fun t=>cndO (decide (t.2.1≤t.1))
 (some (inr (inr (inr false))))
 (zAA (F173 (a,t.1)) fun u=>
 cndO (decide (u<0))
 (some (inr (inr (inr false))))
 (zAA (F173 (a,t.2.2.1)) fun u=>
 cndO (decide (u<0))
 (some (inr (inr (inr false))))
 (zAA (F173 (a,t.2.1)) fun u=>
 cndO (decide (u<0))
 (cndO (!decide (t.2.1=(q.length:Int)))
 (some (inr (inr (inr false))))
 (cndO (!decide (t.2.2.2=0))
 (zAA (F162 ((e,f,g,h,i,j,k),t.2.2.2)) fun t=>
 cndO (!t)
 (some (inr (inr (inr false))))
 (some (inl (a,b,c,d,(e,f,g,h,i,j,k),l,m,n,o,p,q,r,s))))
 (some (inl (a,b,c,d,(e,f,g,h,i,j,k),l,m,n,o,p,q,r,s)))))
 (cndO (!decide (t.2.2.2=0))
 (zAA (F162 ((e,f,g,h,i,j,k),t.2.2.2)) fun t=>
 cndO (!t)
 (some (inr (inr (inr false))))
 (some (inl (a,b,c,d,(e,f,g,h,i,j,k),l,m,n,o,p,q,r,s))))
 (some (inl (a,b,c,d,(e,f,g,h,i,j,k),l,m,n,o,p,q,r,s))))))))) fun(a,b,c,d,(e,f,g,h,i,j,k),l,m,n,o,p,q,r,s)=>
 some (inl (a,b,c,wrap .i64 (d+1),(e,f,g,h,i,j,k),l,m,n,o,p,q,r,s)))
 (some (inr (inl (a,(e,f,g,h,i,j,k),l,m,n,o,p,q,r,s))))) ((a,o,(o.length:Int),(0:Int),(b,c,d,e,f,g,h),i,j,k,l,m,n,o,p))) fun(a,(b,c,d,e,f,g,h),i,j,k,l,m,n,o,p)=>
 bindE (zAE (fun(a,b,c,d,e,(f,g,h,i,j,k,l),m,n,o,p,q,r,s,t)=>
 cndO (decide (e<d))
 (bindE (Y:=List Fld×Int×List Frm×Int×Int×Cls×Mth) (grdO (decide (0≤e)) (atO c e.toNat fun u=>zAA (F173 (a,u.1)) fun v=>
 cndO (decide (v<0))
 (some (inr (inr (inr false))))
 (cndO (decide (u.1≤b))
 (some (inr (inr (inr false))))
 (cndO (!decide ((u.2.1.length:Int)=q))
 (some (inr (inr (inr false))))
 (cndO (decide (p<(u.2.2.length:Int)))
 (some (inr (inr (inr false))))
 (zAA (F174 ((f,g,h,i,j,k,l),u.2.1)) fun b=>
 cndO (!b)
 (some (inr (inr (inr false))))
 (zAA (F174 ((f,g,h,i,j,k,l),u.2.2)) fun b=>
 cndO (!b)
 (some (inr (inr (inr false))))
 (some (inl (a,u.1,c,d,e,(f,g,h,i,j,k,l),m,n,o,p,q,r,s,t)))))))))) fun(a,b,c,d,e,(f,g,h,i,j,k,l),m,n,o,p,q,r,s,t)=>
 some (inl (a,b,c,d,wrap .i64 (e+1),(f,g,h,i,j,k,l),m,n,o,p,q,r,s,t)))
 (some (inr (inl ())))) ((a,(-1:Int),p,(p.length:Int),(0:Int),(b,c,d,e,f,g,h),i,j,k,l,m,n,o,p))) fun _=>
 some (true)
def tb87:=insT 87 (mkE 87 true [] ti244 zBu F87 [.tmp 4] 204 []) tb174
def ok87:zTb tb87:=okI ok174 noPl tv87 func87 rfl call87
abbrev ts29_8:SPat:=⟨[(1,.ptr 1 0),(22,.i .i64),(23,.i .i64)],zo11⟩
abbrev ts29_14:SPat:=⟨[(1,.ptr 1 0),(33,.i .i64),(34,.i .i64)],zo11⟩
abbrev zVP:SPat:=⟨[(1,.ptr 1 0),(43,.sl tg53),(44,.i .i64),(45,.i .i64)],zo11⟩
def tv29:Nat→Option SPat:=fun k=>bif k==8 then some ts29_8 else bif k==14 then some ts29_14 else bif k==20 then some zVP else bif k==2000001 then some zCN else bif k==2000003 then some zCN else bif k==2000005 then some zCA else bif k==2000006 then some zVP else none
def F29:Cls→Option Int:=fun(a,b,c,d,e,f,g)=>
 zAA (F20 (a,b,c,d,e,f,g)) fun h=>
 cndO (decide (h=[]))
 (some ((1:Int)))
 (zAA (F14 a) fun h=>
 cndO (!decide (h=0))
 (some ((2:Int)))
 (zAA (F83 (a,b,c,d,e,f,g)) fun h=>
 cndO (!h)
 (some ((3:Int)))
 (bindE (Y:=Cls) (zAE (fun(a,b,c,d,e,f,g,h,i)=>
 cndO (decide (b<a))
 (zAA (F84 ((c,d,e,f,g,h,i),b)) fun j=>
 cndO (!j)
 (some (inr (inr (4:Int))))
 (some (inl (a,wrap .i64 (b+1),c,d,e,f,g,h,i))))
 (some (inr (inl (c,d,e,f,g,h,i))))) (((f.length:Int),(0:Int),a,b,c,d,e,f,g))) fun(a,b,c,d,e,f,g)=>
 bindE (Y:=Cls) (zAE (fun(a,b,c,d,e,f,g,h,i)=>
 cndO (decide (b<a))
 (zAA (F85 ((c,d,e,f,g,h,i),b)) fun j=>
 cndO (!j)
 (some (inr (inr (5:Int))))
 (some (inl (a,wrap .i64 (b+1),c,d,e,f,g,h,i))))
 (some (inr (inl (c,d,e,f,g,h,i))))) (((g.length:Int),(0:Int),a,b,c,d,e,f,g))) fun(a,b,c,d,e,f,g)=>
 bindE (zAE (fun(a,b,c,d,e,f,g,h,i,j)=>
 cndO (decide (c<b))
 (bindE (Y:=List Mth×Int×Int×Cls) (grdO (decide (0≤c)) (atO a c.toNat fun k=>zAA (F86 k.1) fun l=>
 cndO (!l)
 (zAA (F87 ((d,e,f,g,h,i,j),k.1,k.2.1,k.2.2.1,k.2.2.2.1,k.2.2.2.2.1,k.2.2.2.2.2.1,k.2.2.2.2.2.2.1,k.2.2.2.2.2.2.2)) fun k=>
 cndO (!k)
 (some (inr (inr (inr (6:Int)))))
 (some (inl (a,b,c,d,e,f,g,h,i,j))))
 (some (inl (a,b,c,d,e,f,g,h,i,j))))) fun(a,b,c,d,e,f,g,h,i,j)=>
 some (inl (a,b,wrap .i64 (c+1),d,e,f,g,h,i,j)))
 (some (inr (inl ())))) ((g,(g.length:Int),(0:Int),a,b,c,d,e,f,g))) fun _=>
 some ((0:Int)))))
def tb29:=insT 29 (mkE 29 true [] ti69 zJG F29 [.tmp 2] 60 []) tb87
def ok29:zTb tb29:=okI ok87 noPl tv29 func29 rfl call29
abbrev to179:SPat:=⟨[(2,.own tg27 false)],[]⟩
def F179:List Cst→Option (List Cst):=fun a=>
 cndO (decide (a.length=0))
 (zBK
 (some ([]))
 (grdO (decide (a.length≤9223372036854775807)&&decide (a.length*40≤140737488355328)) (some a)))
 (grdO (decide (a.length≤9223372036854775807)&&decide (a.length*40≤140737488355328)) (some a))
def tb179:=insT 179 (mkE 179 true [] ti15 to179 F179 [.tmp 2] 8 []) tb29
def ok179:zTb tb179:=okI ok29 noPl noIv func179 rfl call179
abbrev ti180:SPat:=⟨[(0,.sl (.int .i64))],[]⟩
abbrev to180:SPat:=⟨[(2,.own (.int .i64) false)],[]⟩
def F180:List Int→Option (List Int):=fun a=>
 cndO (decide (a.length=0))
 (zBK
 (some ([]))
 (grdO (decide (a.length≤9223372036854775807)&&decide (a.length*8≤140737488355328)) (some a)))
 (grdO (decide (a.length≤9223372036854775807)&&decide (a.length*8≤140737488355328)) (some a))
def tb180:=insT 180 (mkE 180 true [] ti180 to180 F180 [.tmp 2] 8 []) tb179
def ok180:zTb tb180:=okI ok179 noPl noIv func180 rfl call180
abbrev to181:SPat:=⟨[(2,.own tg89 false)],[]⟩
def F181:List Fld→Option (List Fld):=fun a=>
 cndO (decide (a.length=0))
 (zBK
 (some ([]))
 (grdO (decide (a.length≤9223372036854775807)&&decide (a.length*24≤140737488355328)) (some a)))
 (grdO (decide (a.length≤9223372036854775807)&&decide (a.length*24≤140737488355328)) (some a))
def tb181:=insT 181 (mkE 181 true [] ti194 to181 F181 [.tmp 2] 8 []) tb180
def ok181:zTb tb181:=okI ok180 noPl noIv func181 rfl call181
abbrev ti182:SPat:=⟨[(0,.sl tg53)],[]⟩
abbrev to182:SPat:=⟨[(2,.own tg53 false)],[]⟩
def F182:List Mth→Option (List Mth):=fun a=>
 cndO (decide (a.length=0))
 (zBK
 (some ([]))
 (grdO (decide (a.length≤9223372036854775807)&&decide (a.length*104≤140737488355328)) (some a)))
 (grdO (decide (a.length≤9223372036854775807)&&decide (a.length*104≤140737488355328)) (some a))
def tb182:=insT 182 (mkE 182 false [] ti182 to182 F182 [.tmp 2] 8 []) tb181
def ok182:zTb tb182:=okI ok181 noPl noIv func182 rfl call182
abbrev ti183:SPat:=⟨[(0,.sl zFQ)],[]⟩
abbrev to183:SPat:=⟨[(2,.own zFQ false)],[]⟩
def F183:List Trp→Option (List Trp):=fun a=>
 cndO (decide (a.length=0))
 (zBK
 (some ([]))
 (grdO (decide (a.length≤9223372036854775807)&&decide (a.length*32≤140737488355328)) (some a)))
 (grdO (decide (a.length≤9223372036854775807)&&decide (a.length*32≤140737488355328)) (some a))
def tb183:=insT 183 (mkE 183 true [] ti183 to183 F183 [.tmp 2] 8 []) tb182
def ok183:zTb tb183:=okI ok182 noPl noIv func183 rfl call183
abbrev ti184:SPat:=⟨[(0,.sl zBd)],[]⟩
abbrev to184:SPat:=⟨[(2,.own zBd false)],[]⟩
def F184:List Frm→Option (List Frm):=fun a=>
 cndO (decide (a.length=0))
 (zBK
 (some ([]))
 (grdO (decide (a.length≤9223372036854775807)&&decide (a.length*56≤140737488355328)) (some a)))
 (grdO (decide (a.length≤9223372036854775807)&&decide (a.length*56≤140737488355328)) (some a))
def tb184:=insT 184 (mkE 184 false [] ti184 to184 F184 [.tmp 2] 8 []) tb183
def ok184:zTb tb184:=okI ok183 noPl noIv func184 rfl call184
abbrev to185:SPat:=⟨[(2,.own zBv false)],[]⟩
def F185:List Knd→Option (List Knd):=fun a=>
 cndO (decide (a.length=0))
 (zBK
 (some ([]))
 (grdO (decide (a.length≤9223372036854775807)&&decide (a.length*16≤140737488355328)) (some a)))
 (grdO (decide (a.length≤9223372036854775807)&&decide (a.length*16≤140737488355328)) (some a))
def tb185:=insT 185 (mkE 185 true [] ti216 to185 F185 [.tmp 2] 8 []) tb184
def ok185:zTb tb185:=okI ok184 noPl noIv func185 rfl call185
abbrev to92:SPat:=⟨[(2,.ptr 2 0)],[.box 2 (pl zo26)]⟩
abbrev zVI:SPat:=⟨[(1,.ptr 1 0),(2,.ptr 2 0),(24,.ar 7024),(25,.i .i64),(26,.i .i64)],[.box 1 (pl zo27),.box 2 (pl plD),.spl 7024 tg53]⟩
abbrev ts92_7:SPat:=⟨[(1,.ptr 1 0),(2,.ptr 2 0),(3,.i .i64),(24,.ar 7024),(25,.i .i64),(26,.i .i64),(48,.sl zBd),(49,.i .i64),(50,.i .i64)],[.box 1 (pl zo27),.box 2 (pl plD),.opn 7024 tg53 .spl (pl [.i .i64,.i .i64,.i .i64,.i .i64,.i .i64,.s,.own zFQ false,.ar 8060]),.spl 8060 zBd]⟩
abbrev zOj:SPat:=⟨[(1,.ptr 1 0),(2,.ptr 2 0)],[.box 1 (pl zo26),.box 2 (pl plD)]⟩
def tv92:Nat→Option SPat:=fun k=>bif k==3 then some zVI else bif k==7 then some ts92_7 else bif k==2000000 then some zOj else bif k==2000001 then some zVI else bif k==2000002 then some zVI else none
def tp92:Nat→List Nat×Plan:=fun id=>bif id==3000009 then([5000000],.fin)else bif id==3000005 then([5000000],.fin)else bif id==1 then([0,1,3,4,6,7,9,10],(.br 2 [1,0] [3,4,6,7,9,10] [12] (.br 5 zn27 [6,7,9,10,12] [] (.br 8 zn36 [9,10,12] [] (.br 11 zn15 [12] [] (.br 13 zn12 [] [14] (.br 15 zn32 [] [16] (.br 17 zn23 [] [18] (.br 19 [18,17,16,15,14,13,12,11,10,9,8,7,6,5,4,3,2,1,0] [] [] .fin .fin) .fin) .fin) .fin) .fin) .fin) .fin) .fin))else bif id==5 then([0,1,2,3,4,5,6,7,9,10],(.br 8 [7,6] [0,1,2,3,4,5,9,10] [] (.br 11 [10,9,8,7,6] zn2 [12,13] (.br 14 [13,12,11,10,9,8,7,6,2,1,0] [3,4,5] [15,16] (.br 17 zn23 [] [] .fin .fin) .fin) .fin) .fin))else bif id==9 then([0,1,2,3,4,5,6,7,8,9,10,11,12,13,14,15,17,18],(.br 16 [15,14] [0,1,2,3,4,5,6,7,8,9,10,11,12,13,17,18] [] (.br 19 [18,17,16,15,14] [0,1,2,3,4,5,6,7,8,9,10,11,12,13] [20,21] (.br 22 [21,20,19,18,17,16,15,14,12,11,10,9,8,7,6,5,4,3,2,1,0] [13] [23,24] (.br 25 zn31 [] [] .fin .fin) .fin) .fin) .fin))else([],.fin)
def F92:Cls→Option Cls:=fun(a,b,c,d,e,f,g)=>
 zAA (F179 a) fun a=>
 seqU (seqU (grdO (decide (e=e)) (some ())) (seqU (grdO (decide (f=f)) (some ())) (seqU (grdO (decide (g=g)) (some ())) (some ())))) (zAA (F180 e) fun e=>
 seqU (seqU (grdO (decide (f=f)) (some ())) (seqU (grdO (decide (g=g)) (some ())) (some ()))) (zAA (F181 f) fun f=>
 seqU (seqU (grdO (decide (g=g)) (some ())) (some ())) (zAA (F182 g) fun g=>
 bindE (Y :=  Cls×Cls) (zAE (fun(a,b,(c,d,e,f,g,h),(i,j,k,l,m,n,o),p,q)=>
 cndO (decide (b<a))
 (bindE (Y:=Int×Int×(List Cst×Int×Int×Int×List Int×List Fld)×Cls×List Mth×Nat) (grdO (decide (0≤b)&&decide (b<(p.length:Int))) (grdO (decide (q≤Int.toNat b)) (atO p b.toNat fun r=>zAA (F183 r.2.2.2.2.2.2.1) fun s=>
 seqU (seqU (grdO (decide (b=b)) (some ())) (seqU (grdO (decide (b=b)) (some ())) (seqU (grdO (decide (r.2.2.2.2.2.2.2=r.2.2.2.2.2.2.2)) (some ())) (some ())))) (zAA (F184 r.2.2.2.2.2.2.2) fun t=>
 seqU (seqU (grdO (decide (b=b)) (some ())) (seqU (grdO (decide (b=b)) (some ())) (some ()))) (grdO (decide (0≤b)&&decide (b<(p.length:Int))) (grdO (decide (q=Int.toNat b)) (atO p b.toNat fun q=>grdO (decide (Int.toNat b=Int.toNat b)&&decide (Int.toNat b<p.length)) (seqU (seqU (grdO (decide (b=b)) (some ())) (some ())) (grdO (decide (0≤b)&&decide (b<(p.length:Int))) (grdO (decide (Int.toNat b=Int.toNat b)&&decide (Int.toNat b<p.length)) (bindE (Y:=Int×Int×(List Cst×Int×Int×Int×List Int×List Fld)×Cls×List Mth×Nat) (grdO (decide (Int.toNat b=Int.toNat b)&&decide (Int.toNat b<p.length)) (grdO (decide (Int.toNat b=Int.toNat b)&&decide (Int.toNat b<p.length)) (zAE (fun(a,b,c,d,e,f,(g,h,i,j,k,l),(m,n,o,p,q,r,s),(t,u,v,w,x,y,z,A,B),C,D)=>
 cndO (decide (f<e))
 (grdO (decide (0≤f)) (atO d f.toNat fun E=>grdO (decide (0≤a)&&decide (a<(t.length:Int))) (grdO (decide (Int.toNat a=u)&&decide (u<t.length)) (grdO (decide (Int.toNat a=u)&&decide (u<t.length)) (grdO (decide (0≤a)&&decide (a<(t.length:Int))) (grdO (decide (Int.toNat a=u)&&decide (u<t.length)) (grdO (decide (Int.toNat a=u)&&decide (u<t.length)) (zAA (F185 E.2.1) fun G=>
 seqU (seqU (grdO (decide (a=a)) (some ())) (seqU (grdO (decide (0≤a)&&decide (a<(t.length:Int))) (grdO (Int.toNat a==Int.toNat a&&true) (some ()))) (seqU (grdO (Int.toNat a==Int.toNat a&&true) (some ())) (seqU (grdO (decide (Int.toNat a=u)&&decide (u<t.length)) (grdO (decide (Int.toNat a=u)&&decide (u<t.length)) (grdO (decide (Int.toNat a=u)&&decide (u<t.length)) (some ())))) (seqU (grdO (decide (f=f)) (some ())) (seqU (grdO (decide (a=a)) (some ())) (seqU (grdO (decide (0≤a)&&decide (a<(t.length:Int))) (grdO (Int.toNat a==Int.toNat a&&true) (some ()))) (seqU (grdO (Int.toNat a==Int.toNat a&&true) (some ())) (seqU (grdO (decide (Int.toNat a=u)&&decide (u<t.length)) (grdO (decide (Int.toNat a=u)&&decide (u<t.length)) (grdO (decide (Int.toNat a=u)&&decide (u<t.length)) (some ())))) (seqU (grdO (decide (f=f)) (some ())) (seqU (grdO (decide (E.2.2=E.2.2)) (some ())) (some ())))))))))))) (zAA (F185 E.2.2) fun E=>
 seqU (seqU (grdO (decide (a=a)) (some ())) (seqU (grdO (decide (0≤a)&&decide (a<(t.length:Int))) (grdO (Int.toNat a==Int.toNat a&&true) (some ()))) (seqU (grdO (Int.toNat a==Int.toNat a&&true) (some ())) (seqU (grdO (decide (Int.toNat a=u)&&decide (u<t.length)) (grdO (decide (Int.toNat a=u)&&decide (u<t.length)) (grdO (decide (Int.toNat a=u)&&decide (u<t.length)) (some ())))) (seqU (grdO (decide (f=f)) (some ())) (seqU (grdO (decide (a=a)) (some ())) (seqU (grdO (decide (0≤a)&&decide (a<(t.length:Int))) (grdO (Int.toNat a==Int.toNat a&&true) (some ()))) (seqU (grdO (Int.toNat a==Int.toNat a&&true) (some ())) (seqU (grdO (decide (Int.toNat a=u)&&decide (u<t.length)) (grdO (decide (Int.toNat a=u)&&decide (u<t.length)) (grdO (decide (Int.toNat a=u)&&decide (u<t.length)) (some ())))) (seqU (grdO (decide (f=f)) (some ())) (some ()))))))))))) (grdO (decide (0≤f)&&decide (f<(C.length:Int))) (grdO (decide (D=Int.toNat f)) (atO C f.toNat fun D=>grdO (decide (Int.toNat f=Int.toNat f)&&decide (Int.toNat f<C.length)) (seqU (seqU (grdO (decide (f=f)) (some ())) (some ())) (grdO (decide (0≤f)&&decide (f<(C.length:Int))) (grdO (decide (Int.toNat f=Int.toNat f)&&decide (Int.toNat f<C.length)) (grdO (decide (u=u)&&decide (u<t.length)) (grdO (decide (Int.toNat f<C.length)) (some (inl (a,b,c,d,e,wrap .i64 (f+1),(g,h,i,j,k,l),(m,n,o,p,q,r,s),(t,u,v,w,x,y,z,A,B),List.set C f.toNat (D.1,G,E),Int.toNat f+1))))))))))))))))))))
 (mapR (grdO (decide (D=C.length)) (grdO (decide (u<t.length)) (grdO (decide (u=u)&&decide (u<t.length)) (grdO (decide (u<t.length)) (some (inl (b,c,(g,h,i,j,k,l),(m,n,o,p,q,r,s),List.set t u (v,w,x,y,z,A,B,C),u+1))))))))) ((b,a,b,r.2.2.2.2.2.2.2,(r.2.2.2.2.2.2.2.length:Int),(0:Int),(c,d,e,f,g,h),(i,j,k,l,m,n,o),(p,Int.toNat b,q.1,q.2.1,q.2.2.1,q.2.2.2.1,q.2.2.2.2.1,q.2.2.2.2.2.1,s),t,nat_lit 0))))) fun(a,b,(c,d,e,f,g,h),(i,j,k,l,m,n,o),p,q)=>
 some (inl (a,b,(c,d,e,f,g,h),(i,j,k,l,m,n,o),p,q))))))))))))) fun(a,b,(c,d,e,f,g,h),(i,j,k,l,m,n,o),p,q)=>
 some (inl (a,wrap .i64 (b+1),(c,d,e,f,g,h),(i,j,k,l,m,n,o),p,q)))
 (mapR (grdO (decide (q=p.length)) (some (inl ((c,d,e,f,g,h,p),i,j,k,l,m,n,o)))))) (((g.length:Int),(0:Int),(a,b,c,d,e,f),([],(0:Int),(0:Int),(0:Int),[],[],[]),g,nat_lit 0))) fun((a,b,c,d,e,f,g),_,_,_,_,_,_,_)=>
 some ((a,b,c,d,e,f,g)))))
def tb92:=insT 92 (mkE 92 true [] ti69 to92 F92 [.cell 2 34] 82 []) tb185
def ok92:zTb tb92:=okI ok185 tp92 tv92 func92 rfl call92
def tv253:Nat→Option SPat:=fun k=>bif k==4 then some zVh else bif k==2000000 then some zCA else none
def tp253:Nat→List Nat×Plan:=fun id=>bif id==6 then(zn35,.fin)else([],.fin)
def F253:List Fld×List Fld→Option Bool:=fun(a,b)=>
 cndO (!decide ((a.length:Int)=(b.length:Int)))
 (some false)
 (bindE (zAE (fun(a,b,c,d)=>
 cndO (decide (d<c))
 (grdO (decide (0≤d)) (atO a d.toNat fun e=>grdO (decide (0≤d)) (atO b d.toNat fun f=>cndO (!(decide (e.1=f.1)&&(decide (e.2.1=f.2.1)&&(decide (e.2.2=f.2.2)&&true))))
 (some (inr (inr false)))
 (some (inl (a,b,c,wrap .i64 (d+1)))))))
 (some (inr (inl ())))) ((a,b,(a.length:Int),(0:Int)))) fun _=>
 some true)
def tb253:=insT 253 (mkE 253 true [] ti149 zBu F253 [.tmp 4] 26 []) tb92
def ok253:zTb tb253:=okI ok92 tp253 tv253 func253 rfl call253
abbrev zVZ:SPat:=⟨[(0,.sl tg89),(3,.s),(11,.sl tg89),(12,.i .i64),(13,.i .i64)],[]⟩
abbrev zMu:SPat:=⟨[(0,.sl tg89),(3,.s)],[]⟩
def tv195:Nat→Option SPat:=fun k=>bif k==5 then some zVZ else bif k==2000000 then some zMu else bif k==2000002 then some zVZ else none
def tp195:Nat→List Nat×Plan:=fun id=>bif id==11 then([0,1,2,4,5],(.br 3 [2,1] [0,4,5] [] (.br 6 zn39 [0] [7,8] (.br 9 zn20 [] [] .fin .fin) .fin) .fin))else bif id==13 then([0,1,2,4,5],(.br 3 [2,1] [0,4,5] [] (.br 6 zn39 [0] [7,8] (.br 9 zn20 [] [] .fin .fin) .fin) .fin))else([],.fin)
def F195:List Fld→Option zBy:=fun a=>
 cndO (decide (120<(a.length:Int)))
 (some ([]))
 (bindE (Y:=List Fld×zBy) (zAE (fun(a,b,c,d,e)=>
 cndO (decide (e<d))
 (grdO (decide (0≤e)) (atO c e.toNat fun f=>zAA (F90 f.2.1) fun g=>
 bindE (Y:=List Fld×zBy×List Fld×Int×Int) (cndO (decide (g=0))
 (zAA (F144 f.2.1) fun f=>
 grdO (decide (b.length+f.length≤9223372036854775807)) (some (inl (a,b++f,c,d,e))))
 (cndO (decide (g=1))
 (zAA (F144 f.2.1) fun g=>
 seqU (seqU (grdO (decide (b=b)) (some ())) (seqU (grdO (decide (f.2.2=f.2.2)) (some ())) (some ()))) (zAA (F144 f.2.2) fun f=>
 seqU (seqU (grdO (decide (b=b)) (some ())) (some ())) (grdO (decide (g.length+f.length≤9223372036854775807)) (grdO (decide (b.length+List.length (g++f)≤9223372036854775807)) (some (inl (a,b++(g++f),c,d,e)))))))
 (cndO (decide (g=2))
 (zAA (F144 f.2.1) fun g=>
 seqU (seqU (grdO (decide (b=b)) (some ())) (seqU (grdO (decide (f.2.2=f.2.2)) (some ())) (some ()))) (zAA (F145 f.2.2) fun f=>
 seqU (seqU (grdO (decide (b=b)) (some ())) (some ())) (grdO (decide (g.length+f.length≤9223372036854775807)) (grdO (decide (b.length+List.length (g++f)≤9223372036854775807)) (some (inl (a,b++(g++f),c,d,e)))))))
 (some (inl (a,b,c,d,e)))))) fun(a,b,c,d,e)=>
 some (inl (a,b,c,d,wrap .i64 (e+1)))))
 (some (inr (inl (a,b))))) ((a,[],a,(a.length:Int),(0:Int)))) fun(a,b)=>
 zAA (F31 b) fun(c,d)=>
 cndO (!d)
 (some ([]))
 (zAA (F253 (c,a)) fun a=>
 cndO (!a)
 (some ([]))
 (some b)))
def tb195:=insT 195 (mkE 195 true [] ti194 zEU F195 [.tmp 2] 64 []) tb253
def ok195:zTb tb195:=okI ok253 tp195 tv195 func195 rfl call195
abbrev to103:SPat:=⟨[(2,.ptr 2 0)],[.box 2 (pl plM)]⟩
abbrev zVl:SPat:=⟨[(1,.ptr 1 0),(2,.ptr 2 0),(3,.ar 3),(5,.own (.int .i64) true),(6,.own tg89 true),(7,.i .i64),(32,.ar 3),(33,.i .i64),(34,.i .i64)],[.box 1 (pl plM),.box 2 (pl zo28),.arr 3 tg89 true]⟩
abbrev zSX:SPat:=⟨[(1,.ptr 1 0),(2,.ptr 2 0),(5,.own (.int .i64) true),(6,.ar 6),(73,.ar 6),(74,.i .i64),(75,.i .i64)],[.box 1 (pl plM),.box 2 (pl zo28),.arr 6 tg89 true]⟩
abbrev zSW:SPat:=⟨[(1,.ptr 1 0),(2,.ptr 2 0),(5,.own (.int .i64) true),(12,.ptr 12 0),(107,.sl zFQ),(108,.i .i64),(109,.i .i64)],[.box 1 (pl plM),.box 2 (pl zo28),.box 12 (pl zo28)]⟩
abbrev ts103_32:SPat:=⟨[(2,.ptr 2 0),(5,.own (.int .i64) true),(12,.ptr 12 0),(144,.sl zBd),(145,.i .i64),(146,.i .i64)],[.box 2 (pl zo28),.box 12 (pl zo28)]⟩
abbrev zNO:SPat:=⟨[(1,.ptr 1 0),(2,.ptr 2 0),(3,.ar 3),(5,.own (.int .i64) true),(6,.own tg89 true),(7,.i .i64),(9,.ptr 9 0),(32,.ar 3),(33,.i .i64),(34,.i .i64)],[.box 1 (pl plM),.box 2 (pl zo28),.arr 3 tg89 true,.box 9 (pl zo6)]⟩
abbrev zNN:SPat:=⟨[(2,.ptr 2 0),(5,.own (.int .i64) true),(12,.ptr 12 0),(16,.ptr 16 0),(17,.i .i64),(144,.sl zBd),(145,.i .i64),(146,.i .i64),(172,.b)],[.box 2 (pl zo28),.box 12 (pl zo28),.box 16 (pl zo22)]⟩
abbrev zNM:SPat:=⟨[(2,.ptr 2 0),(5,.own (.int .i64) true),(12,.ptr 12 0),(16,.ptr 16 0),(144,.sl zBd),(145,.i .i64),(146,.i .i64)],[.box 2 (pl zo28),.box 12 (pl zo28),.box 16 (pl zo22)]⟩
abbrev zNL:SPat:=⟨[(1,.ptr 1 0),(2,.ptr 2 0),(5,.own (.int .i64) true),(6,.own tg89 true),(7,.i .i64)],[.box 1 (pl plM),.box 2 (pl zo28)]⟩
abbrev zNK:SPat:=⟨[(1,.ptr 1 0),(2,.ptr 2 0),(5,.own (.int .i64) true),(6,.own tg89 true)],[.box 1 (pl plM),.box 2 (pl zo28)]⟩
abbrev zNJ:SPat:=⟨[(1,.ptr 1 0),(2,.ptr 2 0),(5,.own (.int .i64) true),(12,.ptr 12 0)],[.box 1 (pl plM),.box 2 (pl zo28),.box 12 (pl zo28)]⟩
abbrev zNI:SPat:=⟨[(2,.ptr 2 0),(12,.ptr 12 0)],[.box 2 (pl zo28),.box 12 (pl zo28)]⟩
def tv103:Nat→Option SPat:=fun k=>bif k==8 then some zVl else bif k==18 then some zSX else bif k==25 then some zSW else bif k==32 then some ts103_32 else bif k==1000012 then some zNO else bif k==1000037 then some zNN else bif k==1000038 then some zNM else bif k==2000000 then some zNL else bif k==2000001 then some zVl else bif k==2000002 then some zNK else bif k==2000003 then some zSX else bif k==2000004 then some zNJ else bif k==2000005 then some zSW else bif k==2000006 then some zNI else none
def tp103:Nat→List Nat×Plan:=fun id=>bif id==23 then(zn14,(.br 11 [10] zn7 [12] (.br 13 [] [0,1,2,3,4,5,6,7,8,9,10,12] [] (.br 14 zn22 [] [] .fin .fin) .fin) (.br 13 [] zn14 [] (.br 11 [10] zn7 [12] (.br 14 zn22 [] [] .fin .fin) .fin) .fin)))else bif id==27 then(zn4,(.br 16 [15,12,11,7,6,4,3,2,1,0] [5,8,9,10,13,14] [17] (.br 18 [17,16,15,12,11,9,8,7,6,5,4,3,2,1,0] [10,13,14] [19] (.br 20 zn41 [] [] .fin .fin) .fin) .fin))else bif id==36 then([0,1,2,3,4,5,6,7,8,9,10,11,12,13],.fin)else([],.fin)
def F103:Mth→Option Mth:=fun(a,b,c,d,e,f,g,h)=>zAA (F31 f) fun(i,j)=>cndO (!j) (some ((a,b,c,d,e,f,g,h))) (grdO (decide (wrap .i64 ((f.length:Int)+1)=wrap .i64 ((f.length:Int)+1))&&decide (0≤wrap .i64 ((f.length:Int)+1))&&decide (wrap .i64 ((f.length:Int)+1)≤9223372036854775807)&&decide (wrap .i64 ((f.length:Int)+1)*8≤140737488355328)) (bindE (Y:=List Int×List Fld×Int×Mth×Mth) (zAE (fun(a,b,c,d,e,(f,g,h,i,j,k,l,m),(n,o,p,q,r,s,t,u),v)=>cndO (decide (e<d)) (bindE (Y:=List Int×List Fld×Int×Int×Int×Mth×Mth×List Fld) (grdO (decide (0≤e)&&decide (e<(v.length:Int))) (atO v e.toNat fun w=>grdO (decide (0≤w.1)&&decide (w.1<(a.length:Int))) (atO a w.1.toNat fun _=>bindE (Y:=List Int×List Fld×Int×Int×Int×Mth×Mth×List Fld×Int×Int×Int) (let x:=some (inl (List.set a w.1.toNat c,b,c,d,e,(f,g,h,i,j,k,l,m),(n,o,p,q,r,s,t,u),v,w.1,w.2.1,w.2.2));cndO (decide (w.2.1=0)) (cndO (decide (e<wrap .i64 ((v.length:Int)-1))) (some (inr (inl (List.set a w.1.toNat c,b,c,d,e,(f,g,h,i,j,k,l,m),(n,o,p,q,r,s,t,u),v)))) x) x) fun(a,b,c,d,e,(f,g,h,i,j,k,l,m),(n,o,p,q,r,s,t,u),v,_,w,x)=>grdO (decide (b.length+1≤9223372036854775807)&&decide ((b.length+1)*24≤140737488355328)) (zAA (F90 w) fun y=>some (inl (a,b++[(c,w,x)],wrap .i64 (c+wrap .i64 ((1:Int)+y)),d,e,(f,g,h,i,j,k,l,m),(n,o,p,q,r,s,t,u),v)))))) fun(a,b,c,d,e,(f,g,h,i,j,k,l,m),(n,o,p,q,r,s,t,u),v)=>some (inl (a,b,c,d,wrap .i64 (e+1),(f,g,h,i,j,k,l,m),(n,o,p,q,r,s,t,u),v))) (some (inr (inl (a,b,c,(f,g,h,i,j,k,l,m),n,o,p,q,r,s,t,u))))) ((List.replicate (Int.toNat (wrap .i64 ((f.length:Int)+1))) (0:Int),[],(0:Int),(i.length:Int),(0:Int),(a,b,c,d,e,f,g,h),((0:Int),(0:Int),(0:Int),(0:Int),(0:Int),[],[],[]),i))) fun(a,b,c,(d,e,f,g,h,i,j,k),l,m,n,o,p,q,r,s)=>grdO (decide (0≤(i.length:Int))&&decide ((i.length:Int)<(a.length:Int))) (atO a (Int.toNat (i.length:Int)) fun _=>bindE (Y:=List Int×List Fld×Mth×Mth) (zAE (fun(a,b,c,(d,e,f,g,h,i,j,k),(l,m,n,o,p,q,r,s),t)=>cndO (decide (c<b)) (bindE (Y:=List Int×Int×Int×Mth×Mth×List Fld) (grdO (decide (0≤c)&&decide (c<(t.length:Int))) (atO t c.toNat fun u=>zAA (F172 u.2.1) fun v=>cndO v (grdO (decide (0≤u.2.2)&&decide (u.2.2<(a.length:Int))) (atO a u.2.2.toNat fun u=>grdO (decide (0≤c)&&decide (c<(t.length:Int))) (atO t c.toNat fun v=>some (inl (a,b,c,(d,e,f,g,h,i,j,k),(l,m,n,o,p,q,r,s),List.set t c.toNat (v.1,v.2.1,u)))))) (some (inl (a,b,c,(d,e,f,g,h,i,j,k),(l,m,n,o,p,q,r,s),t))))) fun(a,b,c,(d,e,f,g,h,i,j,k),(l,m,n,o,p,q,r,s),t)=>some (inl (a,b,wrap .i64 (c+1),(d,e,f,g,h,i,j,k),(l,m,n,o,p,q,r,s),t))) (some (inr (inl (a,t,(d,e,f,g,h,i,j,k),l,m,n,o,p,q,r,s))))) ((List.set a (Int.toNat (i.length:Int)) c,(b.length:Int),(0:Int),(d,e,f,g,h,i,j,k),(l,m,n,o,p,q,r,s),b))) fun(a,b,(c,d,e,f,g,h,i,j),k,l,m,n,o,p,q,r)=>let a:=fun(b:zBy)=>bindE (Y:=List Int×Mth×Mth×Mth) (zAE (fun(a,b,c,d,(e,f,g,h,i,j,k,l),(m,n,o,p,q,r,s,t),u,v,w,x,y,z,A,B)=>cndO (decide (d<c)) (bindE (Y:=List Int×List Trp×Int×Int×Mth×Mth×Mth) (grdO (decide (0≤d)) (atO b d.toNat fun C=>grdO (decide (0≤C.1)&&decide (C.1<(a.length:Int))) (atO a C.1.toNat fun D=>grdO (decide (0≤C.2.1)&&decide (C.2.1<(a.length:Int))) (atO a C.2.1.toNat fun E=>grdO (decide (0≤C.2.2.1)&&decide (C.2.2.1<(a.length:Int))) (atO a C.2.2.1.toNat fun G=>let H:=seqU (grdO (decide (0≤C.2.2.1)&&decide (C.2.2.1<(a.length:Int))) (grdO (C.2.2.1.toNat==C.2.2.1.toNat&&true) (some ()))) (seqU (atO a C.2.2.1.toNat fun a=>grdO (decide (a=G)) (some ())) (some ()));seqU (seqU (grdO (decide (0≤C.2.1)&&decide (C.2.1<(a.length:Int))) (grdO (C.2.1.toNat==C.2.1.toNat&&true) (some ()))) (seqU (atO a C.2.1.toNat fun a=>grdO (decide (a=E)) (some ())) H)) (seqU H (cndO (decide (D<E)) (grdO (decide (A.length+1≤9223372036854775807)&&decide ((A.length+1)*32≤140737488355328)) (some (inl (a,b,c,d,(e,f,g,h,i,j,k,l),(m,n,o,p,q,r,s,t),u,v,w,x,y,z,A++[(D,E,G,C.2.2.2)],B)))) (some (inl (a,b,c,d,(e,f,g,h,i,j,k,l),(m,n,o,p,q,r,s,t),u,v,w,x,y,z,A,B)))))))))) fun(a,b,c,d,(e,f,g,h,i,j,k,l),(m,n,o,p,q,r,s,t),u,v,w,x,y,z,A,B)=>some (inl (a,b,c,wrap .i64 (d+1),(e,f,g,h,i,j,k,l),(m,n,o,p,q,r,s,t),u,v,w,x,y,z,A,B))) (some (inr (inl (a,(e,f,g,h,i,j,k,l),(m,n,o,p,q,r,s,t),u,v,w,x,y,z,A,B))))) ((a,i,(i.length:Int),(0:Int),(c,d,e,f,g,h,i,j),(k,l,m,n,o,p,q,r),c,d,e,f,g,b,[],[]))) fun(a,(_,_,_,_,_,_,_,b),(c,d,e,f,g,h,i,j),k,l,m,n,o,p,q,r)=>bindE (Y :=  Mth×Mth) (zAE (fun(a,b,c,d,(e,f,g,h,i,j,k,l),m,n,o,p,q,r,s,t)=>cndO (decide (d<c)) (grdO (decide (0≤d)) (atO b d.toNat fun u=>grdO (decide (0≤u.1)&&decide (u.1<(a.length:Int))) (atO a u.1.toNat fun v=>bindE (Y:=List Int×List Frm×Int×Int×Mth×Mth×Frm) (bindE (Y:=List Int×Int×List Frm×Int×Int×Bool×Mth×Mth×Frm) (cndO (decide (0<(t.length:Int))) (grdO (decide (0≤wrap .i64 ((t.length:Int)-1))&&decide (wrap .i64 ((t.length:Int)-1)<(t.length:Int))) (atO t (Int.toNat (wrap .i64 ((t.length:Int)-1))) fun w=>some (inl (a,(t.length:Int),b,c,d,decide (w.1=v),(e,f,g,h,i,j,k,l),(m,n,o,p,q,r,s,t),v,u.2.1,u.2.2)))) (some (inl (a,(t.length:Int),b,c,d,false,(e,f,g,h,i,j,k,l),(m,n,o,p,q,r,s,t),v,u.2.1,u.2.2)))) fun(a,b,c,d,e,f,(g,h,i,j,k,l,m,n),(o,p,q,r,s,t,u,v),w,x,y)=>cndO f (grdO (decide (0≤wrap .i64 (b-1))&&decide (wrap .i64 (b-1)≤(v.length:Int))) (some (inl (a,c,d,e,(g,h,i,j,k,l,m,n),(o,p,q,r,s,t,u,List.drop (0:Nat) (List.take (Int.toNat (wrap .i64 (b-1))) v)),w,x,y)))) (some (inl (a,c,d,e,(g,h,i,j,k,l,m,n),(o,p,q,r,s,t,u,v),w,x,y)))) fun(a,b,c,d,(e,f,g,h,i,j,k,l),(m,n,o,p,q,r,s,t),u,v,w)=>grdO (decide (t.length+1≤9223372036854775807)&&decide ((t.length+1)*56≤140737488355328)) (some (inl (a,b,c,wrap .i64 (d+1),(e,f,g,h,i,j,k,l),m,n,o,p,q,r,s,t++[(u,v,w)])))))) (some (inr (inl ((e,f,g,h,i,j,k,l),m,n,o,p,q,r,s,t))))) ((a,b,(b.length:Int),(0:Int),(c,d,e,f,g,h,i,j),k,l,m,n,o,p,q,r))) fun((_,_,_,_,_,_,_,_),a,b,c,d,e,f,g,h)=>some ((a,b,c,d,e,f,g,h));let h:=seqU (grdO (decide (c=c)) (some ())) (seqU (grdO (decide (d=d)) (some ())) (seqU (grdO (decide (e=e)) (some ())) (seqU (grdO (decide (f=f)) (some ())) (seqU (grdO (decide (g=g)) (some ())) (some ())))));zBK (zAA (F195 b) fun b=>seqU h (seqU (seqU (grdO (decide (c=c)) (some ())) (seqU (grdO (decide (d=d)) (some ())) (seqU (grdO (decide (e=e)) (some ())) (seqU (grdO (decide (f=f)) (some ())) (seqU (grdO (decide (g=g)) (some ())) (seqU (grdO (decide (c=c)&&(decide (d=d)&&(decide (e=e)&&(decide (f=f)&&(decide (g=g)&&(decide (b=b)&&true)))))) (some ())) (some ()))))))) (a b))) (seqU h (zAA (F195 b) fun b=>seqU h (a b))))))
def tb103:=insT 103 (mkE 103 false [] zWC to103 F103 [.cell 2 53] 187 []) tb195
def ok103:zTb tb103:=okI ok195 tp103 tv103 func103 rfl call103
abbrev to38:SPat:=⟨[(2,.ptr 2 0)],[.box 2 (pl zo29)]⟩
abbrev ts38_5:SPat:=⟨[(2,.ptr 2 0),(3,.ptr 3 0),(13,.ar 7013),(14,.i .i64),(15,.i .i64)],[.box 2 (pl plD),.box 3 (pl [.own tg27 false,.i .i64,.i .i64,.i .i64,.own (.int .i64) false,.own tg89 false,.ar 7013]),.arr 7013 tg53 false]⟩
abbrev zIE:SPat:=⟨[(2,.ptr 2 0),(3,.ptr 3 0)],[.box 2 (pl plD),.box 3 (pl zo29)]⟩
def tv38:Nat→Option SPat:=fun k=>bif k==5 then some ts38_5 else bif k==2000000 then some zIE else bif k==2000001 then some ts38_5 else none
def tp38:Nat→List Nat×Plan:=fun id=>bif id==3000004 then([8000000],.fin)else bif id==8 then([0,1,2,3],(.br 4 [3] [0,1,2] [5] (.br 6 [5,4,3,2,1,0] [] [] .fin .fin) .fin))else([],.fin)
def F38:Cls→Option Cls:=fun(a,b,c,d,e,f,g)=>
 zAA (F29 (a,b,c,d,e,f,g)) fun h=>
 cndO (!decide (h=0))
 (some (([],(0:Int),(0:Int),(0:Int),[],[],[])))
 (zAA (F92 (a,b,c,d,e,f,g)) fun(a,b,c,d,e,f,g)=>
 bindE (Y :=  Cls×Cls) (zAE (fun(a,b,(c,d,e,f,g,h,i),(j,k,l,m,n,o),p)=>
 cndO (decide (b<a))
 (bindE (Y:=Int×Int×Cls×(List Cst×Int×Int×Int×List Int×List Fld)×List Mth) (grdO (decide (0≤b)&&decide (b<(p.length:Int))) (atO p b.toNat fun q=>zAA (F86 q.1) fun r=>
 cndO (!r)
 (zAA (F103 (q.1,q.2.1,q.2.2.1,q.2.2.2.1,q.2.2.2.2.1,q.2.2.2.2.2.1,q.2.2.2.2.2.2.1,q.2.2.2.2.2.2.2)) fun(q,r,s,t,u,v,w,x)=>
 seqU (seqU (grdO (decide (b=b)) (some ())) (some ())) (grdO (decide (0≤b)&&decide (b<(p.length:Int))) (atO p b.toNat fun _=>some (inl (a,b,(c,d,e,f,g,h,i),(j,k,l,m,n,o),List.set p b.toNat (q,r,s,t,u,v,w,x))))))
 (some (inl (a,b,(c,d,e,f,g,h,i),(j,k,l,m,n,o),p))))) fun(a,b,(c,d,e,f,g,h,i),(j,k,l,m,n,o),p)=>
 some (inl (a,wrap .i64 (b+1),(c,d,e,f,g,h,i),(j,k,l,m,n,o),p)))
 (some (inr (inl ((c,d,e,f,g,h,i),j,k,l,m,n,o,p))))) (((g.length:Int),(0:Int),([],(0:Int),(0:Int),(0:Int),[],[],[]),(a,b,c,d,e,f),g))) fun((_,_,_,_,_,_,_),a,b,c,d,e,f,g)=>
 some ((a,b,c,d,e,f,g)))
def tb38:=insT 38 (mkE 38 false [] ti69 to38 F38 [.cell 2 34] 32 []) tb103
def ok38:zTb tb38:=okI ok103 tp38 tv38 func38 rfl call38
def F30:Cls→Option Int:=fun(a,b,c,d,e,f,g)=>
 zAA (F22 (a,b,c,d,e,f,g)) fun h=>
 cndO (decide (h=[]))
 (some ((1:Int)))
 (zAA (F88 (a,b,c,d,e,f,g)) fun a=>
 some a)
def tb30:=insT 30 (mkE 30 true [] ti69 zJG F30 [.tmp 2] 8 []) tb38
def ok30:zTb tb30:=okI ok38 noPl noIv func30 rfl call30
abbrev to186:SPat:=⟨[(2,.ptr 2 0)],[.box 2 (pl zo30)]⟩
abbrev ts186_5:SPat:=⟨[(1,.ptr 1 0),(2,.ptr 2 0),(3,.ptr 3 0),(4,.i .i64)],[.box 1 (pl plM),.box 2 (pl plN),.box 3 (pl zo30)]⟩
abbrev zMw:SPat:=⟨[(2,.ptr 2 0),(3,.ptr 3 0)],[.box 2 (pl plN),.box 3 (pl zo30)]⟩
def tv186:Nat→Option SPat:=fun k=>bif k==5 then some ts186_5 else bif k==2000000 then some zMw else none
def F186:Mth→Option Mth:=fun(a,b,c,d,e,f,g,h)=>
 grdO (decide (g.length≤9223372036854775807)&&decide (g.length*32≤140737488355328)) (bindE (Y :=  Mth×Mth) (zAE (fun(a,(b,c,d,e,f,g,h,i),(j,k,l,m,n,o,p,q),r,s,t,u,v,w,x,y)=>
 cndO (decide (a<(i.length:Int)))
 (grdO (decide (0≤a)) (atO i a.toNat fun z=>grdO (decide (z.2.1.length≤9223372036854775807)&&decide (z.2.1.length*16≤140737488355328)) (grdO (decide (z.2.2.length≤9223372036854775807)&&decide (z.2.2.length*16≤140737488355328)) (grdO (decide (y.length+1≤9223372036854775807)&&decide ((y.length+1)*56≤140737488355328)) (some (inl (wrap .i64 (a+1),(b,c,d,e,f,g,h,i),(j,k,l,m,n,o,p,q),r,s,t,u,v,w,x,y++[(z.1,z.2.1,z.2.2)])))))))
 (some (inr (inl ((j,k,l,m,n,o,p,q),r,s,t,u,v,w,x,y))))) (((0:Int),(a,b,c,d,e,f,g,h),((0:Int),(0:Int),(0:Int),(0:Int),(0:Int),[],[],[]),a,b,c,d,e,f,g,[]))) fun((_,_,_,_,_,_,_,_),a,b,c,d,e,f,g,h)=>
 some ((a,b,c,d,e,f,g,h)))
def tb186:=insT 186 (mkE 186 true [] zWC to186 F186 [.cell 2 53] 42 []) tb30
def ok186:zTb tb186:=okI ok30 noPl tv186 func186 rfl call186
abbrev ts93_7:SPat:=⟨[(1,.ptr 1 0),(2,.ptr 2 0),(3,.ptr 3 0),(4,.i .i64)],[.box 1 (pl plC),.box 2 (pl zo31),.box 3 (pl zo29)]⟩
abbrev zOi:SPat:=⟨[(2,.ptr 2 0),(3,.ptr 3 0)],[.box 2 (pl zo31),.box 3 (pl zo29)]⟩
def tv93:Nat→Option SPat:=fun k=>bif k==7 then some ts93_7 else bif k==2000000 then some zOi else none
def tp93:Nat→List Nat×Plan:=fun id=>bif id==3000009 then([6500000],.fin)else bif id==9 then(zn8,(.br 7 [6,5,4,3,2] zn0 [] (.br 8 [7,6,5,4,3,2] zn0 [] (.br 9 zn20 [] [10] (.br 11 zn15 [] [] .fin .fin) .fin) .fin) .fin))else([],.fin)
def F93:Cls→Option Cls:=fun(a,b,c,d,e,f,g)=>
 grdO (decide (a.length≤9223372036854775807)&&decide (a.length*40≤140737488355328)) (grdO (decide (e.length≤9223372036854775807)&&decide (e.length*8≤140737488355328)) (grdO (decide (f.length≤9223372036854775807)&&decide (f.length*24≤140737488355328)) (bindE (Y :=  Cls×Cls) (zAE (fun(a,(b,c,d,e,f,g,h),(i,j,k,l,m,n,o),p,q,r,s,t,u,v)=>
 cndO (decide (a<(h.length:Int)))
 (grdO (decide (0≤a)) (atO h a.toNat fun w=>zAA (F186 (w.1,w.2.1,w.2.2.1,w.2.2.2.1,w.2.2.2.2.1,w.2.2.2.2.2.1,w.2.2.2.2.2.2.1,w.2.2.2.2.2.2.2)) fun(w,x,y,z,A,B,C,D)=>
 grdO (decide (v.length+1≤9223372036854775807)&&decide ((v.length+1)*104≤140737488355328)) (some (inl (wrap .i64 (a+1),(b,c,d,e,f,g,h),(i,j,k,l,m,n,o),p,q,r,s,t,u,v++[(w,x,y,z,A,B,C,D)])))))
 (some (inr (inl ((i,j,k,l,m,n,o),p,q,r,s,t,u,v))))) (((0:Int),(a,b,c,d,e,f,g),([],(0:Int),(0:Int),(0:Int),[],[],[]),a,b,c,d,e,f,[]))) fun((_,_,_,_,_,_,_),a,b,c,d,e,f,g)=>
 some ((a,b,c,d,e,f,g)))))
def tb93:=insT 93 (mkE 93 false [] ti69 to38 F93 [.cell 2 34] 41 []) tb186
def ok93:zTb tb93:=okI ok186 tp93 tv93 func93 rfl call93
def F197:List Fld×Int→Option Bool:=fun(a,b)=>
 grdO (decide (0≤b)) (atO a b.toNat fun c=>cndO (!decide (c.2.1=0))
 (some true)
 (some (decide (b=wrap .i64 ((a.length:Int)-1)))))
def tb197:=insT 197 (mkE 197 true [] ti254 zBu F197 [.tmp 4] 18 []) tb93
def ok197:zTb tb197:=okI ok93 noPl noIv func197 rfl call197
abbrev to196:SPat:=⟨[(2,.own (.int .i64) true),(3,.i .i64)],[]⟩
abbrev zVY:SPat:=⟨[(0,.sl tg89),(4,.own (.int .i64) true),(5,.i .i64),(6,.i .i64)],[]⟩
abbrev zMt:SPat:=⟨[(4,.own (.int .i64) true),(5,.i .i64)],[]⟩
def tv196:Nat→Option SPat:=fun k=>bif k==4 then some zVY else bif k==2000000 then some zMt else bif k==2000001 then some zVY else none
def F196:List Fld→Option (List Int×Int):=fun a=>
 bindE (Y:=List Int×Int) (zAE (fun(a,b,c,d)=>
 cndO (decide (d<(a.length:Int)))
 (bindE (Y:=List Fld×List Int×Int×Int) (grdO (decide (b.length+1≤9223372036854775807)&&decide ((b.length+1)*8≤140737488355328)) (zAA (F197 (a,d)) fun e=>
 cndO (e)
 (grdO (decide (0≤d)) (atO a d.toNat fun e=>zAA (F251 e.2.1) fun e=>
 some (inl (a,b++[c],wrap .i64 (wrap .i64 (c+1)+e),d))))
 (some (inl (a,b++[c],c,d))))) fun(a,b,c,d)=>
 some (inl (a,b,c,wrap .i64 (d+1))))
 (some (inr (inl (b,c))))) ((a,[],(0:Int),(0:Int)))) fun(a,b)=>
 some ((a,b))
def tb196:=insT 196 (mkE 196 true [] ti194 to196 F196 [.tmp 2,.tmp 3] 32 []) tb197
def ok196:zTb tb196:=okI ok197 noPl tv196 func196 rfl call196
abbrev ti198:SPat:=⟨[(0,.sl tg89),(1,.sl (.int .i64)),(2,.i .i64),(3,.i .i64)],[]⟩
abbrev to198:SPat:=⟨[(8,.i .i64)],[]⟩
def F198:List Fld×List Int×Int×Int→Option Int:=fun(a,b,c,d)=>
 zAA (F254 (a,d)) fun a=>
 cndO (decide (a<0))
 (some c)
 (grdO (decide (0≤a)) (atO b a.toNat fun a=>some a))
def tb198:=insT 198 (mkE 198 true [] ti198 to198 F198 [.tmp 8] 20 []) tb196
def ok198:zTb tb198:=okI ok196 noPl noIv func198 rfl call198
abbrev ti199:SPat:=⟨[(0,.agg (pl plM)),(1,.sl tg89),(2,.sl (.int .i64)),(3,.i .i64)],[]⟩
abbrev to199:SPat:=⟨[(8,.own zBd true)],[]⟩
abbrev zVX:SPat:=⟨[(1,.sl tg89),(2,.sl (.int .i64)),(3,.i .i64),(4,.ptr 4 0),(9,.own zBd true),(10,.i .i64)],[.box 4 (pl plM)]⟩
abbrev zMs:SPat:=⟨[(1,.sl tg89),(2,.sl (.int .i64)),(3,.i .i64),(4,.ptr 4 0),(9,.own zBd true),(10,.i .i64),(11,.ptr 11 0),(56,.b)],[.box 4 (pl plM),.box 11 (pl [.i .i64,.own zBv false,.own zBv false])]⟩
abbrev zMr:SPat:=⟨[(9,.own zBd true)],[]⟩
def tv199:Nat→Option SPat:=fun k=>bif k==3 then some zVX else bif k==1000010 then some zMs else bif k==2000000 then some zMr else bif k==2000001 then some zVX else none
def tp199:Nat→List Nat×Plan:=fun id=>bif id==9 then([0,1,2,3,4,5,6,7,8,9,10,11,12,13,14],.fin)else([],.fin)
def F199 :  Mth×List Fld×List Int×Int→Option (List Frm):=fun((a,b,c,d,e,f,g,h),i,j,k)=>
 bindE (Y:=List Frm) (zAE (fun(a,b,c,d,e,f,g,h,i,j,k,l,m)=>
 cndO (decide (e<(m.length:Int)))
 (bindE (Y:=List Fld×List Int×Int×List Frm×Int×Mth) (grdO (decide (0≤e)) (atO m e.toNat fun n=>zAA (F198 (a,b,c,n.1)) fun o=>
 grdO (decide (n.2.1.length≤9223372036854775807)&&decide (n.2.1.length*16≤140737488355328)) (grdO (decide (n.2.2.length≤9223372036854775807)&&decide (n.2.2.length*16≤140737488355328)) (bindE (Y:=List Fld×List Int×Int×List Frm×Int×Bool×Mth×Frm) (cndO (decide (0<(d.length:Int)))
 (grdO (decide (0≤wrap .i64 ((d.length:Int)-1))&&decide (wrap .i64 ((d.length:Int)-1)<(d.length:Int))) (atO d (Int.toNat (wrap .i64 ((d.length:Int)-1))) fun p=>some (inl (a,b,c,d,e,decide (p.1=o),(f,g,h,i,j,k,l,m),o,n.2.1,n.2.2))))
 (some (inl (a,b,c,d,e,false,(f,g,h,i,j,k,l,m),o,n.2.1,n.2.2)))) fun(a,b,c,d,e,f,(g,h,i,j,k,l,m,n),o,p,q)=>
 cndO (f)
 (grdO (decide (0≤wrap .i64 ((d.length:Int)-1))&&decide (wrap .i64 ((d.length:Int)-1)≤(d.length:Int))) (grdO (decide (List.length (List.drop (0:Nat) (List.take (Int.toNat (wrap .i64 ((d.length:Int)-1))) d))+1≤9223372036854775807)&&decide ((List.length (List.drop (0:Nat) (List.take (Int.toNat (wrap .i64 ((d.length:Int)-1))) d))+1)*56≤140737488355328)) (some (inl (a,b,c,List.drop (0:Nat) (List.take (Int.toNat (wrap .i64 ((d.length:Int)-1))) d)++[(o,p,q)],e,g,h,i,j,k,l,m,n)))))
 (grdO (decide (d.length+1≤9223372036854775807)&&decide ((d.length+1)*56≤140737488355328)) (some (inl (a,b,c,d++[(o,p,q)],e,g,h,i,j,k,l,m,n)))))))) fun(a,b,c,d,e,f,g,h,i,j,k,l,m)=>
 some (inl (a,b,c,d,wrap .i64 (e+1),f,g,h,i,j,k,l,m)))
 (some (inr (inl d)))) ((i,j,k,[],(0:Int),a,b,c,d,e,f,g,h))) fun a=>
 some (a)
def tb199:=insT 199 (mkE 199 true [] ti199 to199 F199 [.tmp 8] 67 []) tb198
def ok199:zTb tb199:=okI ok198 tp199 tv199 func199 rfl call199
abbrev zVk:SPat:=⟨[(1,.ptr 1 0),(2,.ptr 2 0),(3,.own tg89 true),(5,.own (.int .i64) true),(6,.i .i64),(7,.ptr 7 0),(8,.own tg89 true),(9,.i .i64)],zo32⟩
abbrev zSV:SPat:=⟨[(1,.ptr 1 0),(2,.ptr 2 0),(3,.own tg89 true),(5,.own (.int .i64) true),(6,.i .i64),(7,.ptr 7 0),(11,.i .i64)],[.box 1 (pl plM),.box 2 (pl plN),.box 7 (pl zo33)]⟩
abbrev zNH:SPat:=⟨[(1,.ptr 1 0),(2,.ptr 2 0),(3,.own tg89 true),(5,.own (.int .i64) true),(6,.i .i64),(7,.ptr 7 0),(8,.own tg89 true)],zo32⟩
abbrev zNG:SPat:=⟨[(1,.ptr 1 0),(2,.ptr 2 0),(3,.own tg89 true),(5,.own (.int .i64) true),(6,.i .i64),(7,.ptr 7 0)],[.box 1 (pl plM),.box 2 (pl plN),.box 7 (pl zo33)]⟩
def tv104:Nat→Option SPat:=fun k=>bif k==8 then some zVk else bif k==18 then some zSV else bif k==2000000 then some zNH else bif k==2000001 then some zVk else bif k==2000002 then some zNG else bif k==2000003 then some zSV else none
def F104:Mth→Option Mth:=fun(a,b,c,d,e,f,g,h)=>
 zAA (F108 (a,8)) fun i=>
 cndO (i)
 (some ((a,b,c,d,e,f,g,h)))
 (zAA (F193 f) fun(i,_)=>
 zAA (F196 i) fun(j,k)=>
 bindE (Y:=List Fld×List Int×Int×List Fld×Mth×Mth×Mth) (zAE (fun(a,b,c,d,e,(f,g,h,i,j,k,l,m),(n,o,p,q,r,s,t,u),v,w,x,y,z,A,B,C)=>
 cndO (decide (e<(a.length:Int)))
 (bindE (Y:=List Fld×List Int×Int×List Fld×Int×Mth×Mth×Mth) (grdO (decide (0≤e)&&decide (e<(a.length:Int))) (atO a e.toNat fun D=>zAA (F197 (a,e)) fun E=>
 cndO (!E)
 (some (inl (a,b,c,d,e,(f,g,h,i,j,k,l,m),(n,o,p,q,r,s,t,u),v,w,x,y,z,A,B,C)))
 (zAA (F107 (D.2.1,14,18)) fun E=>
 cndO (E)
 (zAA (F198 (a,b,c,D.2.2)) fun E=>
 grdO (decide (d.length+1≤9223372036854775807)&&decide ((d.length+1)*24≤140737488355328)) (some (inl (a,b,c,d++[(D.1,D.2.1,E)],e,(f,g,h,i,j,k,l,m),(n,o,p,q,r,s,t,u),v,w,x,y,z,A,B,C))))
 (grdO (decide (d.length+1≤9223372036854775807)&&decide ((d.length+1)*24≤140737488355328)) (some (inl (a,b,c,d++[(D.1,D.2.1,D.2.2)],e,(f,g,h,i,j,k,l,m),(n,o,p,q,r,s,t,u),v,w,x,y,z,A,B,C))))))) fun(a,b,c,d,e,(f,g,h,i,j,k,l,m),(n,o,p,q,r,s,t,u),v,w,x,y,z,A,B,C)=>
 some (inl (a,b,c,d,wrap .i64 (e+1),(f,g,h,i,j,k,l,m),(n,o,p,q,r,s,t,u),v,w,x,y,z,A,B,C)))
 (some (inr (inl (a,b,c,d,(f,g,h,i,j,k,l,m),(n,o,p,q,r,s,t,u),v,w,x,y,z,A,B,C))))) ((i,j,k,[],(0:Int),(a,b,c,d,e,f,g,h),((0:Int),(0:Int),(0:Int),(0:Int),(0:Int),[],[],[]),a,b,c,d,e,f,g,h))) fun(a,b,c,d,(e,f,g,h,i,j,k,l),(m,n,o,p,q,r,s,t),u,v,w,x,y,_,_,z)=>
 zAA (F194 d) fun d=>
 bindE (Y:=List Fld×List Int×Int×Mth×Mth×Mth) (zAE (fun(a,b,c,d,(e,f,g,h,i,j,k,l),(m,n,o,p,q,r,s,t),u,v,w,x,y,z,A,B)=>
 cndO (decide (d<(k.length:Int)))
 (bindE (Y:=List Fld×List Int×Int×Int×Mth×Mth×Mth) (grdO (decide (0≤d)) (atO k d.toNat fun C=>zAA (F198 (a,b,c,C.1)) fun D=>
 zAA (F198 (a,b,c,C.2.1)) fun E=>
 zAA (F198 (a,b,c,C.2.2.1)) fun G=>
 cndO (decide (D<E))
 (grdO (decide (A.length+1≤9223372036854775807)&&decide ((A.length+1)*32≤140737488355328)) (some (inl (a,b,c,d,(e,f,g,h,i,j,k,l),(m,n,o,p,q,r,s,t),u,v,w,x,y,z,A++[(D,E,G,C.2.2.2)],B))))
 (some (inl (a,b,c,d,(e,f,g,h,i,j,k,l),(m,n,o,p,q,r,s,t),u,v,w,x,y,z,A,B))))) fun(a,b,c,d,(e,f,g,h,i,j,k,l),(m,n,o,p,q,r,s,t),u,v,w,x,y,z,A,B)=>
 some (inl (a,b,c,wrap .i64 (d+1),(e,f,g,h,i,j,k,l),(m,n,o,p,q,r,s,t),u,v,w,x,y,z,A,B)))
 (some (inr (inl (a,b,c,(e,f,g,h,i,j,k,l),(m,n,o,p,q,r,s,t),u,v,w,x,y,z,A,B))))) ((a,b,c,(0:Int),(e,f,g,h,i,j,k,l),(m,n,o,p,q,r,s,t),u,v,w,x,y,d,[],z))) fun(a,b,c,(d,e,f,g,h,i,j,k),(_,_,_,_,_,_,_,_),l,m,n,o,p,q,r,_)=>
 zAA (F199 ((d,e,f,g,h,i,j,k),a,b,c)) fun a=>
 some ((l,m,n,o,p,q,r,a)))
def tb104:=insT 104 (mkE 104 false [] zWC to103 F104 [.cell 2 53] 113 []) tb199
def ok104:zTb tb104:=okI ok199 noPl tv104 func104 rfl call104
abbrev ts39_5:SPat:=⟨[(2,.ptr 2 0),(3,.ptr 3 0),(4,.i .i64)],[.box 2 (pl plD),.box 3 (pl zo29)]⟩
def tv39:Nat→Option SPat:=fun k=>bif k==5 then some ts39_5 else bif k==2000000 then some zIE else none
def tp39:Nat→List Nat×Plan:=fun id=>bif id==7 then([0,1,2,3,4,5,6,7],(.br 8 [7,6,5,4,3] [0,1,2] [9] (.br 10 zn1 [] [] .fin .fin) .fin))else([],.fin)
def F39:Cls→Option Cls:=fun(a,b,c,d,e,f,g)=>
 zAA (F30 (a,b,c,d,e,f,g)) fun h=>
 cndO (!decide (h=0))
 (some (([],(0:Int),(0:Int),(0:Int),[],[],[])))
 (zAA (F93 (a,b,c,d,e,f,g)) fun(a,b,c,d,e,f,g)=>
 bindE (Y :=  Cls×Cls) (zAE (fun(a,(b,c,d,e,f,g,h),i,j,k,l,m,n,o)=>
 cndO (decide (a<(o.length:Int)))
 (grdO (decide (0≤a)&&decide (a<(o.length:Int))) (atO o a.toNat fun p=>zAA (F104 (p.1,p.2.1,p.2.2.1,p.2.2.2.1,p.2.2.2.2.1,p.2.2.2.2.2.1,p.2.2.2.2.2.2.1,p.2.2.2.2.2.2.2)) fun(p,q,r,s,t,u,v,w)=>
 seqU (seqU (grdO (decide (a=a)) (some ())) (some ())) (grdO (decide (0≤a)&&decide (a<(o.length:Int))) (atO o a.toNat fun _=>some (inl (wrap .i64 (a+1),(b,c,d,e,f,g,h),i,j,k,l,m,n,List.set o a.toNat (p,q,r,s,t,u,v,w)))))))
 (some (inr (inl ((b,c,d,e,f,g,h),i,j,k,l,m,n,o))))) (((0:Int),([],(0:Int),(0:Int),(0:Int),[],[],[]),a,b,c,d,e,f,g))) fun((_,_,_,_,_,_,_),a,b,c,d,e,f,g)=>
 some ((a,b,c,d,e,f,g)))
def tb39:=insT 39 (mkE 39 false [] ti69 to38 F39 [.cell 2 34] 29 []) tb104
def ok39:zTb tb39:=okI ok104 tp39 tv39 func39 rfl call39
def tv64:Nat→Option SPat:=fun k=>bif k==4 then some zVg else bif k==2000000 then some zCA else none
def tp64:Nat→List Nat×Plan:=fun id=>bif id==6 then(zn35,.fin)else([],.fin)
def F64:List Cst×List Cst→Option Bool:=fun(a,b)=>
 cndO (!decide ((a.length:Int)=(b.length:Int)))
 (some false)
 (bindE (zAE (fun(a,b,c)=>
 cndO (decide (c<(a.length:Int)))
 (grdO (decide (0≤c)) (atO a c.toNat fun d=>grdO (decide (0≤c)) (atO b c.toNat fun e=>cndO (!(decide (d.1=e.1)&&(decide (d.2.1=e.2.1)&&(decide (d.2.2.1=e.2.2.1)&&(decide (d.2.2.2=e.2.2.2)&&true)))))
 (some (inr (inr false)))
 (some (inl (a,b,wrap .i64 (c+1)))))))
 (some (inr (inl ())))) ((a,b,(0:Int)))) fun _=>
 some true)
def tb64:=insT 64 (mkE 64 true [] ti152 zBu F64 [.tmp 4] 26 []) tb39
def ok64:zTb tb64:=okI ok39 tp64 tv64 func64 rfl call64
abbrev ts42_4:SPat:=⟨[(0,.sl (.int .i64)),(1,.sl (.int .i64)),(5,.i .i64)],[]⟩
def tv42:Nat→Option SPat:=fun k=>bif k==4 then some ts42_4 else bif k==2000000 then some zCA else none
def tp42:Nat→List Nat×Plan:=fun id=>bif id==6 then(zn35,.fin)else([],.fin)
def F42:List Int×List Int→Option Bool:=fun(a,b)=>
 cndO (!decide ((a.length:Int)=(b.length:Int)))
 (some false)
 (bindE (zAE (fun(a,b,c)=>
 cndO (decide (c<(a.length:Int)))
 (grdO (decide (0≤c)) (atO a c.toNat fun d=>grdO (decide (0≤c)) (atO b c.toNat fun e=>cndO (!decide (d=e))
 (some (inr (inr false)))
 (some (inl (a,b,wrap .i64 (c+1)))))))
 (some (inr (inl ())))) ((a,b,(0:Int)))) fun _=>
 some true)
def tb42:=insT 42 (mkE 42 true [] ti148 zBu F42 [.tmp 4] 26 []) tb64
def ok42:zTb tb42:=okI ok64 tp42 tv42 func42 rfl call42
def tv143:Nat→Option SPat:=fun k=>bif k==4 then some zVR else bif k==2000000 then some zCA else none
def tp143:Nat→List Nat×Plan:=fun id=>bif id==6 then(zn35,.fin)else([],.fin)
def F143:List Knd×List Knd→Option Bool:=fun(a,b)=>
 cndO (!decide ((a.length:Int)=(b.length:Int)))
 (some false)
 (bindE (zAE (fun(a,b,c)=>
 cndO (decide (c<(a.length:Int)))
 (grdO (decide (0≤c)) (atO a c.toNat fun d=>grdO (decide (0≤c)) (atO b c.toNat fun e=>cndO (!(decide (d.1=e.1)&&(decide (d.2=e.2)&&true)))
 (some (inr (inr false)))
 (some (inl (a,b,wrap .i64 (c+1)))))))
 (some (inr (inl ())))) ((a,b,(0:Int)))) fun _=>
 some true)
def tb143:=insT 143 (mkE 143 true [] ti282 zBu F143 [.tmp 4] 26 []) tb42
def ok143:zTb tb143:=okI ok42 tp143 tv143 func143 rfl call143
abbrev ts65_9:SPat:=⟨[(2,.ptr 2 0),(3,.ptr 3 0),(6,.i .i64)],zo15⟩
def tv65:Nat→Option SPat:=fun k=>bif k==4 then some zVf else bif k==9 then some ts65_9 else bif k==1000003 then some zDK else bif k==2000000 then some zDK else bif k==2000002 then some zCA else bif k==2000003 then some ts65_9 else none
def tp65:Nat→List Nat×Plan:=fun id=>bif id==6 then(zn14,.fin)else bif id==11 then([0,1,2,3,4,5,6,7,8,9,10,11,12,13,14,15,16,17,18,19,20,21,22,23,24,25],(.br 26 [25,24,23,22,21,20,19,18,17,16,15,14,13,12,11,10,9,8,7,6,5,4,3,2,1,0] [] [27,28,29,30,31,32,33,34,35,36,37,38,39,40,41] (.br 42 [41,40,39,38,37,36,35,34,33,32,31,30,29,28,27,26,25,24,23,22,21,20,19,18,17,16,15,14,13,12,11,10,9,8,7,6,5,4,3,2,1,0] [] [43,44] .fin .fin) .fin))else([],.fin)
def F65 :  Mth×Mth→Option Bool:=fun((a,b,c,d,e,f,g,h),i,j,k,l,m,n,o,p)=>
 bindE (Y :=  Mth×Mth) (cndO (!decide (a=i))
 (some (inr false))
 (cndO (!decide (b=j))
 (some (inr false))
 (cndO (!decide (c=k))
 (some (inr false))
 (cndO (!decide (d=l))
 (some (inr false))
 (cndO (!decide (e=m))
 (some (inr false))
 (cndO (!decide (f=n))
 (some (inr false))
 (cndO (!decide ((g.length:Int)=(o.length:Int)))
 (some (inr false))
 (cndO (!decide ((h.length:Int)=(p.length:Int)))
 (some (inr false))
 (some (inl ((a,b,c,d,e,f,g,h),i,j,k,l,m,n,o,p))))))))))) fun((a,b,c,d,e,f,g,h),i,j,k,l,m,n,o,p)=>
 bindE (Y :=  Mth×Mth) (zAE (fun(a,(b,c,d,e,f,g,h,i),j,k,l,m,n,o,p,q)=>
 cndO (decide (a<(h.length:Int)))
 (grdO (decide (0≤a)) (atO h a.toNat fun r=>grdO (decide (0≤a)) (atO p a.toNat fun s=>cndO (!(decide (r.1=s.1)&&(decide (r.2.1=s.2.1)&&(decide (r.2.2.1=s.2.2.1)&&(decide (r.2.2.2=s.2.2.2)&&true)))))
 (some (inr (inr false)))
 (some (inl (wrap .i64 (a+1),(b,c,d,e,f,g,h,i),j,k,l,m,n,o,p,q))))))
 (some (inr (inl ((b,c,d,e,f,g,h,i),j,k,l,m,n,o,p,q))))) (((0:Int),(a,b,c,d,e,f,g,h),i,j,k,l,m,n,o,p))) fun((a,b,c,d,e,f,g,h),i,j,k,l,m,n,o,p)=>
 bindE (zAE (fun(a,(b,c,d,e,f,g,h,i),j,k,l,m,n,o,p,q)=>
 cndO (decide (a<(i.length:Int)))
 (bindE (Y:=Int×Mth×Mth) (grdO (decide (0≤a)) (atO i a.toNat fun r=>grdO (decide (0≤a)) (atO q a.toNat fun s=>cndO (!decide (r.1=s.1))
 (some (inr (inr (inr false))))
 (grdO (decide (0≤a)) (atO i a.toNat fun r=>grdO (decide (0≤a)) (atO q a.toNat fun s=>zAA (F143 (r.2.1,s.2.1)) fun r=>
 cndO (!r)
 (some (inr (inr (inr false))))
 (grdO (decide (0≤a)) (atO i a.toNat fun r=>grdO (decide (0≤a)) (atO q a.toNat fun s=>zAA (F143 (r.2.2,s.2.2)) fun r=>
 cndO (!r)
 (some (inr (inr (inr false))))
 (some (inl (a,(b,c,d,e,f,g,h,i),j,k,l,m,n,o,p,q)))))))))))) fun(a,(b,c,d,e,f,g,h,i),j,k,l,m,n,o,p,q)=>
 some (inl (wrap .i64 (a+1),(b,c,d,e,f,g,h,i),j,k,l,m,n,o,p,q)))
 (some (inr (inl ())))) (((0:Int),(a,b,c,d,e,f,g,h),i,j,k,l,m,n,o,p))) fun _=>
 some (true)
def tb65:=insT 65 (mkE 65 true [] ti153 zBu F65 [.tmp 4] 135 []) tb143
def ok65:zTb tb65:=okI ok143 tp65 tv65 func65 rfl call65
def tv19:Nat→Option SPat:=fun k=>bif k==4 then some ts70_4 else bif k==9 then some ts70_9 else bif k==1000003 then some zCu else bif k==2000000 then some zCu else bif k==2000002 then some zCA else none
def tp19:Nat→List Nat×Plan:=fun id=>bif id==6 then(zn14,.fin)else bif id==11 then(zn7,(.br 10 zn1 [] [11] .fin .fin))else([],.fin)
def F19 :  Cls×Cls→Option Bool:=fun((a,b,c,d,e,f,g),h,i,j,k,l,m,n)=>
 bindE (Y :=  Cls×Cls) (zAA (F64 (a,h)) fun o=>
 cndO (!o)
 (some (inr false))
 (cndO (!decide (b=i))
 (some (inr false))
 (cndO (!decide (c=j))
 (some (inr false))
 (cndO (!decide (d=k))
 (some (inr false))
 (zAA (F42 (e,l)) fun o=>
 cndO (!o)
 (some (inr false))
 (cndO (!decide ((f.length:Int)=(m.length:Int)))
 (some (inr false))
 (cndO (!decide ((g.length:Int)=(n.length:Int)))
 (some (inr false))
 (some (inl ((a,b,c,d,e,f,g),h,i,j,k,l,m,n)))))))))) fun((a,b,c,d,e,f,g),h,i,j,k,l,m,n)=>
 bindE (Y :=  Cls×Cls) (zAE (fun(a,(b,c,d,e,f,g,h),i,j,k,l,m,n,o)=>
 cndO (decide (a<(g.length:Int)))
 (grdO (decide (0≤a)) (atO g a.toNat fun p=>grdO (decide (0≤a)) (atO n a.toNat fun q=>cndO (!(decide (p.1=q.1)&&(decide (p.2.1=q.2.1)&&(decide (p.2.2=q.2.2)&&true))))
 (some (inr (inr false)))
 (some (inl (wrap .i64 (a+1),(b,c,d,e,f,g,h),i,j,k,l,m,n,o))))))
 (some (inr (inl ((b,c,d,e,f,g,h),i,j,k,l,m,n,o))))) (((0:Int),(a,b,c,d,e,f,g),h,i,j,k,l,m,n))) fun((a,b,c,d,e,f,g),h,i,j,k,l,m,n)=>
 bindE (zAE (fun(a,(b,c,d,e,f,g,h),i,j,k,l,m,n,o)=>
 cndO (decide (a<(h.length:Int)))
 (grdO (decide (0≤a)) (atO h a.toNat fun p=>grdO (decide (0≤a)) (atO o a.toNat fun q=>zAA (F65 ((p.1,p.2.1,p.2.2.1,p.2.2.2.1,p.2.2.2.2.1,p.2.2.2.2.2.1,p.2.2.2.2.2.2.1,p.2.2.2.2.2.2.2),q.1,q.2.1,q.2.2.1,q.2.2.2.1,q.2.2.2.2.1,q.2.2.2.2.2.1,q.2.2.2.2.2.2.1,q.2.2.2.2.2.2.2)) fun p=>
 cndO (!p)
 (some (inr (inr false)))
 (some (inl (wrap .i64 (a+1),(b,c,d,e,f,g,h),i,j,k,l,m,n,o))))))
 (some (inr (inl ())))) (((0:Int),(a,b,c,d,e,f,g),h,i,j,k,l,m,n))) fun _=>
 some (true)
def tb19:=insT 19 (mkE 19 true [] ti70 zBu F19 [.tmp 4] 97 []) tb65
def ok19:zTb tb19:=okI ok65 tp19 tv19 func19 rfl call19
abbrev zVj:SPat:=⟨[(3,.ptr 3 0),(4,.ptr 4 0),(5,.i .i64)],zo34⟩
abbrev ts10_12:SPat:=⟨[(3,.ptr 3 0),(4,.ptr 4 0),(5,.i .i64),(6,.own tg89 true),(8,.i .i64)],zo34⟩
abbrev zPG:SPat:=⟨[(3,.ptr 3 0),(4,.ptr 4 0),(25,.b)],zo34⟩
abbrev zPF:SPat:=⟨[(4,.ptr 4 0)],[.box 4 (pl plC)]⟩
def tv10:Nat→Option SPat:=fun k=>bif k==8 then some zVj else bif k==12 then some ts10_12 else bif k==1000006 then some zPG else bif k==2000000 then some zPF else bif k==2000001 then some zVj else bif k==2000002 then some zVj else none
def tp10:Nat→List Nat×Plan:=fun id=>bif id==3000004 then([6000000],.fin)else bif id==3000003 then([6000000],.fin)else bif id==5 then(zn0,(.br 2 [1] [0] [] (.br 3 zn16 [] zn17 (.br 7 zn13 [] [8,9] .fin .fin) .fin) .fin))else bif id==6 then(zn0,(.br 2 [1] [0] [] (.br 3 zn16 [] [] (.br 4 [3,2,1,0] [] [] .fin .fin) .fin) .fin))else bif id==16 then([0,1,2,3,4,5,6,7,8,9,10,11,12,13,14,15,16,17,18,19,20,21,22,23,24,25,26,27,28,29],.fin)else bif id==18 then([0],(.br 1 [0] [] [2,3,4,6] (.br 5 zn27 [6] [] (.br 7 zn13 [] [8] (.br 9 zn20 [] [] .fin .fin) .fin) .fin) .fin))else([],.fin)
def F10:zBy→Option Bool:=fun a=>
 cndO (decide (1048576<(a.length:Int)))
 (some true)
 (zAA (F37 a) fun(a,b,c,d,e,f,g)=>
 zAA (F38 (a,b,c,d,e,f,g)) fun(h,i,j,k,l,m,n)=>
 bindE (Y:=Bool×Cls×Cls) (zAA (F39 (a,b,c,d,e,f,g)) fun(o,p,q,r,s,t,u)=>
 seqU (seqU (grdO (decide (h=h)&&(decide (i=i)&&(decide (j=j)&&(decide (k=k)&&(decide (l=l)&&(decide (m=m)&&(decide (n=n)&&true))))))) (some ())) (some ())) (zAA (F19 ((h,i,j,k,l,m,n),o,p,q,r,s,t,u)) fun o=>
 cndO (!o)
 (some (inl (true,(a,b,c,d,e,f,g),h,i,j,k,l,m,n)))
 (zAA (F29 (a,b,c,d,e,f,g)) fun o=>
 some (inl (!decide (o=0),(a,b,c,d,e,f,g),h,i,j,k,l,m,n))))) fun(a,(b,c,d,e,f,g,h),i,j,k,l,m,n,o)=>
 cndO (a)
 (zAA (F39 (b,c,d,e,f,g,h)) fun(a,b,c,d,e,f,g)=>
 seqU (seqU (grdO (decide (i=i)&&(decide (j=j)&&(decide (k=k)&&(decide (l=l)&&(decide (m=m)&&(decide (n=n)&&(decide (o=o)&&true))))))) (some ())) (some ())) (zAA (F19 ((i,j,k,l,m,n,o),a,b,c,d,e,f,g)) fun a=>
 some a))
 (bindE (Y:=Cls) (zAE (fun(a,(b,c,d,e,f,g,h),i,j,k,l,m,n,o)=>
 cndO (decide (a<(o.length:Int)))
 (bindE (Y:=Int×Cls×Cls) (grdO (decide (0≤a)) (atO o a.toNat fun p=>zAA (F31 p.2.2.2.2.2.1) fun(p,_)=>
 bindE (Y:=Int×Cls×Cls) (zAE (fun(a,b,c,(d,e,f,g,h,i,j),k,l,m,n,o,p,q)=>
 cndO (decide (wrap .i64 (c+1)<(b.length:Int)))
 (grdO (decide (0≤c)&&decide (c<(b.length:Int))) (atO b c.toNat fun r=>cndO (decide (r.2.1=0))
 (some (inr (inr (inr (inr (inr false))))))
 (some (inl (a,b,wrap .i64 (c+1),(d,e,f,g,h,i,j),k,l,m,n,o,p,q)))))
 (some (inr (inl (a,(d,e,f,g,h,i,j),k,l,m,n,o,p,q))))) ((a,p,(0:Int),(b,c,d,e,f,g,h),i,j,k,l,m,n,o))) fun(a,(b,c,d,e,f,g,h),i,j,k,l,m,n,o)=>
 grdO (decide (0≤a)) (atO o a.toNat fun p=>grdO (decide (0≤a)) (atO h a.toNat fun q=>cndO (decide ((q.2.2.2.2.2.1.length:Int)<(p.2.2.2.2.2.1.length:Int)))
 (some (inr (inr (inr false))))
 (grdO (decide (0≤a)) (atO o a.toNat fun p=>grdO (decide (0≤a)) (atO h a.toNat fun q=>cndO (!decide (p.2.1=q.2.1))
 (some (inr (inr (inr false))))
 (some (inl (a,(b,c,d,e,f,g,h),i,j,k,l,m,n,o)))))))))) fun(a,(b,c,d,e,f,g,h),i,j,k,l,m,n,o)=>
 some (inl (wrap .i64 (a+1),(b,c,d,e,f,g,h),i,j,k,l,m,n,o)))
 (some (inr (inl (i,j,k,l,m,n,o))))) (((0:Int),(b,c,d,e,f,g,h),i,j,k,l,m,n,o))) fun(a,b,c,d,e,f,g)=>
 zAA (F29 (a,b,c,d,e,f,g)) fun h=>
 cndO (decide (h=0))
 (zAA (F38 (a,b,c,d,e,f,g)) fun(h,i,j,k,l,m,n)=>
 seqU (seqU (grdO (decide (a=a)&&(decide (b=b)&&(decide (c=c)&&(decide (d=d)&&(decide (e=e)&&(decide (f=f)&&(decide (g=g)&&true))))))) (some ())) (some ())) (zAA (F19 ((h,i,j,k,l,m,n),a,b,c,d,e,f,g)) fun a=>
 some a))
 (some false)))
def r10 x:funT T tb19 tp10 99 tv10 (bodyOf Tryz.f10) ti49 zEL x=F10 x:=by kernel_rfl
def te10:=mkE 10 true [] ti49 zEL F10 [.tmp 2] 99 []
def c10:zIk Tryz.prog 10 te10.W:=zXO ok19 layOk mixed true _ ti49 zEL [] tp10 tv10 func10 rfl results10 ntmps10 (by kernel_rfl) (by kernel_rfl) call10 F10 fun x _ h=>(r10 x).trans h
end
section
open Go Go.AM Go.TM Go.RowKit Go.ChangeShapes Go.WideShapes Go.ChangeAt
def rowL10 (x:List UInt8)(h:F10 x=some true):AC Tryz.prog 10 (encC false (.sl .byte) x) [] fun sv _=>sv = .b true :=
 law_args c10 x true rfl rfl h rfl
set_option maxRecDepth 100000 in
def lifted10 (hall:∀ x:List UInt8,F10 x=some true)(os:Os)(started:os.Started)(H:Type)(enc:TypeId×Value→H) :
  ReturnsInHanded {} Tryz.checked os 10 .any (Rows.fnTidySpec.pre6 enc Tryz.prog Tryz.f10 [] false) (Rows.fnTidySpec.post enc Tryz.prog Tryz.f10 false true false false):=by
 refine returnsInHanded_of_change_sized (C:=Tryz.checked) own started (by kernel_rfl) Tryz.func10
  (ChangeSpec.witness6 (enc:=enc) (C:=Tryz.checked) false ⟨#[],#[.slice none 0 0],[]⟩ 8 (by kernel_rfl) (by kernel_rfl) (by kernel_rfl) (by kernel_rfl)) ?_
 intro W base args ds gs before hval0 hW _ hsz0 _;have hval:∀(j:Nat) t v,Tryz.f10.params[j]? = some t→args[j]? = some v→Value.okWide Tryz.prog W .any base t v:=hval0;have hsz:(DataW.weightsEach Tryz.prog (Tryz.f10.params.toList++[]) (ds++gs)).all (· ≤ reachBytes)=true:=hsz0;have hW':=hW;obtain⟨p,q,hA0,hV,rfl,hfz,hnd⟩:=hW;have hA:DataW.TrodAll enc Tryz.prog W 0 (fun _=>true) true Tryz.f10.params.toList args.toList ds p:=hA0;rw[Tryz.params10]at hA hval hsz;obtain⟨v0,d0,rfl,rfl,h0⟩:=trodAll_one hA;obtain⟨rfl,rfl⟩:=trodVars_none hV;obtain⟨b0,n0,k0,rfl⟩:=okWide_slice Tryz.underlying22 (hval 0 22 v0 rfl rfl);have h0k:=h0;obtain⟨fuel,ht⟩:=h0
 obtain⟨x,sx,lx,ox,rx⟩:=opens 8 fuel (.sl .byte) 22 [.slice b0 n0 k0] d0 p rd22 ht (fun m hm=>by
  have:=List.all_eq_true.1 hsz m (by simpa[DataW.weightsEach]using hm)
  simpa using this)
 have hlt:∀z∈p,z.block<W.heap.size:=fun z hz=>hW'.lt z (by simpa using hz)
 refine(zXj Tryz.func10 (by kernel_rfl) (by kernel_rfl) (rowL10 x (hall x)) (fun _ _ h=>h) rfl (fun G hG=>rx G hG)).mono fun e W' ⟨he,hb⟩=>?_
 subst he;exact⟨_,rfl,[d0],[],p++[],[],p,[],hW',trodAll_mk1 (shut_bool Tryz.underlying4 true),trodAll_mk1 (Below.trod laidOut (by kernel_rfl) (of_decide_eq_true (by kernel_rfl)) h0k hb hlt),rfl,hb.frame _,fun h=>by cases h⟩
set_option maxHeartbeats 4000000 in
def joined10:joinedFacts Tryz.pinned.checked.prog 10 Tryz.f10 Rows.fnTidySpec Rows.fnTidyRow=true:=by
 unfold joinedFacts
 repeat' with_reducible apply band
 all_goals (as_aux_lemma=>kernel_rfl)
def fnTidy_of (hall:∀ x:List UInt8,F10 x=some true):Rows.FnTidySaid :=
 OpenClaim.holds_of_wide 10 Tryz.f10 rfl rfl rfl rfl rfl rfl rfl ⟨rfl,rfl,rfl,rfl,rfl⟩ rfl rfl rfl rfl rfl (by kernel_rfl) Tryz.func10 joined10
  (of_decide_eq_true (by kernel_rfl)) (by unfold Func.isWrapper;first|(rw[if_pos (by decide +kernel)];kernel_rfl)|(rw[if_neg (by decide +kernel)];exact⟨rfl,rfl⟩))
  (fun os started H enc _=>lifted10 hall os started H enc)
end
end Go.Proofs.YtdpapeledldifaaGreat
section
namespace Go.TM
open Go.AM
section
variable {R α X Y:Type}
@[simp] def zAJ (A B:Option R):cndO true A B=A:=rfl
@[simp] def zAI (A B:Option R):cndO false A B=B:=rfl
@[simp] def zAG {p:Prop}[Decidable p](A B:Option R):cndO (decide p) A B=if p then A else B:=by
  by_cases h:p<;>simp[h]
@[simp] def zAU (b:Bool)(A B:Option R):cndO (!b) A B=cndO b B A:=by cases b<;>rfl
@[simp] def zAD (A:Option R):grdO true A=A:=rfl
def zAX {p:Prop}[Decidable p]{A:Option R}(h:p):grdO (decide p) A=A:=by simp[h]
def zDP (a b:Bool)(A:Option R):grdO (a&&b) A=grdO a (grdO b A):=by cases a<;>rfl
@[simp] def zAB (a:α)(k:α→Option R):zAA (some a) k=k a:=rfl
@[simp] def zAC (y:Y)(k:Y→Option R):bindE (some (.inl y)) k=k y:=rfl
@[simp] def zAH (r:R)(k:Y→Option R):bindE (some (.inr r)) k=some r:=rfl
@[simp] def zAS (u:Unit)(k:Option R):seqU (some u) k=k:=rfl
@[simp] def mapR_s (r:R):(mapR (some r):Option (Y⊕R))=some (.inr r):=rfl
def zKb {l:List α}{n:Nat}{x:α}{k:α→Option R}(h:l[n]? = some x):atO l n k=k x:=by unfold atO;rw[h]
def zAK {l:List α}{n:Nat}{k:α→Option R}(h:n<l.length):atO l n k=k l[n]:=zKb (zGe h)
def zAs {c:Prop}[Decidable c](A B:Option (Y⊕R))(k:Y→Option R):bindE (if c then A else B) k=if c then bindE A k else bindE B k:=by split<;>rfl
def zBf {l:List α}{n:Nat}(h:n<l.length):l.drop n=l[n]::l.drop (n+1):=List.drop_eq_getElem_cons h
end
end Go.TM
end
section
namespace Go.TM
open Go.AM
section
variable {α X Y R S:Type}
def zSG {a b:List α}{x:α}{k:α→Option R}:atO (a++x::b) a.length k=k x:=zKb (by simp)
def zRQ {a b:List α}{x v:α}:(a++x::b).set a.length v=a++v::b:=by simp
def zNY {f:X→Option (X⊕(Y⊕R))}(mk:Nat→List α→X)(fin:List α→Y)(g:α→α)(l:List α){x0:X}{c:Y→Option R}(hx:x0=mk 0 l)(hl:l.length≤1048576)
  (hend:∀a,a.length=l.length→f (mk a.length a)=some (.inr (.inl (fin a))))
  (hstep:∀a x b,x∈l→a.length+b.length+1=l.length→f (mk a.length (a++x::b))=some (.inl (mk (a.length+1) (a++g x::b)))) :
  bindE (zAE f x0) c=c (fin (l.map g)):=by
 have key:∀(s a:List α),(∀x∈s,x∈l)→a.length+s.length=l.length→zAE f (mk a.length (a++s))=some (.inl (fin (a++s.map g))):=by
  intro s
  induction s with
  |nil=>intro a _ h;rw[zAd,zAn,hend _ (by simpa using h)];simp
  | cons x s ih=>
    intro a hs h;simp only[zLc]at h;rw[zAd,hstep a x s (hs x (by simp)) (by omega)];simp only
    have:=ih (a++[g x]) (fun y hy=>hs y (by simp[hy])) (by simp;omega);simp only[zLa,zLc,zLn,zAa,zCa,zNa,Nat.zero_add]at this;rw[this];simp
 have:=key l [] (fun _ h=>h) (by simp);simp only[zLn,zNa]at this;rw[hx,this,zAC]
def zBh {f:X→Option (X⊕(Y⊕R))}(mk:Nat→X)(fin:Y)(n:Nat){x0:X}{c:Y→Option R}(hx:x0=mk 0)(hend:f (mk n)=some (.inr (.inl fin)))(hstep:∀ i,i<n→f (mk i)=some (.inl (mk (i+1)))) :
  bindE (zAE f x0) c=c fin:=by
 have key:∀m i,i+m=n→zAE f (mk i)=some (.inl fin):=by
  intro m
  induction m with
  |zero=>intro i h;have:i=n:=by omega
         subst this;rw[zAd,hend]
  |succ m ih=>intro i h;rw[zAd,hstep i (by omega)];exact ih (i+1) (by omega)
 rw[hx,key n 0 (by omega),zAC]
end
end Go.TM
end
section
namespace Go.TM
open Go.AM
section
variable {α β:Type}
end
end Go.TM
end
namespace Go.Proofs.YtdpapeledldifaaGreat
section
open Go Go.AM Go.TM
def bCst (c:Cst):Prop:=c.2.1.length≤1048576
def zHe (l:List Knd):Prop:=l.length≤1048576
def bFrm (f:Frm):Prop:=zHe f.2.1∧zHe f.2.2
def bMth (m:Mth):Prop:=m.2.2.2.2.2.1.length≤1048576∧m.2.2.2.2.2.2.1.length≤1048576∧m.2.2.2.2.2.2.2.length≤1048576∧∀f∈m.2.2.2.2.2.2.2,bFrm f
def bCls (c:Cls):Prop:=(c.1.length≤1048576∧∀x∈c.1,bCst x)∧c.2.2.2.2.1.length≤1048576∧c.2.2.2.2.2.1.length≤1048576∧c.2.2.2.2.2.2.length≤1048576∧∀x∈c.2.2.2.2.2.2,bMth x
end
end Go.Proofs.YtdpapeledldifaaGreat
section
namespace Go.TM
open Go.AM
section
variable {σ α β:Type}
def Sm (Re:σ→Option (List UInt8)→Prop)(r:Option (α×σ))(m:Option (α×List UInt8)):Prop :=
 ∃v s,r=some (v,s)∧Re s (m.map (·.2))∧∀v' l,m=some (v',l)→v=v'
variable {Re:σ→Option (List UInt8)→Prop}
def Sm.bind {r:Option (α×σ)}{m:Option (α×List UInt8)}{k:α×σ→Option (β×σ)}{k':α→List UInt8→Option (β×List UInt8)}(h:Sm Re r m)
  (hk:∀v s st,Re s st→(∀l,st=some l→m=some (v,l))→Sm Re (k (v,s)) (st.bind (k' v))):Sm Re (zAA r k) (m.bind fun p=>k' p.1 p.2):=by
 obtain⟨v,s,rfl,h1,h2⟩:=h;rw[zAB]
 have:=hk v s (m.map (·.2)) h1 (by
  intro l hl;cases m with
  |none=>cases hl
  |some p=>obtain⟨a,b⟩:=p;simp only[Option.map_some,zSe]at hl;subst hl;rw[h2 a b rfl])
 cases m with
 |none=>exact this
 | some p=>
   obtain⟨a,b⟩:=p;have e:=h2 a b rfl;subst e;exact this
def Sm.ret {s:σ}{st:Option (List UInt8)}(h:Re s st)(v:α):Sm Re (some (v,s)) (st.bind fun l=>some (v,l)):=by
 refine⟨v,s,rfl,?_,fun v' l hl=>?_⟩
 ·cases st with
  |none=>exact h
  |some l=>exact h
 ·cases st with
  |none=>cases hl
  |some l=>simp only[zOb,zSe,zPi]at hl;exact hl.1
def gRep (g:List UInt8→Option (β×List UInt8)):Nat→List UInt8→Option (List β×List UInt8)
 |0,l=>some ([],l)
 |n+1,l=>(g l).bind fun p=>(gRep g n p.2).bind fun q=>some (p.1::q.1,q.2)
def zTj {g:List UInt8→Option (β×List UInt8)}:∀(n:Nat) (l:List UInt8) (vs:List β) (l':List UInt8),gRep g n l=some (vs,l')→vs.length=n
 |0,l,vs,l',h=>by simp only[gRep,zSe,zPi]at h;rw[←h.1];rfl
 | n+1,l,vs,l',h=>by
   simp only[gRep]at h;cases hg:g l with
   |none=>rw[hg]at h;cases h
   | some p=>
     rw[hg]at h;simp only[zOb]at h;cases hr:gRep g n p.2 with
     |none=>rw[hr]at h;cases h
     | some q=>
       rw[hr]at h;simp only[zOb,zSe,zPi]at h;rw[←h.1,zLc,zTj n p.2 q.1 q.2 hr]
def zTk {g:List UInt8→Option (β×List UInt8)}{P:β→Prop}(hg:∀ l v l',g l=some (v,l')→P v):∀(n:Nat) (l:List UInt8) (vs:List β) (l':List UInt8),gRep g n l=some (vs,l')→∀v∈vs,P v
 |0,l,vs,l',h=>by simp only[gRep,zSe,zPi]at h;rw[←h.1];simp
 | n+1,l,vs,l',h=>by
   simp only[gRep]at h;cases hgl:g l with
   |none=>rw[hgl]at h;cases h
   | some p=>
     rw[hgl]at h;simp only[zOb]at h;cases hr:gRep g n p.2 with
     |none=>rw[hr]at h;cases h
     | some q=>
       rw[hr]at h;simp only[zOb,zSe,zPi]at h;rw[←h.1];intro v hv;simp only[List.mem_cons]at hv;rcases hv with rfl|hv
       ·exact hg l _ _ hgl
       ·exact zTk hg n p.2 q.1 q.2 hr v hv
def loop_sim {X Y:Type}{f:X→Option (X⊕Y)}(mk:List β→Nat→σ→X)(fin:List β→σ→Y)(n:Nat)(g:List UInt8→Option (β×List UInt8))
  (hbad:∀out i s,i≤n→Re s none→f (mk out i s)=some (.inr (fin out s)))
  (hend:∀out s l,Re s (some l)→f (mk out n s)=some (.inr (fin out s)))
  (hstep:∀out i s l,i<n→out.length=i→Re s (some l)→∃v s',f (mk out i s)=some (.inl (mk (out++[v]) (i+1) s'))∧Re s' ((g l).map (·.2))∧∀v' l',g l=some (v',l')→v=v') :
  ∀(out:List β) (i:Nat) (s:σ) (st:Option (List UInt8)),i≤n→(∀l,st=some l→out.length=i)→Re s st →
   ∃out' s',zAE f (mk out i s)=some (fin out' s')∧Re s' ((st.bind (gRep g (n-i))).map (·.2))∧∀vs l',st.bind (gRep g (n-i))=some (vs,l')→out'=out++vs:=by
 intro out i s st hi;generalize hm:n-i=m
 induction m generalizing out i s st with
 | zero=>
   intro ho h;have:i=n:=by omega
   subst this;rw[zAd];cases st with
   |none=>rw[hbad out i s hi h];exact⟨out,s,rfl,h,fun _ _ h=>by cases h⟩
   | some l=>
     rw[hend out s l h];exact⟨out,s,rfl,h,fun vs l' h=>by simp only[zOb,gRep,zSe,zPi]at h;simp[←h.1]⟩
 | succ m ih=>
   intro ho h;rw[zAd];cases st with
   |none=>rw[hbad out i s hi h];exact⟨out,s,rfl,h,fun _ _ h=>by cases h⟩
   | some l=>
     obtain⟨v,s',h1,h2,h3⟩:=hstep out i s l (by omega) (ho l rfl) h;rw[h1];obtain⟨out',s'',q1,q2,q3⟩:=ih (out++[v]) (i+1) s' ((g l).map (·.2)) (by omega) (by omega) (by intro l' hl;simp[ho l rfl]) h2;refine⟨out',s'',q1,?_,fun vs l' hv=>?_⟩
     ·cases hg:g l with
      |none=>rw[hg]at q2;simpa[gRep,hg]using q2
      | some p=>
        rw[hg]at q2;simp only[Option.map_some,zOb]at q2;simp only[zOb,gRep,hg]
        cases hr:gRep g m p.2 with
        |none=>rw[hr]at q2;exact q2
        |some q=>rw[hr]at q2;exact q2
     ·cases hg:g l with
      |none=>simp[gRep,hg]at hv
      | some p=>
        obtain⟨a,b⟩:=p;have e:=h3 a b hg;subst e;rw[hg]at q3;simp only[Option.map_some,zOb]at q3;simp only[zOb,gRep,hg]at hv;cases hr:gRep g m b with
        |none=>rw[hr]at hv;cases hv
        | some q=>
          rw[hr]at hv;simp only[zOb,zSe,zPi]at hv;rw[q3 q.1 q.2 hr,←hv.1];simp
end
def g1:List UInt8→Option (Int×List UInt8)
 |[]=>none
 |x::l=>some ((x.toNat:Int),l)
def g2 (l:List UInt8):Option (Int×List UInt8):=(g1 l).bind fun p=>(g1 p.2).bind fun q=>some (p.1*256+q.1,q.2)
def gT (n:Int)(l:List UInt8):Option (List UInt8×List UInt8):=if n≤l.length then some (l.take n.toNat,l.drop n.toNat)else none
def zDj {l l':List UInt8}{v:Int}(h:g1 l=some (v,l')):0≤v∧v≤255:=by
 cases l with
 |nil=>cases h
 | cons x l=>
   simp only[g1,zSe,zPi]at h;have:=x.toNat_lt;omega
def zXM {l l':List UInt8}{v:Int}(h:g2 l=some (v,l')):0≤v∧v≤65535:=by
 unfold g2 at h;cases h1:g1 l with
 |none=>rw[h1]at h;cases h
 | some p=>
   rw[h1]at h;simp only[zOb]at h;cases h2:g1 p.2 with
   |none=>rw[h2]at h;cases h
   | some q=>
     rw[h2]at h;simp only[zOb,zSe,zPi]at h;have:=zDj (l:=l) (v:=p.1) (l':=p.2) h1;have:=zDj (l:=p.2) (v:=q.1) (l':=q.2) h2;omega
end Go.TM
end
namespace Go.Proofs.YtdpapeledldifaaGreat
section
open Go Go.AM Go.TM
def Re3 (s0:List UInt8)(p:List UInt8×Int×Bool)(st:Option (List UInt8)):Prop :=
 p.1=s0∧0≤p.2.1∧p.2.1≤s0.length∧s0.length≤900∧(st=none→p.2.2=true)∧∀l,st=some l→p.2.2=false∧l=s0.drop p.2.1.toNat
def Re2 (p:List UInt8×Bool)(st:Option (List UInt8)):Prop :=
 p.1.length≤900∧(st=none→p.2=true)∧∀l,st=some l→p.2=false∧l=p.1
def wI {x:Int}(h1 : -9223372036854775808≤x)(h2:x≤9223372036854775807):IntKind.wrap .i64 x=x:=AM.wrapI h1 h2
def Re3.bad {s0:List UInt8}{p:List UInt8×Int×Bool}{st:Option (List UInt8)}(h:Re3 s0 p st):Re3 s0 (p.1,p.2.1,true) none:=⟨h.1,h.2.1,h.2.2.1,h.2.2.2.1,fun _=>rfl,fun _ h=>by cases h⟩
def Re2.bad {p:List UInt8×Bool}{st:Option (List UInt8)}(h:Re2 p st):Re2 (p.1,true) none:=⟨h.1,fun _=>rfl,fun _ h=>by cases h⟩
def s221 {s0:List UInt8}(s:List UInt8×Int×Bool)(st:Option (List UInt8))(h:Re3 s0 s st):Sm (Re3 s0) (F221 s) (st.bind g1):=by
 obtain⟨o0,o1,o2⟩:=s;obtain⟨h1,h2,h3,h4,h5,h6⟩:=h;simp only at h1 h2 h3 h5 h6;subst h1;cases st with
 | none=>
   have:=h5 rfl;subst this;refine⟨0,(o0,o1,true),rfl,⟨rfl,h2,h3,h4,fun _=>rfl,fun _ h=>by cases h⟩,fun _ _ h=>by cases h⟩
 | some l=>
   obtain⟨rfl,rfl⟩:=h6 l rfl;simp only[F221,zAI,zAC,zAG]
   by_cases hl:(o0.length:Int)≤o1
   ·rw[if_pos hl];have:o0.drop o1.toNat=[]:=List.drop_eq_nil_of_le (by omega);refine⟨_,_,rfl,?_,?_⟩
    ·simp only[zOb,this,g1,Option.map_none]
     exact⟨rfl,h2,h3,h4,fun _=>rfl,fun _ h=>by cases h⟩
    ·intro v' l' hv;simp[this,g1]at hv
   ·rw[if_neg hl];rw[wI (x:=o1+1) (by omega) (by omega),wI (x:=o1+1-1) (by omega) (by omega),show o1+1-1=o1 by omega];have hn:o1.toNat<o0.length:=by omega
    rw[zAX h2,zAK hn];have hr:=o0[o1.toNat].toNat_lt;rw[wI (by omega) (by omega)];refine⟨_,_,rfl,?_,?_⟩
    ·simp only[zOb,zBf hn,g1,Option.map_some]
     refine⟨rfl,by simp only;omega,by simp only;omega,h4,(fun h=>by cases h),fun l h=>⟨rfl,?_⟩⟩;simp only[zSe]at h;rw[←h];simp only
     rw[show(o1+1).toNat=o1.toNat+1 by omega]
    ·intro v' l' hv;simp only[zOb,zBf hn,g1,zSe,zPi]at hv;exact hv.1
def s222 {s0:List UInt8}(s:List UInt8×Int×Bool)(st:Option (List UInt8))(h:Re3 s0 s st):Sm (Re3 s0) (F222 s) (st.bind g2):=by
 have e:st.bind g2=(st.bind g1).bind fun p=>(g1 p.2).bind fun q=>some (p.1*256+q.1,q.2):=by cases st<;>rfl
 rw[e];refine Sm.bind (k':=fun a l=>(g1 l).bind fun q=>some (a*256+q.1,q.2)) (s221 s st h) fun v s1 st1 h1 e1=>?_
 have e:(st1.bind fun l=>(g1 l).bind fun q=>some (v*256+q.1,q.2))=(st1.bind g1).bind fun q=>some (v*256+q.1,q.2):=by cases st1<;>rfl
 rw[e];refine Sm.bind (k':=fun a l=>some (v*256+a,l)) (s221 s1 st1 h1) fun v2 s2 st2 h2 e2=>?_
 cases st2 with
 |none=>exact⟨_,_,rfl,h2,fun _ _ h=>by cases h⟩
 | some l2=>
   have q2:=e2 l2 rfl;cases st1 with
   |none=>cases q2
   | some l1=>
     have q1:=e1 l1 rfl;cases st with
     |none=>cases q1
     | some l=>
       have r1:=zDj (l:=l) q1;have r2:=zDj (l:=l1) q2;refine⟨_,_,rfl,h2,fun v' l' hv=>?_⟩;simp only[zOb,zSe,zPi]at hv;rw[←hv.1];rw[wI (x:=v*256) (by omega) (by omega),wI (by omega) (by omega)]
def s219 {s0:List UInt8}(n:Int)(s:List UInt8×Int×Bool)(st:Option (List UInt8))(h:Re3 s0 s st)(hn:∀ l,st=some l→0≤n∧n≤65535):Sm (Re3 s0) (F219 (n,s)) (st.bind (gT n)):=by
 obtain⟨o0,o1,o2⟩:=s;obtain⟨h1,h2,h3,h4,h5,h6⟩:=h;simp only at h1 h2 h3 h5 h6;subst h1;cases st with
 | none=>
   have:=h5 rfl;subst this;refine⟨[],(o0,o1,true),rfl,⟨rfl,h2,h3,h4,fun _=>rfl,fun _ h=>by cases h⟩,fun _ _ h=>by cases h⟩
 | some l=>
   obtain⟨rfl,rfl⟩:=h6 l rfl;obtain⟨n0,n1⟩:=hn _ rfl;simp only[F219,zAI,zAC,zAG]
   rw[wI (x:=o1+n) (by omega) (by omega),wI (x:=o1+n-n) (by omega) (by omega),show o1+n-n=o1 by omega];by_cases hl:(o0.length:Int)<o1+n
   ·rw[if_pos hl];refine⟨_,_,rfl,?_,?_⟩
    ·have:¬n≤((o0.drop o1.toNat).length:Int):=by simp only[zLd];omega
     simp only[zOb,gT,if_neg this,Option.map_none]
     exact⟨rfl,h2,h3,h4,fun _=>rfl,fun _ h=>by cases h⟩
    ·intro v' l' hv;have:¬n≤((o0.drop o1.toNat).length:Int):=by simp only[zLd];omega
     simp only[zOb,gT,if_neg this]at hv;cases hv
   ·rw[if_neg hl];have hle:n≤((o0.drop o1.toNat).length:Int):=by simp only[zLd];omega
    rw[zDP,zDP,zAX h2,zAX (by omega),zAX (by omega)];refine⟨_,_,rfl,?_,?_⟩
    ·simp only[zOb,gT,if_pos hle,Option.map_some]
     refine⟨rfl,by simp only;omega,by simp only;omega,h4,(fun h=>by cases h),fun l h=>⟨rfl,?_⟩⟩;simp only[zSe]at h;rw[←h,List.drop_drop];simp only
     rw[show(o1+n).toNat=o1.toNat+n.toNat by omega]
    ·intro v' l' hv;simp only[zOb,gT,if_pos hle,zSe,zPi]at hv;rw[←hv.1,show(o1+n).toNat=o1.toNat+n.toNat by omega,List.drop_take];congr 1;omega
def i57 (n:Int)(s:List UInt8×Bool)(st:Option (List UInt8))(h:Re2 s st)(hn:∀ l,st=some l→0≤n):Sm Re2 (F57 (n,s)) (st.bind (gT n)):=by
 obtain⟨o0,o1⟩:=s;obtain⟨h4,h5,h6⟩:=h;simp only at h4 h5 h6;cases st with
 | none=>
   have:=h5 rfl;subst this;refine⟨[],(o0,true),rfl,⟨h4,fun _=>rfl,fun _ h=>by cases h⟩,fun _ _ h=>by cases h⟩
 | some l=>
   obtain⟨rfl,rfl⟩:=h6 l rfl;have n0:=hn _ rfl;simp only[F57,zAI,zAC,zAG]
   by_cases hl:(l.length:Int)<n
   ·rw[if_pos hl];refine⟨_,_,rfl,?_,?_⟩
    ·simp only[zOb,gT,if_neg (show ¬n≤(l.length:Int)by omega),Option.map_none]
     exact⟨h4,fun _=>rfl,fun _ h=>by cases h⟩
    ·intro v' l' hv;simp only[zOb,gT,if_neg (show ¬n≤(l.length:Int)by omega)]at hv;cases hv
   ·rw[if_neg hl];have hle:n≤(l.length:Int):=by omega
    rw[zDP,zAX n0,zAX hle,zDP,zDP,zAX n0,zAX hle,zAX (Int.le_refl _)];have et:List.take (Int.toNat (l.length:Int)) l=l:=by rw[show Int.toNat (l.length:Int)=l.length by omega,List.take_length]
    refine⟨_,_,rfl,?_,?_⟩
    ·simp only[zOb,gT,if_pos hle,Option.map_some]
     refine⟨by rw[et];simp only[zLd];omega,(fun h=>by cases h),fun l' h=>⟨rfl,?_⟩⟩;simp only[zSe]at h;rw[←h,et]
    ·intro v' l' hv;simp only[zOb,gT,if_pos hle,zSe,zPi]at hv;rw[←hv.1,List.drop_zero]
def i59 (s:List UInt8×Bool)(st:Option (List UInt8))(h:Re2 s st):Sm Re2 (F59 s) (st.bind g1):=by
 obtain⟨v,s1,e1,e2,e3⟩:=i57 1 s st h fun _ _=>by omega
 obtain⟨o0,o1⟩:=s;obtain⟨p0,p1⟩:=s1;simp only[F59]
 rw[e1,zAB];simp only
 cases st with
 | none=>
   have:=e2.2.1 rfl;simp only at this;subst this;exact⟨_,_,rfl,e2,fun _ _ h=>by cases h⟩
 | some l=>
   cases l with
   | nil=>
     have hb:=e2.2.1 (by simp[gT]);simp only at hb;subst hb;refine⟨_,_,rfl,?_,fun _ _ h=>by simp[g1]at h⟩;simpa[gT,g1]using e2
   | cons x l=>
     have hg:(some (x::l)).bind (gT 1)=some ([x],l):=by simp[gT];omega
     rw[hg]at e2 e3;have:=e3 _ _ rfl;subst this;have hb:=(e2.2.2 l rfl).1;simp only at hb;subst hb;have hr:=x.toNat_lt;simp only[zAI,atO,List.getElem?_cons_zero,Int.toNat_zero]
     rw[wI (by omega) (by omega)];exact⟨_,_,rfl,e2,fun v' l' hv=>by simp only[zOb,g1,zSe,zPi]at hv;exact hv.1⟩
def i61 (s:List UInt8×Bool)(st:Option (List UInt8))(h:Re2 s st):Sm Re2 (F61 s) (st.bind g2):=by
 have e:st.bind g2=(st.bind g1).bind fun p=>(g1 p.2).bind fun q=>some (p.1*256+q.1,q.2):=by cases st<;>rfl
 rw[e];refine Sm.bind (k':=fun a l=>(g1 l).bind fun q=>some (a*256+q.1,q.2)) (i59 s st h) fun v s1 st1 h1 e1=>?_
 have e:(st1.bind fun l=>(g1 l).bind fun q=>some (v*256+q.1,q.2))=(st1.bind g1).bind fun q=>some (v*256+q.1,q.2):=by cases st1<;>rfl
 rw[e];refine Sm.bind (k':=fun a l=>some (v*256+a,l)) (i59 s1 st1 h1) fun v2 s2 st2 h2 e2=>?_
 cases st2 with
 |none=>exact⟨_,_,rfl,h2,fun _ _ h=>by cases h⟩
 | some l2=>
   have q2:=e2 l2 rfl;cases st1 with
   |none=>cases q2
   | some l1=>
     have q1:=e1 l1 rfl;cases st with
     |none=>cases q1
     | some l=>
       have r1:=zDj (l:=l) q1;have r2:=zDj (l:=l1) q2;refine⟨_,_,rfl,h2,fun v' l' hv=>?_⟩;simp only[zOb,zSe,zPi]at hv;rw[←hv.1];rw[wI (x:=256*v) (by omega) (by omega),wI (by omega) (by omega)];omega
end
end Go.Proofs.YtdpapeledldifaaGreat
section
namespace Go.TM
open Go.AM
section
variable {σ α β R Y:Type}
def zBD {r:Option α}{k:α→Option (Y⊕R)}{k2:Y→Option R}:bindE (zAA r k) k2=zAA r fun x=>bindE (k x) k2:=by cases r<;>rfl
def zCh {c:Prop}[Decidable c](A B:Y)(k:Y→Option R):bindE (cndO (decide c) (some (.inl A)) (some (.inl B))) k=k (if c then A else B):=by by_cases h:c<;>simp[h]
variable {Re:σ→Option (List UInt8)→Prop}
def Sm.step {F:Option (α×σ)}{g:List UInt8→Option (α×List UInt8)}{st:Option (List UInt8)}{k:α×σ→Option (β×σ)}{k':α→List UInt8→Option (β×List UInt8)}
  (hF:Sm Re F (st.bind g)) (hk:∀v s' st',Re s' st'→(∀l',st'=some l'→∃l,st=some l∧g l=some (v,l'))→Sm Re (k (v,s')) (st'.bind (k' v))) :
  Sm Re (zAA F k) (st.bind fun l=>(g l).bind fun p=>k' p.1 p.2):=by
 have e:(st.bind fun l=>(g l).bind fun p=>k' p.1 p.2)=(st.bind g).bind fun p=>k' p.1 p.2:=by cases st<;>rfl
 rw[e];refine Sm.bind hF fun v s' st' h1 h2=>hk v s' st' h1 fun l' hl=>?_
 have:=h2 l' hl;cases st with
 |none=>cases this
 |some l=>exact⟨l,rfl,this⟩
def zBI {c:Prop}[Decidable c](st:Option (List UInt8))(M:List UInt8→Option (β×List UInt8)):(st.bind fun l=>if c then none else M l)=(if c then none else st).bind M:=by
 by_cases h:c<;>cases st<;>simp[h]
def zLI {X Y:Type}{f:X→Option (X⊕Y)}(mk:List β→Nat→σ→X)(fin:List β→σ→Y)(n:Nat)(g:List UInt8→Option (β×List UInt8))(s:σ)(st:Option (List UInt8))(h:Re s st)
  (hbad:∀out i s,Re s none→f (mk out i s)=some (.inr (fin out s)))
  (hg:∀l,st=some l→(∀out s l,Re s (some l)→f (mk out n s)=some (.inr (fin out s))) ∧
   ∀out i s l,i<n→out.length=i→Re s (some l)→∃v s',f (mk out i s)=some (.inl (mk (out++[v]) (i+1) s'))∧Re s' ((g l).map (·.2))∧∀v' l',g l=some (v',l')→v=v') :
   ∃out' s',zAE f (mk [] 0 s)=some (fin out' s')∧Re s' ((st.bind (gRep g n)).map (·.2))∧∀vs l',st.bind (gRep g n)=some (vs,l')→out'=vs:=by
 cases st with
 | none=>
   rw[zAd,hbad [] 0 s h];exact⟨[],s,rfl,h,fun _ _ h=>by cases h⟩
 | some l=>
   obtain⟨h1,h2⟩:=hg l rfl;obtain⟨o,s',q1,q2,q3⟩:=loop_sim mk fin n g (fun out i s _ h=>hbad out i s h) h1 h2 [] 0 s (some l) (Nat.zero_le _) (fun _ _=>rfl) h;exact⟨o,s',q1,q2,fun vs l' h=>by simpa using q3 vs l' h⟩
def Sm.loop {X Y γ:Type}{f:X→Option (X⊕(Y⊕(γ×σ)))}(mk:List β→Nat→σ→X)(fin:List β→σ→Y)(n:Nat)(g:List UInt8→Option (β×List UInt8)){s:σ}{st:Option (List UInt8)}(h:Re s st)
  {k:Y→Option (γ×σ)} {k':List β→List UInt8→Option (γ×List UInt8)} {x0:X} (hx:x0=mk [] 0 s)
  (hbad:∀out i s,Re s none→f (mk out i s)=some (.inr (.inl (fin out s))))
  (hg:∀l,st=some l→(∀out s l,Re s (some l)→f (mk out n s)=some (.inr (.inl (fin out s)))) ∧
   ∀out i s l,i<n→out.length=i→Re s (some l)→∃v s',f (mk out i s)=some (.inl (mk (out++[v]) (i+1) s'))∧Re s' ((g l).map (·.2))∧∀v' l',g l=some (v',l')→v=v')
  (hk:∀out s' st',Re s' st'→Sm Re (k (fin out s')) (st'.bind (k' out))) :
  Sm Re (bindE (zAE f x0) k) (st.bind fun l=>(gRep g n l).bind fun p=>k' p.1 p.2):=by
 obtain⟨o,s',q1,q2,q3⟩:=zLI mk (fun out s=>(.inl (fin out s):Y⊕(γ×σ))) n g s st h hbad hg;rw[hx,q1,zAC];have:=hk o s' _ q2;have e:(st.bind fun l=>(gRep g n l).bind fun p=>k' p.1 p.2)=(st.bind (gRep g n)).bind fun p=>k' p.1 p.2:=by cases st<;>rfl
 rw[e];cases hm:st.bind (gRep g n)with
 |none=>rw[hm]at this;exact this
 | some p=>
   rw[hm]at this;rw[q3 p.1 p.2 hm]at this ⊢;exact this
def Sm.one {X Y:Type}{r:Option (β×σ)}{m:Option (β×List UInt8)}{q:Option (X⊕Y)}{mk:β→σ→X}(h:Sm Re r m)(hq:∀ v s,r=some (v,s)→q=some (.inl (mk v s))) :
  ∃v s',q=some (.inl (mk v s'))∧Re s' (m.map (·.2))∧∀v' l',m=some (v',l')→v=v':=by
 obtain⟨v,s,h1,h2,h3⟩:=h;exact⟨v,s,hq v s h1,h2,h3⟩
end
end Go.TM
namespace Go.Proofs.YtdpapeledldifaaGreat
open Go Go.AM Go.TM
def Re3.cut {s0 a:List UInt8}{b:Int}{t:Bool}{st:Option (List UInt8)}(c:Prop)[Decidable c](h:Re3 s0 (a,b,t) st):Re3 s0 (a,b,if c then true else t) (if c then none else st):=by
 by_cases hc:c
 ·simp only[if_pos hc];exact h.bad
 ·simp only[if_neg hc];exact h
def gEnt (t:Int)(l:List UInt8):Option (Cst×List UInt8) :=
 if t=1 then(g1 l).bind fun p=>(gT p.1 p.2).bind fun q=>some ((1,q.1,0,0),q.2)
 else if t=2 then(g2 l).bind fun p=>some ((2,[],p.1,0),p.2)
 else if t=3∨t=4∨t=5∨t=6 then(g2 l).bind fun p=>(g2 p.2).bind fun q=>some ((t,[],p.1,q.1),q.2)
 else none
def zCj (l:List UInt8):Option (Cst×List UInt8):=(g1 l).bind fun p=>gEnt p.1 p.2
def s280 {s0:List UInt8}(s:List UInt8×Int×Bool)(st:Option (List UInt8))(h:Re3 s0 s st):Sm (Re3 s0) (F280 s) (st.bind zCj):=by
 obtain⟨o0,o1,o2⟩:=s;simp only[F280]
 refine Sm.step (s221 _ st h) (k':=gEnt) fun v ⟨a,b,c⟩ st1 h1 e1=>?_
 simp only[zAG,zAs]
 by_cases t1:v=1
 ·subst t1;simp only[gEnt,if_true,zBD,zAC]
  refine Sm.step (s221 _ st1 h1) (k':=fun n l=>(gT n l).bind fun q=>some ((1,q.1,0,0),q.2)) fun n ⟨a2,b2,c2⟩ st2 h2 e2=>?_
  simp only[zBD,zAC]
  refine Sm.step (s219 n _ st2 h2 fun l hl=>?_) (k':=fun q l=>some ((1,q,0,0),l)) fun n ⟨a3,b3,c3⟩ st3 h3 e3=>Sm.ret h3 _
  obtain⟨_,_,hg⟩:=e2 l hl;have:=zDj hg;omega
 ·by_cases t2:v=2
  ·subst t2;simp only[gEnt,t1,if_false,if_true,zBD,zAC]
   exact Sm.step (s222 _ st1 h1) (k':=fun n l=>some ((2,[],n,0),l)) fun n ⟨a2,b2,c2⟩ st2 h2 e2=>Sm.ret h2 _
  ·by_cases t3:v=3∨v=4∨v=5∨v=6
   ·have two:Sm (Re3 s0) (zAA (F222 (a,b,c)) fun x=>match x with
      | (y4,y5,y6,y7)=>zAA (F222 (y5,y6,y7)) fun x=>match x with
        |(y8,y9,y10,y11)=>some ((v,([]:List UInt8),y4,y8),y9,y10,y11)) (st1.bind fun l=>(g2 l).bind fun p=>(g2 p.2).bind fun q=>some ((v,[],p.1,q.1),q.2)) :=
     Sm.step (s222 _ st1 h1) (k':=fun n l=>(g2 l).bind fun q=>some ((v,[],n,q.1),q.2)) fun n ⟨a2,b2,c2⟩ st2 h2 e2=>
      Sm.step (s222 _ st2 h2) (k':=fun q l=>some ((v,[],n,q),l)) fun n ⟨a3,b3,c3⟩ st3 h3 e3=>Sm.ret h3 _
    rcases t3 with rfl|rfl|rfl|rfl <;>
    ·simp only[gEnt,Int.reduceEq,↓reduceIte,zBD,zAC,zAJ,zDt,or_true,true_or]
     exact two
   ·have h3:¬v=3:=fun h=>t3 (.inl h)
    have h4:¬v=4:=fun h=>t3 (.inr (.inl h))
    have h5:¬v=5:=fun h=>t3 (.inr (.inr (.inl h)))
    have h6:¬v=6:=fun h=>t3 (.inr (.inr (.inr h)))
    simp only[t1,t2,h3,h4,h5,h6,↓reduceIte,zAC,zAI,zDf]
    refine⟨_,_,rfl,?_,?_⟩
    ·cases st1<;>simp only[Option.bind_none,zOb,gEnt,t1,t2,h3,h4,h5,h6,↓reduceIte,or_false]<;>exact h1.bad
    ·intro _ _ h;cases st1<;>simp only[Option.bind_none,zOb,gEnt,t1,t2,h3,h4,h5,h6,↓reduceIte,or_false]at h<;>cases h
def i60 (s:List UInt8×Bool)(st:Option (List UInt8))(h:Re2 s st):Sm Re2 (F60 s) (st.bind zCj):=by
 obtain⟨o0,o1⟩:=s;simp only[F60]
 refine Sm.step (i59 _ st h) (k':=gEnt) fun v ⟨a,c⟩ st1 h1 e1=>?_
 simp only[zAG,zAs]
 by_cases t1:v=1
 ·subst t1;simp only[gEnt,if_true,zBD,zAC]
  refine Sm.step (i59 _ st1 h1) (k':=fun n l=>(gT n l).bind fun q=>some ((1,q.1,0,0),q.2)) fun n ⟨a2,c2⟩ st2 h2 e2=>?_
  simp only[zBD,zAC]
  refine Sm.step (i57 n _ st2 h2 fun l hl=>?_) (k':=fun q l=>some ((1,q,0,0),l)) fun n ⟨a3,c3⟩ st3 h3 e3=>Sm.ret h3 _
  obtain⟨_,_,hg⟩:=e2 l hl;have:=zDj hg;omega
 ·by_cases t2:v=2
  ·subst t2;simp only[gEnt,t1,if_false,if_true,zBD,zAC]
   exact Sm.step (i61 _ st1 h1) (k':=fun n l=>some ((2,[],n,0),l)) fun n ⟨a2,c2⟩ st2 h2 e2=>Sm.ret h2 _
  ·by_cases t3:v=3∨v=4∨v=5∨v=6
   ·have two:Sm Re2 (zAA (F61 (a,c)) fun x=>match x with
      | (y4,y5,y7)=>zAA (F61 (y5,y7)) fun x=>match x with
        |(y8,y9,y11)=>some ((v,([]:List UInt8),y4,y8),y9,y11)) (st1.bind fun l=>(g2 l).bind fun p=>(g2 p.2).bind fun q=>some ((v,[],p.1,q.1),q.2)) :=
     Sm.step (i61 _ st1 h1) (k':=fun n l=>(g2 l).bind fun q=>some ((v,[],n,q.1),q.2)) fun n ⟨a2,c2⟩ st2 h2 e2=>
      Sm.step (i61 _ st2 h2) (k':=fun q l=>some ((v,[],n,q),l)) fun n ⟨a3,c3⟩ st3 h3 e3=>Sm.ret h3 _
    rcases t3 with rfl|rfl|rfl|rfl <;>
    ·simp only[gEnt,Int.reduceEq,↓reduceIte,zBD,zAC,zAJ,zDt,or_true,true_or]
     exact two
   ·have h3:¬v=3:=fun h=>t3 (.inl h)
    have h4:¬v=4:=fun h=>t3 (.inr (.inl h))
    have h5:¬v=5:=fun h=>t3 (.inr (.inr (.inl h)))
    have h6:¬v=6:=fun h=>t3 (.inr (.inr (.inr h)))
    simp only[t1,t2,h3,h4,h5,h6,↓reduceIte,zAC,zAI,zDf]
    refine⟨_,_,rfl,?_,?_⟩
    ·cases st1<;>simp only[Option.bind_none,zOb,gEnt,t1,t2,h3,h4,h5,h6,↓reduceIte,or_false]<;>exact h1.bad
    ·intro _ _ h;cases st1<;>simp only[Option.bind_none,zOb,gEnt,t1,t2,h3,h4,h5,h6,↓reduceIte,or_false]at h<;>cases h
def zBj {β:Type}(most:Int)(g:List UInt8→Option (β×List UInt8))(l:List UInt8):Option (List β×List UInt8) :=
 (g1 l).bind fun p=>if most<p.1 then none else gRep g p.1.toNat p.2
def s220 {s0:List UInt8}(s:List UInt8×Int×Bool)(st:Option (List UInt8))(h:Re3 s0 s st):Sm (Re3 s0) (F220 s) (st.bind (zBj 60 zCj)):=by
 obtain⟨o0,o1,o2⟩:=s;simp only[F220]
 refine Sm.step (s221 _ st h) (k':=fun n l=>if 60<n then none else gRep zCj n.toNat l) fun v ⟨a,b,c⟩ st1 h1 e1=>?_
 simp only[zCh]
 rw[show(if(60:Int)<v then(([]:List Cst),v,a,b,true)else([],v,a,b,c))=([],v,a,b,if 60<v then true else c)by split<;>rfl];simp only
 rw[zBI];have h2:=h1.cut (60<v)
 have e:((if 60<v then none else st1).bind fun l=>gRep zCj v.toNat l)=(if 60<v then none else st1).bind fun l=>(gRep zCj v.toNat l).bind fun p=>some (p.1,p.2):=by
  congr 1;funext l;cases gRep zCj v.toNat l<;>rfl
 rw[e];refine Sm.loop (fun out i s=>(out,v,(i:Int),s)) (fun out s=>(out,s)) v.toNat zCj h2 (k':=fun p l=>some (p,l)) rfl ?_ ?_ ?_
 ·intro out i ⟨a,b,c⟩ hs;have:=hs.2.2.2.2.1 rfl;simp only at this;subst this;by_cases hi:(i:Int)<v<;>simp only[hi,zDt,zDf,zAJ,zAI,Bool.not_true,zAH]
 ·intro l hl
  have hv:0≤v∧v≤60:=by
   split at hl
   ·cases hl
   ·obtain⟨_,_,hg⟩:=e1 l hl;have:=zDj hg;omega
  refine⟨fun out ⟨a,b,c⟩ l hs=>?_,fun out i ⟨a,b,c⟩ l hi ho hs=>?_⟩
  ·have hi:¬((v.toNat:Int)<v):=by omega
   simp only[hi,zDf,zAI,zAH]
  ·have hi':(i:Int)<v:=by omega
   have hc:=(hs.2.2.2.2.2 l rfl).1;simp only at hc;subst hc;obtain⟨w,⟨a2,b2,c2⟩,r1,r2,r3⟩:=s280 (a,b,false) (some l) hs;simp only[hi',zDt,zAJ,Bool.not_false,zAC,r1,zAB]
   rw[zDP,zAX (by omega),zAX (by omega),wI (by omega) (by omega)];exact⟨w,_,rfl,r2,r3⟩
 ·intro out ⟨a,b,c⟩ st' hs;exact Sm.ret hs _
end Go.Proofs.YtdpapeledldifaaGreat
end
