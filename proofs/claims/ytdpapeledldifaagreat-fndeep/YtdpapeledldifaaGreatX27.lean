/- Part 28 of the proof of FnDeep; no condition. -/
import Derived.Test.YtdpapeledldifaaGreatX26
open Option renaming some -> U
open Decidable renaming decide -> aa
open Bool renaming true -> ad
open Bool renaming false -> ag
open Option renaming none -> aj
open Sum renaming inl -> an
open Sum renaming inr -> ao
open List renaming length -> au
open Int renaming toNat -> aH
open List renaming drop -> kZ
open List renaming take -> nY
set_option autoImplicit true
set_option relaxedAutoImplicit true
set_option linter.all false
namespace Go.Proofs.YtdpapeledldifaaGreat
noncomputable section
open Go Go.AM Go.TM
open Go.Proofs.Tryz
open Sum (inl inr)
open Go.IntKind (wrap)
set_option maxRecDepth 100000
set_option maxHeartbeats 4000000
def eQ:zBy×Int×Bool->Option (Int×zBy×Int×Bool):=fun(a,b,c)=>
 ai (e7 (a,b,c)) fun(a,b,c,d)=>
 ai (e7 (b,c,d)) fun(b,c,d,e)=>
 U ((wrap .i64 (wrap .i64 (a*256)+b),c,d,e))
def tb222:=ax 222 (az 222 ag [(0,[])] oZ Ie eQ [.tmp 2] 13 [100000]) tb221
def SY:zTb tb222:=aB SX aL aU func222 rfl call222
abbrev SZ:SPat:=⟨[(2,.ptr 2 0)],[.box 2 (pl dC),.box 100000 (pl ly)]⟩
abbrev S0:SPat:=⟨[(0,.ptr 100000 0),(2,.ptr 2 0),(3,.ptr 3 0),(24,.b)],[.box 2 (pl dC),.box 3 (pl dC),.box 100000 (pl ly)]⟩
abbrev S1:SPat:=⟨[(2,.ptr 2 0),(3,.ptr 3 0)],[.box 2 (pl dC),.box 3 (pl dC),.box 100000 (pl ly)]⟩
def S2:Nat->Option SPat:=fun k=>bif k==1000012 then U S0 else bif k==2000000 then U S1 else aj
def xe:zBy×Int×Bool->Option ( Cst×zBy×Int×Bool):=fun(a,b,c)=>
 ai (e7 (a,b,c)) fun(a,b,c,d)=>
 bindE (Y :=  Cst×Cst×zBy×Int×Bool) (ah (aa (a=1))
 (ai (e7 (b,c,d)) fun(b,c,d,e)=>
 ai (qE (b,c,d,e)) fun(b,c,d,e)=>
 U (an (((0:Int),[],(0:Int),(0:Int)),(a,b,(0:Int),(0:Int)),c,d,e)))
 (ah (aa (a=2))
 (ai (eQ (b,c,d)) fun(b,c,d,e)=>
 U (an (((0:Int),[],(0:Int),(0:Int)),(a,[],b,(0:Int)),c,d,e)))
 (bindE (Y:=Bool×Cst×Cst×zBy×Int×Bool) (ah (aa (a=3))
 (U (an (ad,((0:Int),[],(0:Int),(0:Int)),(a,[],(0:Int),(0:Int)),b,c,d)))
 (ah (aa (a=4))
 (U (an (ad,((0:Int),[],(0:Int),(0:Int)),(a,[],(0:Int),(0:Int)),b,c,d)))
 (ah (aa (a=5))
 (U (an (ad,((0:Int),[],(0:Int),(0:Int)),(a,[],(0:Int),(0:Int)),b,c,d)))
 (U (an (aa (a=6),((0:Int),[],(0:Int),(0:Int)),(a,[],(0:Int),(0:Int)),b,c,d)))))) fun(a,(b,c,d,e),(f,g,h,i),j,k,l)=>
 ah (a)
 (ai (eQ (j,k,l)) fun(a,h,i,j)=>
 ai (eQ (h,i,j)) fun(h,i,j,k)=>
 U (an ((b,c,d,e),(f,g,a,h),i,j,k)))
 (U (an ((b,c,d,e),(f,g,h,i),j,k,ad)))))) fun((_,_,_,_),(a,b,c,d),e,f,g)=>
 U (((a,b,c,d),e,f,g))
def tb280:=ax 280 (az 280 ag [(0,[])] oZ SZ xe [.cell 2 27] 36 [100000]) tb222
def S3:zTb tb280:=aB SY aL S2 func280 rfl call280
abbrev S4:SPat:=⟨[(2,.own cz ad)],iQ⟩
abbrev If:SPat:=⟨[(0,.ptr 100000 0),(3,.own cz ad),(4,.i .i64),(5,.i .i64)],iQ⟩
abbrev S5:SPat:=⟨[(0,.ptr 100000 0),(3,.own cz ad),(4,.i .i64)],iQ⟩
abbrev S6:SPat:=⟨[(3,.own cz ad)],iQ⟩
def S7:Nat->Option SPat:=fun k=>bif k==6 then U If else bif k==1000005 then U S5 else bif k==1000008 then U If else bif k==2000000 then U S6 else aj
def xf:zBy×Int×Bool->Option (List Cst×zBy×Int×Bool):=fun(a,b,c)=>
 ai (e7 (a,b,c)) fun(a,b,c,d)=>
 bindE (Y:=List Cst×Int×zBy×Int×Bool) (ah (aa (60<a))
 (U (an ([],a,b,c,ad)))
 (U (an ([],a,b,c,d)))) fun(a,b,c,d,e)=>
 bindE (Y:=List Cst×zBy×Int×Bool) (aD (fun(a,b,c,d,e,f)=>
 bindE (Y:=List Cst×Int×Int×zBy×Int×Bool) (ah (aa (c<b))
 (ah (!f)
 (U (an (a,b,c,d,e,f)))
 (U (ao (ao (an (a,d,e,f))))))
 (U (ao (ao (an (a,d,e,f)))))) fun(a,b,c,d,e,f)=>
 ai (xe (d,e,f)) fun((d,e,f,g),h,i,j)=>
 af (aa (a.length+1<=9223372036854775807)&&aa ((a.length+1)*40<=140737488355328)) (U (an (a++[(d,e,f,g)],b,wrap .i64 (c+1),h,i,j)))) ((a,b,(0:Int),c,d,e))) fun(a,b,c,d)=>
 U ((a,b,c,d))
def tb220:=ax 220 (az 220 ag [(0,[])] oZ S4 xf [.tmp 2] 32 [100000]) tb280
def S8:zTb tb220:=aB S3 aL S7 func220 rfl call220
abbrev S9:SPat:=⟨[(2,.own dc ad)],iQ⟩
abbrev B_:SPat:=⟨[(0,.ptr 100000 0),(3,.own dc ad),(4,.i .i64),(5,.i .i64)],iQ⟩
abbrev S_:SPat:=⟨[(0,.ptr 100000 0),(3,.own dc ad),(4,.i .i64)],iQ⟩
abbrev Ta:SPat:=⟨[(0,.ptr 100000 0),(3,.own dc ad),(4,.i .i64),(5,.i .i64),(6,.ptr 6 0)],[.box 6 (pl [.i .i64,.i .i64]),.box 100000 (pl ly)]⟩
abbrev Tb:SPat:=⟨[(3,.own dc ad)],iQ⟩
def Tc:Nat->Option SPat:=fun k=>bif k==6 then U B_ else bif k==1000005 then U S_ else bif k==1000008 then U B_ else bif k==1000011 then U Ta else bif k==2000000 then U Tb else bif k==2000001 then U B_ else aj
def s7:zBy×Int×Bool->Option (List Knd×zBy×Int×Bool):=fun(a,b,c)=>
 ai (e7 (a,b,c)) fun(a,b,c,d)=>
 bindE (Y:=List Knd×Int×zBy×Int×Bool) (ah (aa (8<a))
 (U (an ([],a,b,c,ad)))
 (U (an ([],a,b,c,d)))) fun(a,b,c,d,e)=>
 bindE (Y:=List Knd×zBy×Int×Bool) (aD (fun(a,b,c,d,e,f)=>
 bindE (Y:=List Knd×Int×Int×zBy×Int×Bool) (ah (aa (c<b))
 (ah (!f)
 (U (an (a,b,c,d,e,f)))
 (U (ao (ao (an (a,d,e,f))))))
 (U (ao (ao (an (a,d,e,f)))))) fun(a,b,c,d,e,f)=>
 bindE (Y:=List Knd×Int×Int×zBy×Int×Bool) (ai (e7 (d,e,f)) fun(d,e,f,g)=>
 bindE (Y:=List Knd×Int×Int×(Int×Int)×zBy×Int×Bool) (ah (aa (d=3))
 (ai (eQ (e,f,g)) fun(e,f,g,h)=>
 U (an (a,b,c,(d,e),f,g,h)))
 (U (an (a,b,c,(d,(0:Int)),e,f,g)))) fun(a,b,c,(d,e),f,g,h)=>
 ah (aa (3<d))
 (af (aa (a.length+1<=9223372036854775807)&&aa ((a.length+1)*16<=140737488355328)) (U (an (a++[(d,e)],b,c,f,g,ad))))
 (af (aa (a.length+1<=9223372036854775807)&&aa ((a.length+1)*16<=140737488355328)) (U (an (a++[(d,e)],b,c,f,g,h))))) fun(a,b,c,d,e,f)=>
 U (an (a,b,wrap .i64 (c+1),d,e,f))) ((a,b,(0:Int),c,d,e))) fun(a,b,c,d)=>
 U ((a,b,c,d))
def tb317:=ax 317 (az 317 ag [(0,[])] oZ S9 s7 [.tmp 2] 47 [100000]) tb220
def Td:zTb tb317:=aB S8 aL Tc func317 rfl call317
abbrev Te:SPat:=⟨[(0,.ptr 100000 0),(1,.agg (pl [.i .i64,.i .i64,.i .i64,.i .i64,.i .i64,.s,.nil,.nil]))],iQ⟩
abbrev Tf:SPat:=⟨[(4,.ptr 4 0)],[.box 4 (pl iO),.box 100000 (pl ly)]⟩
abbrev Ig:SPat:=⟨[(0,.ptr 100000 0),(3,.ptr 3 0),(4,.ptr 4 0),(6,.i .i64),(7,.i .i64)],qx⟩
abbrev Ih:SPat:=⟨[(0,.ptr 100000 0),(3,.ptr 3 0),(4,.ptr 4 0),(6,.i .i64),(8,.i .i64)],qx⟩
abbrev Tg:SPat:=⟨[(0,.ptr 100000 0),(3,.ptr 3 0),(4,.ptr 4 0),(5,.i .i64)],qx⟩
abbrev Ii:SPat:=⟨[(0,.ptr 100000 0),(3,.ptr 3 0),(4,.ptr 4 0),(6,.i .i64)],qx⟩
abbrev Th:SPat:=⟨[(0,.ptr 100000 0),(3,.ptr 3 0),(4,.ptr 4 0)],qx⟩
abbrev Ti:SPat:=⟨[(3,.ptr 3 0),(4,.ptr 4 0)],qx⟩
def Tj:Nat->Option SPat:=fun k=>bif k==11 then U Ig else bif k==18 then U Ih else bif k==1000006 then U Tg else bif k==1000010 then U Ii else bif k==1000013 then U Ig else bif k==1000017 then U Ii else bif k==1000020 then U Ih else bif k==2000000 then U Th else bif k==2000002 then U Ti else aj
def Tk:Nat->List Nat×bc:=fun id=>bif id==13 then([0,1,2,4,6,8],(.br 3 [2] [0,1,4,6,8] [] (.br 5 [4,3,2] [0,1,6,8] [] (.br 7 [6,5,4,3,2] [0,1,8] [] (.br 9 ka [0,1] [10] (.br 11 mg [0,1] [] (.br 12 eY [] [13] (.br 14 eK [] [] .fin .fin) .fin) .fin) .fin) .fin) .fin) .fin))else bif id==20 then([0,1,2,4,6],(.br 3 [2] [0,1,4,6] [] (.br 5 [4,3,2] [0,1,6] [] (.br 7 [6,5,4,3,2] [0,1] [8] (.br 9 ka [0,1] [] (.br 10 fu [] [11] (.br 12 eY [] [] .fin .fin) .fin) .fin) .fin) .fin) .fin))else([],.fin)
def xg:(Int×Int×Int×Int×Int×zBy)×zBy×Int×Bool->Option ( Mth×zBy×Int×Bool):=fun((a,b,c,_,_,d),e,f,g)=>
 ai (e7 (e,f,g)) fun(e,f,g,h)=>
 ai (e7 (f,g,h)) fun(f,g,h,i)=>
 ai (eQ (g,h,i)) fun(g,h,i,j)=>
 bindE (Y:=Int×Mth×Mth×zBy×Int×Bool) (ah (aa (120<g))
 (U (an (g,(a,b,c,e,f,d,[],[]),((0:Int),(0:Int),(0:Int),(0:Int),(0:Int),[],[],[]),h,i,ad)))
 (U (an (g,(a,b,c,e,f,d,[],[]),((0:Int),(0:Int),(0:Int),(0:Int),(0:Int),[],[],[]),h,i,j)))) fun(a,(b,c,d,e,f,_,g,h),(i,j,k,l,m,n,o,p),q,r,s)=>
 ai (qE (a,q,r,s)) fun(a,q,r,s)=>
 ai (e7 (q,r,s)) fun(q,r,s,t)=>
 bindE (Y:=Int×Mth×Mth×zBy×Int×Bool) (ah (aa (3<q))
 (U (an (q,(b,c,d,e,f,a,g,h),(i,j,k,l,m,n,o,p),r,s,ad)))
 (U (an (q,(b,c,d,e,f,a,g,h),(i,j,k,l,m,n,o,p),r,s,t)))) fun(a,(b,c,d,e,f,g,h,i),(j,k,l,m,n,o,p,q),r,s,t)=>
 bindE (Y :=  Mth×Mth×zBy×Int×Bool) (aD (fun(a,b,(c,d,e,f,g,h,i,j),(k,l,m,n,o,p,q,r),s,t,u)=>
 bindE (Y:=Int×Int×Mth×Mth×zBy×Int×Bool) (ah (aa (b<a))
 (ah (!u)
 (U (an (a,b,(c,d,e,f,g,h,i,j),(k,l,m,n,o,p,q,r),s,t,u)))
 (U (ao (ao (an ((c,d,e,f,g,h,i,j),(k,l,m,n,o,p,q,r),s,t,u))))))
 (U (ao (ao (an ((c,d,e,f,g,h,i,j),(k,l,m,n,o,p,q,r),s,t,u)))))) fun(a,b,(c,d,e,f,g,h,i,j),(k,l,m,n,o,p,q,r),s,t,u)=>
 ai (eQ (s,t,u)) fun(s,t,u,v)=>
 ai (eQ (t,u,v)) fun(t,u,v,w)=>
 ai (eQ (u,v,w)) fun(u,v,w,x)=>
 ai (eQ (v,w,x)) fun(v,w,x,y)=>
 af (aa (i.length+1<=9223372036854775807)&&aa ((i.length+1)*32<=140737488355328)) (U (an (a,wrap .i64 (b+1),(c,d,e,f,g,h,i++[(s,t,u,v)],j),(k,l,m,n,o,p,q,r),w,x,y)))) ((a,(0:Int),(b,c,d,e,f,g,h,i),(j,k,l,m,n,o,p,q),r,s,t))) fun((a,b,c,d,e,f,g,h),(i,j,k,l,m,n,o,p),q,r,s)=>
 ai (e7 (q,r,s)) fun(q,r,s,t)=>
 bindE (Y:=Int×Mth×Mth×zBy×Int×Bool) (ah (aa (8<q))
 (U (an (q,(a,b,c,d,e,f,g,h),(i,j,k,l,m,n,o,p),r,s,ad)))
 (U (an (q,(a,b,c,d,e,f,g,h),(i,j,k,l,m,n,o,p),r,s,t)))) fun(a,(b,c,d,e,f,g,h,i),(j,k,l,m,n,o,p,q),r,s,t)=>
 bindE (Y :=  Mth×Mth×zBy×Int×Bool) (aD (fun(a,b,(c,d,e,f,g,h,i,j),(k,l,m,n,o,p,q,r),s,t,u)=>
 bindE (Y:=Int×Int×Mth×Mth×zBy×Int×Bool) (ah (aa (b<a))
 (ah (!u)
 (U (an (a,b,(c,d,e,f,g,h,i,j),(k,l,m,n,o,p,q,r),s,t,u)))
 (U (ao (ao (an ((c,d,e,f,g,h,i,j),(k,l,m,n,o,p,q,r),s,t,u))))))
 (U (ao (ao (an ((c,d,e,f,g,h,i,j),(k,l,m,n,o,p,q,r),s,t,u)))))) fun(a,b,(c,d,e,f,g,h,i,j),(k,l,m,n,o,p,q,r),s,t,u)=>
 ai (eQ (s,t,u)) fun(s,t,u,v)=>
 ai (s7 (t,u,v)) fun(t,u,v,w)=>
 ai (s7 (u,v,w)) fun(u,v,w,x)=>
 af (aa (j.length+1<=9223372036854775807)&&aa ((j.length+1)*56<=140737488355328)) (U (an (a,wrap .i64 (b+1),(c,d,e,f,g,h,i,j++[(s,t,u)]),(k,l,m,n,o,p,q,r),v,w,x)))) ((a,(0:Int),(b,c,d,e,f,g,h,i),(j,k,l,m,n,o,p,q),r,s,t))) fun((a,b,c,d,e,f,g,h),(_,_,_,_,_,_,_,_),i,j,k)=>
 U (((a,b,c,d,e,f,g,h),i,j,k))
def tb281:=ax 281 (az 281 ag [(0,[])] Te Tf xg [.cell 4 53] 91 [100000]) tb317
def Tl:zTb tb281:=aB Td Tk Tj func281 rfl call281
abbrev Tm:SPat:=⟨[(2,.ptr 2 0)],[.box 2 (pl iO),.box 100000 (pl ly)]⟩
def xh:zBy×Int×Bool->Option ( Mth×zBy×Int×Bool):=fun(a,b,c)=>
 ai (e7 (a,b,c)) fun(a,b,c,d)=>
 ai (eQ (b,c,d)) fun(b,c,d,e)=>
 ai (eQ (c,d,e)) fun(c,d,e,f)=>
 ah (aa (wrap .i64 (Int.tdiv (Int.tmod a (16:Int)) (8:Int))=1))
 (U (((a,b,c,(0:Int),(0:Int),[],[],[]),d,e,f)))
 (ai (xg ((a,b,c,(0:Int),(0:Int),[]),d,e,f)) fun((a,b,c,d,e,f,g,h),i,j,k)=>
 U (((a,b,c,d,e,f,g,h),i,j,k)))
def tb223:=ax 223 (az 223 ag [(0,[])] oZ Tm xh [.cell 2 53] 20 [100000]) tb281
def Tn:zTb tb223:=aB Tl aL aU func223 rfl call223
abbrev To:SPat:=⟨[(2,.ptr 2 0)],[.box 2 (pl dj),.box 100000 (pl ly)]⟩
abbrev Ij:SPat:=⟨[(0,.ptr 100000 0),(2,.ptr 2 0),(3,.ptr 3 0),(4,.i .i64),(5,.i .i64)],qy⟩
abbrev Ik:SPat:=⟨[(0,.ptr 100000 0),(2,.ptr 2 0),(3,.ptr 3 0),(4,.i .i64),(6,.i .i64)],qy⟩
abbrev Il:SPat:=⟨[(0,.ptr 100000 0),(2,.ptr 2 0),(3,.ptr 3 0),(4,.i .i64),(7,.i .i64)],qy⟩
abbrev Ca:SPat:=⟨[(0,.ptr 100000 0),(2,.ptr 2 0),(3,.ptr 3 0)],qy⟩
abbrev Cb:SPat:=⟨[(0,.ptr 100000 0),(2,.ptr 2 0),(3,.ptr 3 0),(4,.i .i64)],qy⟩
abbrev Tp:SPat:=⟨[(2,.ptr 2 0),(3,.ptr 3 0)],qy⟩
def Tq:Nat->Option SPat:=fun k=>bif k==12 then U Ij else bif k==19 then U Ik else bif k==26 then U Il else bif k==1000004 then U Ca else bif k==1000011 then U Cb else bif k==1000014 then U Ij else bif k==1000018 then U Cb else bif k==1000021 then U Ik else bif k==1000025 then U Cb else bif k==1000028 then U Il else bif k==2000000 then U Ca else bif k==2000002 then U Ca else bif k==2000004 then U Tp else aj
def Tr:Nat->List Nat×bc:=fun id=>bif id==14 then([0,1,2],(.br 3 [2] [0,1] [] (.br 4 [3,2] [0,1] [] (.br 5 j_ [] [6] (.br 7 dw [] [] .fin .fin) .fin) .fin) .fin))else bif id==21 then([0,1,2,4,6],(.br 3 [2] [0,1,4,6] [] (.br 5 [4,3,2] [0,1,6] [] (.br 7 [6,5,4,3,2] [0,1] [8] (.br 9 ka [0,1] [] (.br 10 fu [] [11] (.br 12 eY [] [] .fin .fin) .fin) .fin) .fin) .fin) .fin))else bif id==28 then([0,1,2],(.br 3 [2] [0,1] [] (.br 4 [3,2] [0,1] [] (.br 5 j_ [] [6] (.br 7 dw [] [] .fin .fin) .fin) .fin) .fin))else([],.fin)
def s8:zBy×Int×Bool->Option ( Cls×zBy×Int×Bool):=fun(a,b,c)=>
 bindE (Y :=  Cls×Cls×zBy×Int×Bool) (ai (qE (4,a,b,c)) fun(a,b,c,d)=>
 ah (!aa (a=[(83:UInt8),84,79,87]))
 (U (an (([],(0:Int),(0:Int),(0:Int),[],[],[]),([],(0:Int),(0:Int),(0:Int),[],[],[]),b,c,ad)))
 (U (an (([],(0:Int),(0:Int),(0:Int),[],[],[]),([],(0:Int),(0:Int),(0:Int),[],[],[]),b,c,d)))) fun((a,b,c,d,e,f,g),(_,_,_,_,h,i,j),k,l,m)=>
 ai (xf (k,l,m)) fun(k,l,m,n)=>
 ai (e7 (l,m,n)) fun(l,m,n,o)=>
 ai (eQ (m,n,o)) fun(m,n,o,p)=>
 ai (eQ (n,o,p)) fun(n,o,p,q)=>
 ai (e7 (o,p,q)) fun(o,p,q,r)=>
 bindE (Y:=Int×Cls×Cls×zBy×Int×Bool) (ah (aa (3<o))
 (U (an (o,(a,b,c,d,e,f,g),(k,l,m,n,h,i,j),p,q,ad)))
 (U (an (o,(a,b,c,d,e,f,g),(k,l,m,n,h,i,j),p,q,r)))) fun(a,(b,c,d,e,f,g,h),(i,j,k,l,m,n,o),p,q,r)=>
 bindE (Y :=  Cls×Cls×zBy×Int×Bool) (aD (fun(a,b,(c,d,e,f,g,h,i),(j,k,l,m,n,o,p),q,r,s)=>
 bindE (Y:=Int×Int×Cls×Cls×zBy×Int×Bool) (ah (aa (b<a))
 (ah (!s)
 (U (an (a,b,(c,d,e,f,g,h,i),(j,k,l,m,n,o,p),q,r,s)))
 (U (ao (ao (an ((c,d,e,f,g,h,i),(j,k,l,m,n,o,p),q,r,s))))))
 (U (ao (ao (an ((c,d,e,f,g,h,i),(j,k,l,m,n,o,p),q,r,s)))))) fun(a,b,(c,d,e,f,g,h,i),(j,k,l,m,n,o,p),q,r,s)=>
 ai (eQ (q,r,s)) fun(q,r,s,t)=>
 af (aa (n.length+1<=9223372036854775807)&&aa ((n.length+1)*8<=140737488355328)) (U (an (a,wrap .i64 (b+1),(c,d,e,f,g,h,i),(j,k,l,m,n++[q],o,p),r,s,t)))) ((a,(0:Int),(b,c,d,e,f,g,h),(i,j,k,l,m,n,o),p,q,r))) fun((a,b,c,d,e,f,g),(h,i,j,k,l,m,n),o,p,q)=>
 ai (e7 (o,p,q)) fun(o,p,q,r)=>
 bindE (Y:=Int×Cls×Cls×zBy×Int×Bool) (ah (aa (5<o))
 (U (an (o,(a,b,c,d,e,f,g),(h,i,j,k,l,m,n),p,q,ad)))
 (U (an (o,(a,b,c,d,e,f,g),(h,i,j,k,l,m,n),p,q,r)))) fun(a,(b,c,d,e,f,g,h),(i,j,k,l,m,n,o),p,q,r)=>
 bindE (Y :=  Cls×Cls×zBy×Int×Bool) (aD (fun(a,b,(c,d,e,f,g,h,i),(j,k,l,m,n,o,p),q,r,s)=>
 bindE (Y:=Int×Int×Cls×Cls×zBy×Int×Bool) (ah (aa (b<a))
 (ah (!s)
 (U (an (a,b,(c,d,e,f,g,h,i),(j,k,l,m,n,o,p),q,r,s)))
 (U (ao (ao (an ((c,d,e,f,g,h,i),(j,k,l,m,n,o,p),q,r,s))))))
 (U (ao (ao (an ((c,d,e,f,g,h,i),(j,k,l,m,n,o,p),q,r,s)))))) fun(a,b,(c,d,e,f,g,h,i),(j,k,l,m,n,o,p),q,r,s)=>
 ai (e7 (q,r,s)) fun(q,r,s,t)=>
 ai (eQ (r,s,t)) fun(r,s,t,u)=>
 ai (eQ (s,t,u)) fun(s,t,u,v)=>
 af (aa (o.length+1<=9223372036854775807)&&aa ((o.length+1)*24<=140737488355328)) (U (an (a,wrap .i64 (b+1),(c,d,e,f,g,h,i),(j,k,l,m,n,o++[(q,r,s)],p),t,u,v)))) ((a,(0:Int),(b,c,d,e,f,g,h),(i,j,k,l,m,n,o),p,q,r))) fun((a,b,c,d,e,f,g),(h,i,j,k,l,m,n),o,p,q)=>
 ai (e7 (o,p,q)) fun(o,p,q,r)=>
 bindE (Y:=Int×Cls×Cls×zBy×Int×Bool) (ah (aa (6<o))
 (U (an (o,(a,b,c,d,e,f,g),(h,i,j,k,l,m,n),p,q,ad)))
 (U (an (o,(a,b,c,d,e,f,g),(h,i,j,k,l,m,n),p,q,r)))) fun(a,(b,c,d,e,f,g,h),(i,j,k,l,m,n,o),p,q,r)=>
 bindE (Y :=  Cls×Cls×zBy×Int×Bool) (aD (fun(a,b,(c,d,e,f,g,h,i),(j,k,l,m,n,o,p),q,r,s)=>
 bindE (Y:=Int×Int×Cls×Cls×zBy×Int×Bool) (ah (aa (b<a))
 (ah (!s)
 (U (an (a,b,(c,d,e,f,g,h,i),(j,k,l,m,n,o,p),q,r,s)))
 (U (ao (ao (an ((c,d,e,f,g,h,i),(j,k,l,m,n,o,p),q,r,s))))))
 (U (ao (ao (an ((c,d,e,f,g,h,i),(j,k,l,m,n,o,p),q,r,s)))))) fun(a,b,(c,d,e,f,g,h,i),(j,k,l,m,n,o,p),q,r,s)=>
 ai (xh (q,r,s)) fun((q,r,s,t,u,v,w,x),y,z,A)=>
 af (aa (p.length+1<=9223372036854775807)&&aa ((p.length+1)*104<=140737488355328)) (U (an (a,wrap .i64 (b+1),(c,d,e,f,g,h,i),(j,k,l,m,n,o,p++[(q,r,s,t,u,v,w,x)]),y,z,A)))) ((a,(0:Int),(b,c,d,e,f,g,h),(i,j,k,l,m,n,o),p,q,r))) fun((_,_,_,_,_,_,_),(a,b,c,d,e,f,g),h,i,j)=>
 U (((a,b,c,d,e,f,g),h,i,j))
def tb142:=ax 142 (az 142 ag [(0,[])] oZ To s8 [.cell 2 34] 111 [100000]) tb223
def Ts:zTb tb142:=aB Tn Tr Tq func142 rfl call142
abbrev Cc:SPat:=⟨[(2,.ptr 2 0),(3,.b)],[.box 2 (pl dj)]⟩
def ke:zBy->Option (Bool×Cls):=fun a=>
 ah (aa (900<(a.length:Int)))
 (U ((ag,[],(0:Int),(0:Int),(0:Int),[],[],[])))
 (ai (s8 (a,0,ag)) fun((b,c,d,e,f,g,h),_,i,j)=>
 ah (j)
 (U ((ag,[],(0:Int),(0:Int),(0:Int),[],[],[])))
 (ah (!aa (i=(a.length:Int)))
 (U ((ag,[],(0:Int),(0:Int),(0:Int),[],[],[])))
 (ai (oY (b,c,d,e,f,g,h)) fun i=>
 ah (!aa (i=a))
 (U ((ag,[],(0:Int),(0:Int),(0:Int),[],[],[])))
 (U ((ad,b,c,d,e,f,g,h))))))
def tb63:=ax 63 (az 63 ad [] fH Cc ke [.cell 2 34,.tmp 3] 36 []) tb142
def Tt:zTb tb63:=aB Ts aL aU func63 rfl call63
abbrev Im:SPat:=⟨[(0,.sl cz),(1,.sl cz)],[]⟩
abbrev Tu:SPat:=⟨[(0,.sl cz),(1,.sl cz),(5,.i .i64)],[]⟩
def Tv:Nat->Option SPat:=fun k=>bif k==4 then U Tu else bif k==2000000 then U dD else aj
def Tw:Nat->List Nat×bc:=fun id=>bif id==6 then(lz,.fin)else([],.fin)
def xi:List Cst×List Cst->Option Bool:=fun(a,b)=>
 ah (!aa ((a.length:Int)=(b.length:Int)))
 (U ag)
 (bindE (aD (fun(a,b,c)=>
 ah (aa (c<(a.length:Int)))
 (af (aa (0<=c)) (aq a c.toNat fun d=>af (aa (0<=c)) (aq b c.toNat fun e=>ah (!(aa (d.1=e.1)&&(aa (d.2.1=e.2.1)&&(aa (d.2.2.1=e.2.2.1)&&(aa (d.2.2.2=e.2.2.2)&&ad)))))
 (U (ao (ao ag)))
 (U (an (a,b,wrap .i64 (c+1)))))))
 (U (ao (an ())))) ((a,b,(0:Int)))) fun _=>
 U ad)
def tb152:=ax 152 (az 152 ad [] Im dx xi [.tmp 4] 26 []) tb63
def Tx:zTb tb152:=aB Tt Tw Tv func152 rfl call152
abbrev Io:SPat:=⟨[(0,.sl dc),(1,.sl dc)],[]⟩
abbrev Ty:SPat:=⟨[(0,.sl dc),(1,.sl dc),(5,.i .i64)],[]⟩
def Tz:Nat->Option SPat:=fun k=>bif k==4 then U Ty else bif k==2000000 then U dD else aj
def TA:Nat->List Nat×bc:=fun id=>bif id==6 then(lz,.fin)else([],.fin)
def s9:List Knd×List Knd->Option Bool:=fun(a,b)=>
 ah (!aa ((a.length:Int)=(b.length:Int)))
 (U ag)
 (bindE (aD (fun(a,b,c)=>
 ah (aa (c<(a.length:Int)))
 (af (aa (0<=c)) (aq a c.toNat fun d=>af (aa (0<=c)) (aq b c.toNat fun e=>ah (!(aa (d.1=e.1)&&(aa (d.2=e.2)&&ad)))
 (U (ao (ao ag)))
 (U (an (a,b,wrap .i64 (c+1)))))))
 (U (ao (an ())))) ((a,b,(0:Int)))) fun _=>
 U ad)
def tb282:=ax 282 (az 282 ad [] Io dx s9 [.tmp 4] 26 []) tb152
def TB:zTb tb282:=aB Tx TA Tz func282 rfl call282
abbrev TC:SPat:=⟨[(0,.sl de),(1,.sl de)],[]⟩
abbrev Ip:SPat:=⟨[(0,.sl de),(1,.sl de),(5,.i .i64)],[]⟩
def TD:Nat->Option SPat:=fun k=>bif k==4 then U Ip else bif k==2000000 then U dD else bif k==2000001 then U Ip else aj
def TE:Nat->List Nat×bc:=fun id=>bif id==6 then([0,1,2,3,4,5,6,7,8,9,10,11,12,13,14,15,16,17,18,19,20,21],(.br 22 wu [] [23,24,25,26,27,28,29,30,31,32,33,34,35] (.br 36 [35,34,33,32,31,30,29,28,27,26,25,24,23,22,21,20,19,18,17,16,15,14,13,12,11,10,9,8,7,6,5,4,3,2,1,0] [] [37,38] .fin .fin) .fin))else([],.fin)
def xj:List Frm×List Frm->Option Bool:=fun(a,b)=>
 ah (!aa ((a.length:Int)=(b.length:Int)))
 (U ag)
 (bindE (aD (fun(a,b,c)=>
 ah (aa (c<(a.length:Int)))
 (bindE (Y:=List Frm×List Frm×Int) (af (aa (0<=c)) (aq a c.toNat fun d=>af (aa (0<=c)) (aq b c.toNat fun e=>ah (!aa (d.1=e.1))
 (U (ao (ao (ao ag))))
 (af (aa (0<=c)) (aq a c.toNat fun d=>af (aa (0<=c)) (aq b c.toNat fun e=>ai (s9 (d.2.1,e.2.1)) fun d=>
 ah (!d)
 (U (ao (ao (ao ag))))
 (af (aa (0<=c)) (aq a c.toNat fun d=>af (aa (0<=c)) (aq b c.toNat fun e=>ai (s9 (d.2.2,e.2.2)) fun d=>
 ah (!d)
 (U (ao (ao (ao ag))))
 (U (an (a,b,c)))))))))))) fun(a,b,c)=>
 U (an (a,b,wrap .i64 (c+1))))
 (U (ao (an ())))) ((a,b,(0:Int)))) fun _=>
 U ad)
def tb228:=ax 228 (az 228 ad [] TC dx xj [.tmp 4] 56 []) tb282
def TF:zTb tb228:=aB TB TE TD func228 rfl call228
abbrev Iq:SPat:=⟨[(0,.agg (pl cB)),(1,.agg (pl cB))],[]⟩
abbrev TG:SPat:=⟨[(2,.ptr 2 0),(3,.ptr 3 0),(5,.i .i64)],[.box 2 (pl cB),.box 3 (pl cB)]⟩
abbrev Ir:SPat:=⟨[(2,.ptr 2 0),(3,.ptr 3 0)],[.box 2 (pl cB),.box 3 (pl cB)]⟩
def TH:Nat->Option SPat:=fun k=>bif k==4 then U TG else bif k==1000003 then U Ir else bif k==2000000 then U Ir else aj
def TJ:Nat->List Nat×bc:=fun id=>bif id==6 then(nB,.fin)else([],.fin)
def xk :  Mth×Mth->Option Bool:=fun((a,b,c,d,e,f,g,h),i,j,k,l,m,n,o,p)=>
 bindE (Y :=  Mth×Mth) (ah (!aa (a=i))
 (U (ao ag))
 (ah (!aa (b=j))
 (U (ao ag))
 (ah (!aa (c=k))
 (U (ao ag))
 (ah (!aa (d=l))
 (U (ao ag))
 (ah (!aa (e=m))
 (U (ao ag))
 (ah (!aa (f=n))
 (U (ao ag))
 (ah (!aa ((g.length:Int)=(o.length:Int)))
 (U (ao ag))
 (U (an ((a,b,c,d,e,f,g,h),i,j,k,l,m,n,o,p)))))))))) fun((a,b,c,d,e,f,g,h),i,j,k,l,m,n,o,p)=>
 bindE (Y :=  Mth×Mth) (aD (fun(a,(b,c,d,e,f,g,h,i),j,k,l,m,n,o,p,q)=>
 ah (aa (a<(h.length:Int)))
 (af (aa (0<=a)) (aq h a.toNat fun r=>af (aa (0<=a)) (aq p a.toNat fun s=>ah (!(aa (r.1=s.1)&&(aa (r.2.1=s.2.1)&&(aa (r.2.2.1=s.2.2.1)&&(aa (r.2.2.2=s.2.2.2)&&ad)))))
 (U (ao (ao ag)))
 (U (an (wrap .i64 (a+1),(b,c,d,e,f,g,h,i),j,k,l,m,n,o,p,q))))))
 (U (ao (an ((b,c,d,e,f,g,h,i),j,k,l,m,n,o,p,q))))) (((0:Int),(a,b,c,d,e,f,g,h),i,j,k,l,m,n,o,p))) fun((_,_,_,_,_,_,_,a),_,_,_,_,_,_,_,b)=>
 ai (xj (a,b)) fun a=>
 U (a)
def tb153:=ax 153 (az 153 ad [] Iq dx xk [.tmp 4] 78 []) tb228
def TL:zTb tb153:=aB TF TJ TH func153 rfl call153
abbrev Is:SPat:=⟨[(0,.agg (pl bX)),(1,.agg (pl bX))],[]⟩
abbrev TN:SPat:=⟨[(2,.ptr 2 0),(3,.ptr 3 0),(5,.i .i64)],wx⟩
abbrev TP:SPat:=⟨[(2,.ptr 2 0),(3,.ptr 3 0),(6,.i .i64)],wx⟩
abbrev TQ:SPat:=⟨[(2,.ptr 2 0),(3,.ptr 3 0),(7,.i .i64)],wx⟩
abbrev Cd:SPat:=⟨[(2,.ptr 2 0),(3,.ptr 3 0)],wx⟩
def TR:Nat->Option SPat:=fun k=>bif k==4 then U TN else bif k==9 then U TP else bif k==14 then U TQ else bif k==1000003 then U Cd else bif k==2000000 then U Cd else bif k==2000002 then U Cd else bif k==2000004 then U dD else aj
def TT:Nat->List Nat×bc:=fun id=>bif id==6 then(nB,.fin)else bif id==11 then(nB,.fin)else bif id==16 then(nA,(.br 10 fu [] [11] .fin .fin))else([],.fin)
def xl :  Cls×Cls->Option Bool:=fun((a,b,c,d,e,f,g),h,i,j,k,l,m,n)=>
 bindE (Y :=  Cls×Cls) (ai (xi (a,h)) fun o=>
 ah (!o)
 (U (ao ag))
 (ah (!aa (b=i))
 (U (ao ag))
 (ah (!aa (c=j))
 (U (ao ag))
 (ah (!aa (d=k))
 (U (ao ag))
 (ah (!aa ((e.length:Int)=(l.length:Int)))
 (U (ao ag))
 (ah (!aa ((f.length:Int)=(m.length:Int)))
 (U (ao ag))
 (ah (!aa ((g.length:Int)=(n.length:Int)))
 (U (ao ag))
 (U (an ((a,b,c,d,e,f,g),h,i,j,k,l,m,n)))))))))) fun((a,b,c,d,e,f,g),h,i,j,k,l,m,n)=>
 bindE (Y :=  Cls×Cls) (aD (fun(a,(b,c,d,e,f,g,h),i,j,k,l,m,n,o)=>
 ah (aa (a<(f.length:Int)))
 (af (aa (0<=a)) (aq f a.toNat fun p=>af (aa (0<=a)) (aq m a.toNat fun q=>ah (!aa (p=q))
 (U (ao (ao ag)))
 (U (an (wrap .i64 (a+1),(b,c,d,e,f,g,h),i,j,k,l,m,n,o))))))
 (U (ao (an ((b,c,d,e,f,g,h),i,j,k,l,m,n,o))))) (((0:Int),(a,b,c,d,e,f,g),h,i,j,k,l,m,n))) fun((a,b,c,d,e,f,g),h,i,j,k,l,m,n)=>
 bindE (Y :=  Cls×Cls) (aD (fun(a,(b,c,d,e,f,g,h),i,j,k,l,m,n,o)=>
 ah (aa (a<(g.length:Int)))
 (af (aa (0<=a)) (aq g a.toNat fun p=>af (aa (0<=a)) (aq n a.toNat fun q=>ah (!(aa (p.1=q.1)&&(aa (p.2.1=q.2.1)&&(aa (p.2.2=q.2.2)&&ad))))
 (U (ao (ao ag)))
 (U (an (wrap .i64 (a+1),(b,c,d,e,f,g,h),i,j,k,l,m,n,o))))))
 (U (ao (an ((b,c,d,e,f,g,h),i,j,k,l,m,n,o))))) (((0:Int),(a,b,c,d,e,f,g),h,i,j,k,l,m,n))) fun((a,b,c,d,e,f,g),h,i,j,k,l,m,n)=>
 bindE (aD (fun(a,(b,c,d,e,f,g,h),i,j,k,l,m,n,o)=>
 ah (aa (a<(h.length:Int)))
 (af (aa (0<=a)) (aq h a.toNat fun p=>af (aa (0<=a)) (aq o a.toNat fun q=>ai (xk ((p.1,p.2.1,p.2.2.1,p.2.2.2.1,p.2.2.2.2.1,p.2.2.2.2.2.1,p.2.2.2.2.2.2.1,p.2.2.2.2.2.2.2),q.1,q.2.1,q.2.2.1,q.2.2.2.1,q.2.2.2.2.1,q.2.2.2.2.2.1,q.2.2.2.2.2.2.1,q.2.2.2.2.2.2.2)) fun p=>
 ah (!p)
 (U (ao (ao ag)))
 (U (an (wrap .i64 (a+1),(b,c,d,e,f,g,h),i,j,k,l,m,n,o))))))
 (U (ao (an ())))) (((0:Int),(a,b,c,d,e,f,g),h,i,j,k,l,m,n))) fun _=>
 U (ad)
def tb70:=ax 70 (az 70 ad [] Is dx xl [.tmp 4] 117 []) tb153
def TU:zTb tb70:=aB TL TT TR func70 rfl call70
def s_:Cls->Option zBy:=fun(a,b,c,d,e,f,g)=>
 ai (w9 (a,b,c,d,e,f,g)) fun h=>
 ah (!h)
 (U ([]))
 (ai (oY (a,b,c,d,e,f,g)) fun h=>
 ai (ke h) fun(i,j,k,l,m,n,o,p)=>
 ah (!i)
 (U ([]))
 (ai (xl ((j,k,l,m,n,o,p),a,b,c,d,e,f,g)) fun a=>
 ah (!a)
 (U ([]))
 (U h)))
def tb22:=ax 22 (az 22 ad [] iz fG s_ [.tmp 2] 25 []) tb70
def TV:zTb tb22:=aB TU aL aU func22 rfl call22
abbrev It:SPat:=⟨[(2,.own .str ad),(3,.s),(4,.b)],[]⟩
abbrev Ce:SPat:=⟨[(0,.s),(5,.own .str ad),(6,.i .i64)],[]⟩
abbrev TW:SPat:=⟨[(0,.s),(5,.own .str ad)],[]⟩
abbrev TX:SPat:=⟨[(0,.s),(5,.own .str ad),(6,.i .i64),(7,.i .i64)],[]⟩
def TY:Nat->Option SPat:=fun k=>bif k==5 then U Ce else bif k==1000004 then U TW else bif k==1000006 then U Ce else bif k==1000009 then U TX else bif k==2000000 then U Ce else aj
def qF:zBy->Option (List zBy×zBy×Bool):=fun a=>
 bindE (Y:=zBy×List zBy) (ah (aa ((a.length:Int)=0))
 (U (ao ([],[],ag)))
 (aq a 0 fun b=>ah (!aa ((b.toNat:Int)=40))
 (U (ao ([],[],ag)))
 (U (an (a,[]))))) fun(a,b)=>
 bindE (Y:=zBy×List zBy×Int) (aD (fun(a,b,c)=>
 bindE (Y:=zBy×List zBy×Int) (ah (aa (c<(a.length:Int)))
 (af (aa (0<=c)) (aq a c.toNat fun d=>ah (!aa ((d.toNat:Int)=41))
 (U (an (a,b,c)))
 (U (ao (ao (an (a,b,c)))))))
 (U (ao (ao (an (a,b,c)))))) fun(a,b,c)=>
 ai (qD (a,c)) fun d=>
 bindE (Y:=zBy×List zBy×Int×Int) (ah (aa (d<0))
 (U (ao (ao (ao ([],[],ag)))))
 (ah (aa (4<=(b.length:Int)))
 (U (ao (ao (ao ([],[],ag)))))
 (U (an (a,b,c,d))))) fun(a,b,c,d)=>
 af (aa (0<=c)&&aa (c<=d)&&aa (d<=(a.length:Int))) (af (aa (b.length+1<=9223372036854775807)&&aa ((b.length+1)*16<=140737488355328)) (U (an (a,b++[kZ c.toNat (nY d.toNat a)],d))))) ((a,b,(1:Int)))) fun(a,b,c)=>
 ah (aa ((a.length:Int)<=c))
 (U (([],[],ag)))
 (af (aa (0<=wrap .i64 (c+1))&&aa (wrap .i64 (c+1)<=(a.length:Int))&&aa ((a.length:Int)<=(a.length:Int))) (ah (!aa (kZ (aH (wrap .i64 (c+1))) (nY (aH (a.length:Int)) a)=[(86:UInt8)]))
 (ai (mq (kZ (aH (wrap .i64 (c+1))) (nY (aH (a.length:Int)) a))) fun d=>
 ah (!d)
 (U (([],[],ag)))
 (U ((b,kZ (aH (wrap .i64 (c+1))) (nY (aH (a.length:Int)) a),ad))))
 (U ((b,kZ (aH (wrap .i64 (c+1))) (nY (aH (a.length:Int)) a),ad)))))
def tb214:=ax 214 (az 214 ad [] fH It qF [.tmp 2,.tmp 3,.tmp 4] 63 []) tb22
def TZ:zTb tb214:=aB TV aL TY func214 rfl call214
def o6:zBy->Option Bool:=fun a=>
 ai (qF a) fun(_,_,a)=>
 U (a)
def tb129:=ax 129 (az 129 ad [] fH eZ o6 [.tmp 2] 13 []) tb214
def T0:zTb tb129:=aB TZ aL aU func129 rfl call129
abbrev o7:SPat:=⟨[(0,.sl cz),(1,.i .i64)],[]⟩
abbrev Iu:SPat:=⟨[(4,.ptr 4 0)],[.box 4 (pl dC)]⟩
def mv:List Cst×Int->Option Cst:=fun(a,b)=>
 ai (eN (b,1,(a.length:Int))) fun c=>
 ah (c)
 (af (aa (0<=wrap .i64 (b-1))) (aq a (aH (wrap .i64 (b-1))) fun a=>U ((a.1,a.2.1,a.2.2.1,a.2.2.2))))
 (U (((0:Int),[],(0:Int),(0:Int))))
def tb215:=ax 215 (az 215 ad [] o7 Iu mv [.cell 4 27] 15 []) tb129
def T1:zTb tb215:=aB T0 aL aU func215 rfl call215
abbrev Cf:SPat:=⟨[(4,.s)],[]⟩
def iR:List Cst×Int->Option zBy:=fun(a,b)=>
 ai (mv (a,b)) fun(b,_,c,_)=>
 ai (mv (a,c)) fun(a,c,_,_)=>
 ah (!aa (b=2))
 (U ([]))
 (ah (!aa (a=1))
 (U ([]))
 (ai (mn c) fun a=>
 ah (!a)
 (U ([]))
 (U c)))
def tb130:=ax 130 (az 130 ad [] o7 Cf iR [.tmp 4] 30 []) tb215
def T2:zTb tb130:=aB T1 aL aU func130 rfl call130
def fI:List Cst×Int->Option zBy:=fun(a,b)=>
 ai (mv (a,b)) fun(a,b,_,_)=>
 ah (!aa (a=1))
 (U ([]))
 (U b)
def tb131:=ax 131 (az 131 ad [] o7 Cf fI [.tmp 4] 14 []) tb130
def T3:zTb tb131:=aB T2 aL aU func131 rfl call131
abbrev Iv:SPat:=⟨[(4,.s),(5,.s),(6,.s)],[]⟩
def T4:Nat->List Nat×bc:=fun id=>bif id==3 then([0,1,2,4,5,6,8,9,10],(.br 3 fW [4,5,6,8,9,10] [] (.br 7 dw [8,9,10] [] (.br 11 fw [] [] (.br 12 eY [] [] (.br 13 iP [] [] (.br 14 eK [] [] .fin .fin) .fin) .fin) .fin) .fin) .fin))else([],.fin)
def ta:List Cst×Int->Option (zBy×zBy×zBy):=fun(a,b)=>
 ai (mv (a,b)) fun(_,_,b,c)=>
 ai (mv (a,c)) fun(_,_,c,d)=>
 ai (iR (a,b)) fun b=>
 ak (ak (af (aa (a=a)) (U ())) (ak (af (aa (c=c)) (U ())) (ak (af (aa (a=a)) (U ())) (ak (af (aa (d=d)) (U ())) (U ()))))) (ai (fI (a,c)) fun c=>
 ak (ak (af (aa (a=a)) (U ())) (ak (af (aa (d=d)) (U ())) (U ()))) (ai (fI (a,d)) fun a=>
 U ((b,c,a))))
def tb132:=ax 132 (az 132 ad [] o7 Iv ta [.tmp 4,.tmp 5,.tmp 6] 28 []) tb131
def T5:zTb tb132:=aB T3 T4 aU func132 rfl call132
abbrev T6:SPat:=⟨[(0,.sl cz),(1,.i .i64),(2,.i .i64)],[]⟩
def tc:List Cst×Int×Int->Option Bool:=fun(a,b,c)=>
 ai (mv (a,b)) fun(a,_,_,_)=>
 U (aa (a=c))
def tb133:=ax 133 (az 133 ad [] T6 kN tc [.tmp 6] 13 []) tb132
def T7:zTb tb133:=aB T5 aL aU func133 rfl call133
abbrev T8:SPat:=⟨[(5,.ptr 5 0),(9,.s)],[.box 5 (pl dC)]⟩
def T9:Nat->Option SPat:=fun k=>bif k==1000013 then U T8 else aj
def td:List Cst×Int->Option Bool:=fun(a,b)=>
 af (aa (0<=b)) (aq a b.toNat fun c=>ah (aa (c.1=1))
 (ah (aa (c.2.2.1=0))
 (ah (aa (c.2.2.2=0))
 (ai (mn c.2.1) fun a=>
 ah (a)
 (U ad)
 (ai (mq c.2.1) fun a=>
 ah (a)
 (U ad)
 (ai (o6 c.2.1) fun a=>
 U a)))
 (U ag))
 (U ag))
 (ah (aa (c.1=2))
 (ah (aa (c.2.1=[]))
 (ah (aa (c.2.2.2=0))
 (ai (iR (a,wrap .i64 (b+1))) fun a=>
 U (!aa (a=[])))
 (U ag))
 (U ag))
 (ah (aa (c.1=3))
 (ai (fI (a,c.2.2.2)) fun b=>
 ah (aa (c.2.1=[]))
 (ai (fI (a,c.2.2.1)) fun a=>
 ai (mn a) fun a=>
 ah (a)
 (ai (mq b) fun a=>
 ah (a)
 (U ad)
 (ai (o6 b) fun a=>
 U a))
 (U ag))
 (U ag))
 (ai (ta (a,wrap .i64 (b+1))) fun(_,_,b)=>
 bindE (Y:=zBy×Cst) (ai (eN (c.1,4,6)) fun d=>
 ah (!d)
 (U (ao ag))
 (ah (!aa (c.2.1=[]))
 (U (ao ag))
 (ai (iR (a,c.2.2.1)) fun d=>
 ah (aa (d=[]))
 (U (ao ag))
 (ai (tc (a,c.2.2.2,3)) fun a=>
 ah (!a)
 (U (ao ag))
 (U (an (b,c.1,c.2.1,c.2.2.1,c.2.2.2))))))) fun(a,b,_,_,_)=>
 ah (aa (b=4))
 (ai (mq a) fun a=>
 U a)
 (ai (o6 a) fun a=>
 U a)))))
def tb53:=ax 53 (az 53 ad [] o7 dx td [.tmp 4] 120 []) tb133
def T_:zTb tb53:=aB T7 aL T9 func53 rfl call53
abbrev xm:SPat:=⟨[(0,.sl cz)],[]⟩
abbrev Iw:SPat:=⟨[(0,.sl cz),(3,.i .i64)],[]⟩
def Ua:Nat->Option SPat:=fun k=>bif k==2 then U Iw else bif k==1000004 then U Iw else bif k==2000000 then U xm else aj
def xo:List Cst->Option Int:=fun a=>
 bindE (Y:=List Cst) (aD (fun(a,b)=>
 bindE (Y:=List Cst×Int) (ah (aa (b<(a.length:Int)))
 (ah (aa (b<60))
 (U (an (a,b)))
 (U (ao (ao (an a)))))
 (U (ao (ao (an a))))) fun(a,b)=>
 ai (td (a,b)) fun c=>
 ah (!c)
 (U (ao (ao (wrap .i64 (b+1)))))
 (U (an (a,wrap .i64 (b+1))))) ((a,(0:Int)))) fun a=>
 ah (aa (60<(a.length:Int)))
 (U ((61:Int)))
 (U ((0:Int)))
def tb15:=ax 15 (az 15 ad [] xm kM xo [.tmp 2] 23 []) tb53
def Ub:zTb tb15:=aB T_ aL Ua func15 rfl call15
abbrev Uc:SPat:=⟨[(1,.ptr 1 0),(3,.s),(4,.i .i64),(5,.i .i64)],iy⟩
def Ud:Nat->Option SPat:=fun k=>bif k==5 then U xd else bif k==10 then U Uc else bif k==1000004 then U mu else bif k==1000016 then U mu else bif k==2000000 then U mu else bif k==2000001 then U xd else bif k==2000002 then U xd else aj
def Ue:Nat->List Nat×bc:=fun id=>bif id==7 then(mf,(.br 7 dw [] [8] .fin .fin))else bif id==12 then([0,1,2,3,4,5,6,8,9,10,11,12,13,14],(.br 7 dw [8,9,10,11,12,13,14] [] (.br 15 oS [] [16] .fin .fin) .fin))else([],.fin)
def xp:Cls->Option Bool:=fun(a,b,c,d,e,f,g)=>
 ai (iR (a,d)) fun h=>
 bindE (Y:=zBy×Cls) (ai (iR (a,c)) fun i=>
 ah (aa (i=[]))
 (U (ao ag))
 (ah (aa (h=[]))
 (U (ao ag))
 (ai (iR (a,c)) fun i=>
 ah (aa (h=i))
 (U (ao ag))
 (ai (eN (b,0,7)) fun i=>
 ah (!i)
 (U (ao ag))
 (U (an (h,a,b,c,d,e,f,g))))))) fun(a,b,c,d,e,f,g,h)=>
 bindE (Y:=zBy×Cls) (aD (fun(a,b,c,d,e,f,g,h,i)=>
 ah (aa (b<(g.length:Int)))
 (bindE (Y:=zBy×Int×Cls) (af (aa (0<=b)) (aq g b.toNat fun j=>ai (iR (c,j)) fun j=>
 ah (aa (j=[]))
 (U (ao (ao (ao ag))))
 (bindE (Y:=zBy×Int×Cls) (aD (fun(a,b,c,d,e,f,g,h,i,j)=>
 ah (aa (c<b))
 (af (aa (0<=c)) (aq h c.toNat fun k=>af (aa (0<=b)) (aq h b.toNat fun l=>ai (iR (d,k)) fun k=>
 ak (ak (af (aa (d=d)) (U ())) (ak (af (aa (h=h)) (U ())) (ak (af (aa (b=b)) (U ())) (ak (af (aa (0<=b)) (aq h b.toNat fun a=>af (aa (a=l)&&ad) (U ()))) (ak (af (aa (l=l)) (U ())) (U ())))))) (ai (iR (d,l)) fun l=>
 ah (aa (k=l))
 (U (ao (ao (ao (ao (ao ag))))))
 (U (an (a,b,wrap .i64 (c+1),d,e,f,g,h,i,j)))))))
 (U (ao (an (a,b,d,e,f,g,h,i,j))))) ((a,b,(0:Int),c,d,e,f,g,h,i))) fun(a,b,c,d,e,f,g,h,i)=>
 U (an (a,b,c,d,e,f,g,h,i))))) fun(a,b,c,d,e,f,g,h,i)=>
 U (an (a,wrap .i64 (b+1),c,d,e,f,g,h,i)))
 (U (ao (an (a,c,d,e,f,g,h,i))))) ((a,(0:Int),b,c,d,e,f,g,h))) fun(a,b,c,d,e,f,g,h)=>
 bindE (Y:=zBy×Cls) (ai (gW (c,2)) fun i=>
 ah (i)
 (ai (gW (c,4)) fun i=>
 ah (i)
 (U (ao ag))
 (U (an (a,b,c,d,e,f,g,h))))
 (U (an (a,b,c,d,e,f,g,h)))) fun(a,_,b,_,_,_,_,_)=>
 ai (gW (b,1)) fun c=>
 ah (!c)
 (U ad)
 (ai (gW (b,4)) fun b=>
 ah (b)
 (U (aa (a=[(79:UInt8),98,106])))
 (U ag))
def tb175:=ax 175 (az 175 ad [] iz eZ xp [.tmp 2] 95 []) tb15
def Uf:zTb tb175:=aB Ub Ue Ud func175 rfl call175
abbrev o8:SPat:=⟨[(1,.ptr 1 0),(3,.i .i64)],iy⟩
abbrev Ug:SPat:=⟨[(1,.ptr 1 0),(3,.i .i64),(4,.ptr 4 0),(5,.i .i64)],[.box 1 (pl bX),.box 4 (pl cG)]⟩
abbrev Ix:SPat:=⟨[(1,.ptr 1 0),(3,.i .i64),(4,.ptr 4 0)],[.box 1 (pl bX),.box 4 (pl cG)]⟩
def Uh:Nat->Option SPat:=fun k=>bif k==2 then U o8 else bif k==10 then U Ug else bif k==1000007 then U Ix else bif k==1000009 then U Ix else bif k==2000000 then U dD else bif k==2000001 then U o8 else bif k==2000002 then U o8 else aj
def Ui:Nat->List Nat×bc:=fun id=>bif id==12 then([0,1,2,3,4,5,6,7,9,10,11,12],(.br 8 mh [9,10,11,12] [] (.br 13 iP [] [14] .fin .fin) .fin))else([],.fin)
def xq:Cls->Option Bool:=fun(a,b,c,d,e,f,g)=>
 bindE (aD (fun(a,b,c,d,e,f,g,h)=>
 ah (aa (a<(g.length:Int)))
 (bindE (Y:=Int×Cls) (af (aa (0<=a)) (aq g a.toNat fun i=>bindE (Y:=Int×Cls×Int×Int×Int) (ai (fI (b,i.2.1)) fun j=>
 ai (mn j) fun j=>
 ah (!j)
 (U (ao (ao (ao (ao ag)))))
 (ai (fI (b,i.2.2)) fun j=>
 ai (mq j) fun j=>
 ah (!j)
 (U (ao (ao (ao (ao ag)))))
 (ai (eN (i.1,0,3)) fun j=>
 ah (!j)
 (U (ao (ao (ao (ao ag)))))
 (U (an (a,(b,c,d,e,f,g,h),i.1,i.2.1,i.2.2)))))) fun(a,(b,c,d,e,f,g,h),i,j,k)=>
 bindE (Y:=Int×Cls×Int×Int×Int) (ai (gW (c,1)) fun l=>
 ah (l)
 (ah (!aa (i=1))
 (U (ao (ao (ao (ao ag)))))
 (U (an (a,(b,c,d,e,f,g,h),i,j,k))))
 (U (an (a,(b,c,d,e,f,g,h),i,j,k)))) fun(a,(b,c,d,e,f,g,h),i,j,k)=>
 bindE (Y:=Int×Cls) (aD (fun(a,b,(c,d,e,f,g,h,i),j,k,l)=>
 ah (aa (b<a))
 (af (aa (0<=b)) (aq h b.toNat fun m=>ai (fI (c,m.2.1)) fun m=>
 ak (ak (af (aa (c=c)) (U ())) (ak (af (aa (k=k)) (U ())) (U ()))) (ai (fI (c,k)) fun n=>
 ah (aa (m=n))
 (U (ao (ao (ao (ao (ao ag))))))
 (U (an (a,wrap .i64 (b+1),(c,d,e,f,g,h,i),j,k,l))))))
 (U (ao (an (a,c,d,e,f,g,h,i))))) ((a,(0:Int),(b,c,d,e,f,g,h),i,j,k))) fun(a,b,c,d,e,f,g,h)=>
 U (an (a,b,c,d,e,f,g,h)))) fun(a,b,c,d,e,f,g,h)=>
 U (an (wrap .i64 (a+1),b,c,d,e,f,g,h)))
 (U (ao (an ())))) (((0:Int),a,b,c,d,e,f,g))) fun _=>
 U (ad)
def tb176:=ax 176 (az 176 ad [] iz eZ xq [.tmp 2] 68 []) tb175
def Uj:zTb tb176:=aB Uf Ui Uh func176 rfl call176
abbrev tf:SPat:=⟨[(0,.agg (pl bX)),(1,.agg (pl cB))],[]⟩
abbrev Uk:SPat:=⟨[(2,.ptr 2 0),(3,.ptr 3 0)],kb⟩
def Ul:Nat->Option SPat:=fun k=>bif k==1000005 then U Uk else aj
def th :  Cls×Mth->Option Bool:=fun((a,b,c,d,e,f,g),h,i,j,k,l,m,n,o)=>
 ai (eN (h,0,15)) fun p=>
 ah (!p)
 (U ag)
 (bindE (Y :=  Cls×Mth) (ai (fI (a,i)) fun p=>
 ah (aa (p=[(98:UInt8),101,103,105,110]))
 (ah (!aa (h=1))
 (U (ao ag))
 (ai (fI (a,j)) fun p=>
 ah (!aa (p=[(40:UInt8),41,86]))
 (U (ao ag))
 (U (an ((a,b,c,d,e,f,g),h,i,j,k,l,m,n,o)))))
 (U (an ((a,b,c,d,e,f,g),h,i,j,k,l,m,n,o)))) fun((_,a,_,_,_,_,_),b,_,_,_,_,_,_,_)=>
 ai (gW (b,8)) fun c=>
 ah (c)
 (ah (aa (b=8))
 (ai (gW (a,4)) fun a=>
 U a)
 (U ag))
 (ai (gW (a,1)) fun a=>
 ah (!a)
 (U ad)
 (U (aa (b=1)))))
def tb244:=ax 244 (az 244 ad [] tf dx th [.tmp 4] 48 []) tb176
def Um:zTb tb244:=aB Uj aL Ul func244 rfl call244
abbrev Iy:SPat:=⟨[(1,.ptr 1 0),(3,.i .i64),(4,.ptr 4 0),(5,.i .i64)],[.box 1 (pl bX),.box 4 (pl cB)]⟩
abbrev Un:SPat:=⟨[(1,.ptr 1 0),(3,.i .i64),(4,.ptr 4 0)],[.box 1 (pl bX),.box 4 (pl cB)]⟩
def Uo:Nat->Option SPat:=fun k=>bif k==2 then U o8 else bif k==8 then U Iy else bif k==1000007 then U Un else bif k==2000000 then U dD else bif k==2000001 then U o8 else bif k==2000002 then U o8 else bif k==2000003 then U Iy else aj
def Uq:Nat->List Nat×bc:=fun id=>bif id==10 then([0,1,2,3,4,5,6,7,9,10,11,12],(.br 8 mh [9,10,11,12] [] (.br 13 iP [] [14,15,16,17,18,19,20,21,22,23,25,26,27,28] (.br 24 HR [25,26,27,28] [] (.br 29 [28,27,26,25,24,23,22,21,20,19,18,17,16,15,14,13,12,11,10,9,8,7,6,5,4,3,2,1,0] [] [30,31] .fin .fin) .fin) .fin) .fin))else([],.fin)
def xr:Cls->Option Bool:=fun(a,b,c,d,e,f,g)=>
 bindE (aD (fun(a,b,c,d,e,f,g,h)=>
 ah (aa (a<(h.length:Int)))
 (bindE (Y:=Int×Cls) (af (aa (0<=a)) (aq h a.toNat fun i=>bindE (Y:=Int×Cls×Mth) (ai (fI (b,i.2.1)) fun j=>
 ai (mn j) fun j=>
 ah (!j)
 (U (ao (ao (ao (ao ag)))))
 (ai (fI (b,i.2.2.1)) fun j=>
 ai (o6 j) fun j=>
 ah (!j)
 (U (ao (ao (ao (ao ag)))))
 (ai (th ((b,c,d,e,f,g,h),i.1,i.2.1,i.2.2.1,i.2.2.2.1,i.2.2.2.2.1,i.2.2.2.2.2.1,i.2.2.2.2.2.2.1,i.2.2.2.2.2.2.2)) fun j=>
 ah (!j)
 (U (ao (ao (ao (ao ag)))))
 (U (an (a,(b,c,d,e,f,g,h),i.1,i.2.1,i.2.2.1,i.2.2.2.1,i.2.2.2.2.1,i.2.2.2.2.2.1,i.2.2.2.2.2.2.1,i.2.2.2.2.2.2.2)))))) fun(a,(b,c,d,e,f,g,h),i,j,k,l,m,n,o,p)=>
 bindE (Y:=Int×Cls) (aD (fun(a,b,(c,d,e,f,g,h,i),j,k,l,m,n,o,p,q)=>
 ah (aa (b<a))
 (bindE (Y:=Int×Int×Cls×Mth) (af (aa (0<=b)) (aq i b.toNat fun r=>ai (fI (c,r.2.1)) fun r=>
 ak (ak (af (aa (c=c)) (U ())) (ak (af (aa (k=k)) (U ())) (U ()))) (ai (fI (c,k)) fun s=>
 ah (aa (r=s))
 (af (aa (0<=b)) (aq i b.toNat fun r=>ai (fI (c,r.2.2.1)) fun r=>
 ak (ak (af (aa (c=c)) (U ())) (ak (af (aa (l=l)) (U ())) (U ()))) (ai (fI (c,l)) fun s=>
 ah (aa (r=s))
 (U (ao (ao (ao (ao (ao (ao ag)))))))
 (U (an (a,b,(c,d,e,f,g,h,i),j,k,l,m,n,o,p,q))))))
 (U (an (a,b,(c,d,e,f,g,h,i),j,k,l,m,n,o,p,q)))))) fun(a,b,(c,d,e,f,g,h,i),j,k,l,m,n,o,p,q)=>
 U (an (a,wrap .i64 (b+1),(c,d,e,f,g,h,i),j,k,l,m,n,o,p,q)))
 (U (ao (an (a,c,d,e,f,g,h,i))))) ((a,(0:Int),(b,c,d,e,f,g,h),i,j,k,l,m,n,o,p))) fun(a,b,c,d,e,f,g,h)=>
 U (an (a,b,c,d,e,f,g,h)))) fun(a,b,c,d,e,f,g,h)=>
 U (an (wrap .i64 (a+1),b,c,d,e,f,g,h)))
 (U (ao (an ())))) (((0:Int),a,b,c,d,e,f,g))) fun _=>
 U (ad)
def tb177:=ax 177 (az 177 ad [] iz eZ xr [.tmp 2] 77 []) tb244
def Ur:zTb tb177:=aB Um Uq Uo func177 rfl call177
abbrev Us:SPat:=⟨[(1,.i .i64),(5,.i .i64)],[]⟩
def Ut:Nat->Option SPat:=fun k=>bif k==1000006 then U Us else aj
def tj:zBy×Int->Option Int:=fun(a,b)=>
 ah (aa ((a.length:Int)=0))
 (U ((0:Int)))
 (aq a 0 fun c=>bindE (ah (aa ((a.length:Int)=2))
 (aq a 1 fun a=>U (an (b,wrap .i64 (wrap .i64 (wrap .i64 (c.toNat:Int)*256)+wrap .i64 (a.toNat:Int)))))
 (U (an (b,wrap .i64 (c.toNat:Int))))) fun(a,b)=>
 ah (aa (a=1))
 (ah (aa (32768<=b))
 (U (wrap .i64 (b-65536)))
 (U b))
 (U b))
def tb252:=ax 252 (az 252 ad [] w4 mm tj [.tmp 4] 30 []) tb177
def Uu:zTb tb252:=aB Ur aL Ut func252 rfl call252
abbrev Iz:SPat:=⟨[(2,.own bu ad),(3,.b)],[]⟩
abbrev Cg:SPat:=⟨[(0,.s),(4,.own bu ad),(5,.i .i64)],[]⟩
abbrev Uv:SPat:=⟨[(0,.s),(4,.own bu ad),(5,.i .i64),(6,.i .i64),(7,.i .i64)],[]⟩
abbrev IA:SPat:=⟨[(4,.own bu ad)],[]⟩
def Uw:Nat->Option SPat:=fun k=>bif k==3 then U Cg else bif k==1000008 then U Uv else bif k==2000000 then U IA else aj
def tk:zBy->Option (List Fld×Bool):=fun a=>
 bindE (Y:=List Fld) (aD (fun(a,b,c)=>
 ah (aa (c<(a.length:Int)))
 (af (aa (0<=c)) (aq a c.toNat fun d=>ai (lC (wrap .i64 (d.toNat:Int))) fun e=>
 bindE (Y:=zBy×List Fld×Int×Int×Int) (ah (aa (e<0))
 (U (ao (ao (ao ([],ag)))))
 (ah (aa ((a.length:Int)<wrap .i64 (wrap .i64 (c+1)+e)))
 (U (ao (ao (ao ([],ag)))))
 (U (an (a,b,c,wrap .i64 (d.toNat:Int),e))))) fun(a,b,c,d,e)=>
 af (aa (0<=wrap .i64 (c+1))&&aa (wrap .i64 (c+1)<=wrap .i64 (wrap .i64 (c+1)+e))&&aa (wrap .i64 (wrap .i64 (c+1)+e)<=(a.length:Int))) (ai (tj (kZ (aH (wrap .i64 (c+1))) (nY (aH (wrap .i64 (wrap .i64 (c+1)+e))) a),d)) fun f=>
 af (aa (b.length+1<=9223372036854775807)&&aa ((b.length+1)*24<=140737488355328)) (U (an (a,b++[(c,d,f)],wrap .i64 (wrap .i64 (c+1)+e)))))))
 (U (ao (an b)))) ((a,[],(0:Int)))) fun a=>
 U ((a,aa (0<(a.length:Int))))
def tb193:=ax 193 (az 193 ad [] fH Iz tk [.tmp 2,.tmp 3] 54 []) tb252
def Ux:zTb tb193:=aB Uu aL Uw func193 rfl call193
def xt :  Cls×Mth->Option Int:=fun((a,_,_,_,_,_,_),b,_,c,_,_,_,_,_)=>
 ai (fI (a,c)) fun a=>
 ai (qF a) fun(a,_,_)=>
 ai (gW (b,1)) fun b=>
 ah (b)
 (U ((a.length:Int)))
 (U (wrap .i64 ((a.length:Int)+1)))
def tb245:=ax 245 (az 245 ad [] tf mm xt [.tmp 4] 26 []) tb193
def Uy:zTb tb245:=aB Ux aL aU func245 rfl call245
abbrev IB:SPat:=⟨[(0,.sl bu),(1,.i .i64)],[]⟩
abbrev Uz:SPat:=⟨[(0,.sl bu),(1,.i .i64),(5,.i .i64)],[]⟩
def UA:Nat->Option SPat:=fun k=>bif k==2 then U Uz else bif k==2000000 then U dD else aj
def kO:List Fld×Int->Option Int:=fun(a,b)=>
 bindE (aD (fun(a,b,c)=>
 ah (aa (c<(a.length:Int)))
 (af (aa (0<=c)) (aq a c.toNat fun d=>ah (aa (d.1=b))
 (U (ao (ao c)))
 (U (an (a,b,wrap .i64 (c+1))))))
 (U (ao (an ())))) ((a,b,(0:Int)))) fun _=>
 U ((-1:Int))
def tb254:=ax 254 (az 254 ad [] IB mm kO [.tmp 4] 20 []) tb245
def UB:zTb tb254:=aB Uy aL UA func254 rfl call254
abbrev UC:SPat:=⟨[(0,.agg (pl bX)),(1,.agg (pl cB)),(2,.sl bu),(3,.agg (pl cG))],[]⟩
abbrev IC:SPat:=⟨[(8,.b)],[]⟩
def xu :  Cls×Mth×List Fld×Int×Int×Int->Option Bool:=fun((a,_,_,_,_,_,_),(_,_,_,_,b,_,_,_),c,_,d,e)=>
 ai (eN (d,3,6)) fun f=>
 ah (f)
 (U (aa (e<b)))
 (ai (eN (d,14,18)) fun b=>
 ah (b)
 (ai (kO (c,e)) fun a=>
 U (aa (0<=a)))
 (ai (oW d) fun b=>
 ah (aa (b=0))
 (U ad)
 (ai (tc (a,e,b)) fun a=>
 U a)))
def tb246:=ax 246 (az 246 ad [] UC IC xu [.tmp 8] 39 []) tb254
def UD:zTb tb246:=aB UB aL aU func246 rfl call246
abbrev UE:SPat:=⟨[(0,.agg (pl bX)),(1,.agg (pl cB)),(2,.sl bu),(3,.agg (pl wv))],[]⟩
abbrev UF:SPat:=⟨[(4,.ptr 4 0),(7,.ptr 7 0)],[.box 4 (pl bX),.box 7 (pl wv)]⟩
def UG:Nat->Option SPat:=fun k=>bif k==1000003 then U UF else aj
def xv :  Cls×Mth×List Fld×Int×Int×Int×Int->Option Bool:=fun((a,b,c,d,e,f,g),(_,_,_,_,_,h,_,_),i,j,k,l,m)=>
 bindE (Y :=  Cls×Int×Int×Int×Int) (ah (aa (k<=j))
 (U (ao ag))
 (ai (kO (i,j)) fun n=>
 ah (aa (n<0))
 (U (ao ag))
 (ah (!aa (k=(h.length:Int)))
 (ai (kO (i,k)) fun h=>
 ah (aa (h<0))
 (U (ao ag))
 (ai (kO (i,l)) fun h=>
 ah (aa (h<0))
 (U (ao ag))
 (U (an ((a,b,c,d,e,f,g),j,k,l,m)))))
 (ai (kO (i,l)) fun h=>
 ah (aa (h<0))
 (U (ao ag))
 (U (an ((a,b,c,d,e,f,g),j,k,l,m))))))) fun((a,_,_,_,_,_,_),_,_,_,b)=>
 ah (aa (b=0))
 (U ad)
 (ai (iR (a,b)) fun a=>
 U (!aa (a=[])))
def tb247:=ax 247 (az 247 ad [] UE IC xv [.tmp 8] 54 []) tb246
def UH:zTb tb247:=aB UD aL UG func247 rfl call247
abbrev ID:SPat:=⟨[(0,.agg (pl bX)),(1,.sl dc)],[]⟩
abbrev IE:SPat:=⟨[(1,.sl dc),(2,.ptr 2 0),(5,.i .i64)],[.box 2 (pl bX)]⟩
def UI:Nat->Option SPat:=fun k=>bif k==2 then U IE else bif k==2000000 then U dD else bif k==2000001 then U IE else aj
def UJ:Nat->List Nat×bc:=fun id=>bif id==4 then([0,1,2,3,4],(.br 5 j_ [] [6,7,8,9,10,11,12,13,14,15,16,17,18,19,20,21] (.br 22 wu [] [23,24,25,26,27,28,29,30,31,32,33,34,35,36,37,38,39,40,41] .fin .fin) .fin))else([],.fin)
def mw :  Cls×List Knd->Option Bool:=fun((a,b,c,d,e,f,g),h)=>
 bindE (aD (fun(a,b,c,d,e,f,g,h,i)=>
 ah (aa (b<(a.length:Int)))
 (bindE (Y:=List Knd×Int×Cls) (af (aa (0<=b)) (aq a b.toNat fun j=>ai (eN (j.1,0,3)) fun j=>
 ah (!j)
 (U (ao (ao (ao ag))))
 (af (aa (0<=b)) (aq a b.toNat fun j=>ah (aa (j.1=3))
 (af (aa (0<=b)) (aq a b.toNat fun j=>ai (iR (c,j.2)) fun j=>
 ah (aa (j=[]))
 (U (ao (ao (ao ag))))
 (af (aa (0<=b)) (aq a b.toNat fun j=>ah (!aa (j.1=3))
 (af (aa (0<=b)) (aq a b.toNat fun j=>ah (!aa (j.2=0))
 (U (ao (ao (ao ag))))
 (U (an (a,b,c,d,e,f,g,h,i)))))
 (U (an (a,b,c,d,e,f,g,h,i)))))))
 (af (aa (0<=b)) (aq a b.toNat fun j=>ah (!aa (j.1=3))
 (af (aa (0<=b)) (aq a b.toNat fun j=>ah (!aa (j.2=0))
 (U (ao (ao (ao ag))))
 (U (an (a,b,c,d,e,f,g,h,i)))))
 (U (an (a,b,c,d,e,f,g,h,i))))))))) fun(a,b,c,d,e,f,g,h,i)=>
 U (an (a,wrap .i64 (b+1),c,d,e,f,g,h,i)))
 (U (ao (an ())))) ((h,(0:Int),a,b,c,d,e,f,g))) fun _=>
 U (ad)
def tb292:=ax 292 (az 292 ad [] ID dx mw [.tmp 4] 54 []) tb247
def UK:zTb tb292:=aB UH UJ UI func292 rfl call292
abbrev UL:SPat:=⟨[(0,.agg (pl bX)),(1,.agg (pl cB)),(2,.sl bu)],[]⟩
abbrev IF:SPat:=⟨[(2,.sl bu),(3,.ptr 3 0),(4,.ptr 4 0),(7,.i .i64)],[.box 3 (pl bX),.box 4 (pl cB)]⟩
def UM:Nat->Option SPat:=fun k=>bif k==2 then U IF else bif k==2000000 then U dD else bif k==2000001 then U IF else aj
def UN:Nat->List Nat×bc:=fun id=>bif id==5 then([0,1,2],(.br 3 fW [] [4,5,6,7,8,9,10,11,12,13,14,15,16,17,18,19,20,21,22,23,24,25,26,27,28,29,30,31,32,33,34,35,36,37,38,39,40] (.br 41 [40,39,38,37,36,35,34,33,32,31,30,29,28,27,26,25,24,23,22,21,20,19,18,17,16,15,14,13,12,11,10,9,8,7,6,5,4,3,2,1,0] [] [42,43,44,45,46,47] (.br 48 [47,46,45,44,43,42,41,40,39,38,37,36,35,34,33,32,31,30,29,28,27,26,25,24,23,22,21,20,19,18,17,16,15,14,13,12,11,10,9,8,7,6,5,4,3,2,1,0] [] [49,50] .fin .fin) .fin) .fin))else([],.fin)
def xw :  Cls×Mth×List Fld->Option Bool:=fun((a,b,c,d,e,f,g),(h,i,j,k,l,m,n,o),p)=>
 bindE (aD (fun(a,b,(c,d,e,f,g,h,i),j,k,l,m,n,o,p,q)=>
 ah (aa (b<(q.length:Int)))
 (bindE (Y:=List Fld×Int×Cls×Mth) (af (aa (0<=b)) (aq q b.toNat fun r=>ai (kO (a,r.1)) fun s=>
 ah (aa (s<0))
 (U (ao (ao (ao ag))))
 (ah (aa (0<b))
 (af (aa (0<=wrap .i64 (b-1))) (aq q (aH (wrap .i64 (b-1))) fun s=>ah (aa (r.1<=s.1))
 (U (ao (ao (ao ag))))
 (ah (!aa ((r.2.1.length:Int)=n))
 (U (ao (ao (ao ag))))
 (ah (aa (m<(r.2.2.length:Int)))
 (U (ao (ao (ao ag))))
 (ai (mw ((c,d,e,f,g,h,i),r.2.1)) fun s=>
 ah (!s)
 (U (ao (ao (ao ag))))
 (ai (mw ((c,d,e,f,g,h,i),r.2.2)) fun r=>
 ah (!r)
 (U (ao (ao (ao ag))))
 (U (an (a,b,(c,d,e,f,g,h,i),j,k,l,m,n,o,p,q)))))))))
 (ah (!aa ((r.2.1.length:Int)=n))
 (U (ao (ao (ao ag))))
 (ah (aa (m<(r.2.2.length:Int)))
 (U (ao (ao (ao ag))))
 (ai (mw ((c,d,e,f,g,h,i),r.2.1)) fun s=>
 ah (!s)
 (U (ao (ao (ao ag))))
 (ai (mw ((c,d,e,f,g,h,i),r.2.2)) fun r=>
 ah (!r)
 (U (ao (ao (ao ag))))
 (U (an (a,b,(c,d,e,f,g,h,i),j,k,l,m,n,o,p,q)))))))))) fun(a,b,(c,d,e,f,g,h,i),j,k,l,m,n,o,p,q)=>
 U (an (a,wrap .i64 (b+1),(c,d,e,f,g,h,i),j,k,l,m,n,o,p,q)))
 (U (ao (an ())))) ((p,(0:Int),(a,b,c,d,e,f,g),h,i,j,k,l,m,n,o))) fun _=>
 U (ad)
def tb248:=ax 248 (az 248 ad [] UL kN xw [.tmp 6] 72 []) tb292
def UO:zTb tb248:=aB UK UN UM func248 rfl call248
abbrev UP:SPat:=⟨[(2,.ptr 2 0),(3,.ptr 3 0),(5,.own bu ad),(7,.i .i64)],kb⟩
abbrev UQ:SPat:=⟨[(2,.ptr 2 0),(3,.ptr 3 0),(5,.own bu ad),(8,.i .i64)],kb⟩
abbrev qG:SPat:=⟨[(2,.ptr 2 0),(3,.ptr 3 0),(5,.own bu ad)],kb⟩
def UR:Nat->Option SPat:=fun k=>bif k==7 then U UP else bif k==12 then U UQ else bif k==1000006 then U qG else bif k==2000000 then U qG else bif k==2000002 then U qG else aj
def US:Nat->List Nat×bc:=fun id=>bif id==4 then([0,1,2,3,4,5,6,7,8,9,10,11],(.br 12 [11,10,7,6,5,4,3,2,1,0] [8,9] [] (.br 13 iP [] [14,15] .fin .fin) .fin))else bif id==9 then(mf,(.br 7 dw [] [8] .fin .fin))else bif id==14 then([0,1,2,3,4,5,6,7],(.br 8 mh [] [9] .fin .fin))else([],.fin)
def tl :  Cls×Mth->Option Bool:=fun((a,b,c,d,e,f,g),h,i,j,k,l,m,n,o)=>
 ai (gW (h,8)) fun p=>
 ah (p)
 (U ad)
 (ai (tk m) fun(p,q)=>
 bindE (Y:=List Fld×Cls×Mth) (ah (!q)
 (U (ao ag))
 (ah (aa (8<k))
 (U (ao ag))
 (ai (xt ((a,b,c,d,e,f,g),h,i,j,k,l,m,n,o)) fun q=>
 ak (ak (af (aa (l=l)) (U ())) (U ())) (ai (eN (l,q,8)) fun q=>
 ah (!q)
 (U (ao ag))
 (U (an (p,(a,b,c,d,e,f,g),h,i,j,k,l,m,n,o))))))) fun(a,(b,c,d,e,f,g,h),i,j,k,l,m,n,o,p)=>
 bindE (Y:=List Fld×Cls×Mth) (aD (fun(a,b,(c,d,e,f,g,h,i),j,k,l,m,n,o,p,q)=>
 ah (aa (b<(a.length:Int)))
 (af (aa (0<=b)&&aa (b<(a.length:Int))) (aq a b.toNat fun r=>ai (xu ((c,d,e,f,g,h,i),(j,k,l,m,n,o,p,q),a,r.1,r.2.1,r.2.2)) fun r=>
 ah (!r)
 (U (ao (ao ag)))
 (U (an (a,wrap .i64 (b+1),(c,d,e,f,g,h,i),j,k,l,m,n,o,p,q)))))
 (U (ao (an (a,(c,d,e,f,g,h,i),j,k,l,m,n,o,p,q))))) ((a,(0:Int),(b,c,d,e,f,g,h),i,j,k,l,m,n,o,p))) fun(a,(b,c,d,e,f,g,h),i,j,k,l,m,n,o,p)=>
 bindE (Y:=List Fld×Cls×Mth) (aD (fun(a,b,(c,d,e,f,g,h,i),j,k,l,m,n,o,p,q)=>
 ah (aa (b<(p.length:Int)))
 (af (aa (0<=b)) (aq p b.toNat fun r=>ai (xv ((c,d,e,f,g,h,i),(j,k,l,m,n,o,p,q),a,r.1,r.2.1,r.2.2.1,r.2.2.2)) fun r=>
 ah (!r)
 (U (ao (ao ag)))
 (U (an (a,wrap .i64 (b+1),(c,d,e,f,g,h,i),j,k,l,m,n,o,p,q)))))
 (U (ao (an (a,(c,d,e,f,g,h,i),j,k,l,m,n,o,p,q))))) ((a,(0:Int),(b,c,d,e,f,g,h),i,j,k,l,m,n,o,p))) fun(a,(b,c,d,e,f,g,h),i,j,k,l,m,n,o,p)=>
 ai (xw ((b,c,d,e,f,g,h),(i,j,k,l,m,n,o,p),a)) fun a=>
 U a)
def tb178:=ax 178 (az 178 ad [] tf dx tl [.tmp 4] 70 []) tb248
def UT:zTb tb178:=aB UO US UR func178 rfl call178
def UU:Nat->Option SPat:=fun k=>bif k==10 then U o8 else bif k==2000000 then U dD else aj
def UV:Nat->List Nat×bc:=fun id=>bif id==12 then(gQ,(.br 6 [5,4,3,2,1,0] [] [7] .fin .fin))else([],.fin)
def tn:Cls->Option Int:=fun(a,b,c,d,e,f,g)=>
 ai (xo a) fun h=>
 ah (!aa (h=0))
 (U ((2:Int)))
 (ai (xp (a,b,c,d,e,f,g)) fun h=>
 ah (!h)
 (U ((3:Int)))
 (ai (xq (a,b,c,d,e,f,g)) fun h=>
 ah (!h)
 (U ((4:Int)))
 (ai (xr (a,b,c,d,e,f,g)) fun h=>
 ah (!h)
 (U ((5:Int)))
 (bindE (aD (fun(a,b,c,d,e,f,g,h)=>
 ah (aa (a<(h.length:Int)))
 (af (aa (0<=a)) (aq h a.toNat fun i=>ai (tl ((b,c,d,e,f,g,h),i.1,i.2.1,i.2.2.1,i.2.2.2.1,i.2.2.2.2.1,i.2.2.2.2.2.1,i.2.2.2.2.2.2.1,i.2.2.2.2.2.2.2)) fun i=>
 ah (!i)
 (U (ao (ao (6:Int))))
 (U (an (wrap .i64 (a+1),b,c,d,e,f,g,h)))))
 (U (ao (an ())))) (((0:Int),a,b,c,d,e,f,g))) fun _=>
 U ((0:Int))))))
def tb88:=ax 88 (az 88 ad [] iz kM tn [.tmp 2] 32 []) tb178
def UW:zTb tb88:=aB UT UV UU func88 rfl call88
abbrev IG:SPat:=⟨[(2,.ptr 2 0),(4,.ptr 25 0),(5,.own .str ad),(6,.i .i64)],[.box 2 (pl dj),.box 25 (pl jh)]⟩
abbrev UX:SPat:=⟨[(0,.s),(2,.ptr 2 0)],[.box 2 (pl dj)]⟩
abbrev IH:SPat:=⟨[(2,.ptr 2 0),(4,.ptr 25 0)],[.box 2 (pl dj),.box 25 (pl jh)]⟩
def UY:Nat->Option SPat:=fun k=>bif k==6 then U IG else bif k==1000003 then U UX else bif k==1000008 then U IG else bif k==1000011 then U IH else bif k==2000000 then U IH else aj
def xx:zBy->Option (Bool×Cls):=fun a=>
 bindE (Y:=zBy×Cls) (ah (aa (2500<(a.length:Int)))
 (U (ao (ag,[],0,0,0,[],[],[])))
 (ah (aa ((a.length:Int)=0))
 (U (ao (ag,[],0,0,0,[],[],[])))
 (af (aa (0<=wrap .i64 ((a.length:Int)-1))) (aq a (aH (wrap .i64 ((a.length:Int)-1))) fun b=>ah (!aa ((b.toNat:Int)=10))
 (U (ao (ag,[],0,0,0,[],[],[])))
 (U (an (a,[],0,0,0,[],[],[]))))))) fun(a,b,c,d,e,f,g,h)=>
 ai (nF (a,10,(a.length:Int))) fun a=>
 bindE (Y :=  Cls×List Cst×Int×Int×Int×List Int×List Fld×List Mth×Bool) (aD (fun(a,b,(c,d,e,f,g,h,i),j,k,l,m,n,o,p,q)=>
 bindE (Y:=List zBy×Int×Cls×List Cst×Int×Int×Int×List Int×List Fld×List Mth×Bool) (ah (aa (b<wrap .i64 ((a.length:Int)-1)))
 (ah (!q)
 (U (an (a,b,(c,d,e,f,g,h,i),j,k,l,m,n,o,p,q)))
 (U (ao (ao (an ((c,d,e,f,g,h,i),j,k,l,m,n,o,p,q))))))
 (U (ao (ao (an ((c,d,e,f,g,h,i),j,k,l,m,n,o,p,q)))))) fun(a,b,(c,d,e,f,g,h,i),j,k,l,m,n,o,p,q)=>
 af (aa (0<=b)&&aa (b<(a.length:Int))) (aq a b.toNat fun r=>ai (w8 (r,j,k,l,m,n,o,p,q)) fun(j,k,l,m,n,o,p,q)=>
 U (an (a,wrap .i64 (b+1),(c,d,e,f,g,h,i),j,k,l,m,n,o,p,q)))) ((a,(0:Int),(b,c,d,e,f,g,h),[],(0:Int),(0:Int),(0:Int),[],[],[],ag))) fun((a,b,c,d,e,f,g),h,i,j,k,l,m,n,o)=>
 bindE (Y :=  Cls×List Cst×Int×Int×Int×List Int×List Fld×List Mth×Bool) (ah (o)
 (U (ao (ag,[],0,0,0,[],[],[])))
 (ai (s_ (h,i,j,k,l,m,n)) fun p=>
 ah (aa (p=[]))
 (U (ao (ag,[],0,0,0,[],[],[])))
 (ai (tn (h,i,j,k,l,m,n)) fun p=>
 ah (!aa (p=0))
 (U (ao (ag,[],0,0,0,[],[],[])))
 (U (an ((a,b,c,d,e,f,g),h,i,j,k,l,m,n,o)))))) fun((_,_,_,_,_,_,_),a,b,c,d,e,f,g,_)=>
 U ((ad,a,b,c,d,e,f,g))
def tb218:=ax 218 (az 218 ad [] fH Cc xx [.cell 2 34,.tmp 3] 75 []) tb88
def UZ:zTb tb218:=aB UW aL UY func218 rfl call218
def tq:zBy->Option zBy:=fun a=>
 ai (xx a) fun(a,b,c,d,e,f,g,h)=>
 ah (!a)
 (U ([(83:UInt8),84,79,87]))
 (ai (oY (b,c,d,e,f,g,h)) fun a=>
 U a)
def tb139:=ax 139 (az 139 ad [] fH fG tq [.tmp 2] 14 []) tb218
def U0:zTb tb139:=aB UZ aL aU func139 rfl call139
abbrev Ch:SPat:=⟨[(0,.ptr 100000 0)],mj⟩
abbrev U1:SPat:=⟨[(2,.ptr 2 0)],[.box 2 (pl [.s,.s]),.box 100000 (pl gP)]⟩
def xy:zBy×Int->Option ((zBy×zBy)×zBy×Int):=fun(a,b)=>let c:=[(99:UInt8),108,97,115,115,32,77,32];let d:=[(79:UInt8),98,106];ai (dL ([d,d,d,[(65:UInt8)]],a,b)) fun(a,b,d)=>
 af (aa ((8:Nat)+a.length<=9223372036854775807)) (af (aa (au (c++a)+3<=9223372036854775807)) (ai (wJ ([(109:UInt8),97,105,110],b,d)) fun(b,d,e)=>
 af (aa (au (c++a++[(32:UInt8),48,10])+b.length<=9223372036854775807)) (ai (tq (c++a++[(32:UInt8),48,10]++b)) fun a=>
 U ((([(77:UInt8)],a),d,e)))))
def tb138:=ax 138 (az 138 ag [(0,[])] Ch U1 xy [.cell 2 143] 13 [100000]) tb139
def U2:zTb tb138:=aB U0 aL aU func138 rfl call138
def xz:zBy×zBy×Int->Option (zBy×zBy×Int):=fun(a,b,c)=>let d:=[(109:UInt8),101,116,104,111,100,32,110,101,120,116,32,40,41,76,65,59,32,48,32,50,32,49,10,32,32,114,101,102,108,111,97,100,32,48,10,32,32,103,101,116,32,65,32,110,32,76,65,59,10,32,32,103,105,118,101,114,101,102,10];let e:=[(109:UInt8),101,116,104,111,100,32,103,101,116,32,40,41,73,32,48,32,50,32,49,10,32,32,114,101,102,108,111,97,100,32,48,10,32,32,103,101,116,32,65,32,120,32,73,10,32,32,103,105,118,101,105,110,116,10];let f:=[(99:UInt8),108,97,115,115,32,65,32,79,98,106,32,48,10,102,105,101,108,100,32,120,32,73,32,48,10,102,105,101,108,100,32,110,32,76,65,59,32,48,10,102,105,101,108,100,32,115,32,73,32,49,10];let g:=[(99:UInt8),108,97,115,115,32,85,32,79,98,106,32,48,10,102,105,101,108,100,32,97,32,76,65,59,32,49,10,109,101,116,104,111,100,32,101,97,116,32,40,76,65,59];let h:=[(41:UInt8),73,32,49,32,50,32,49,10,32,32,114,101,102,108,111,97,100,32,48,10,32,32,103,101,116,32,65,32,120,32,73,10,32,32,103,105,118,101,105,110,116,10];let i:=[(109:UInt8),101,116,104,111,100,32,103,101,116,32,40,41,73,32,48,32,49,32,49,10,32,32,112,117,115,104,32,54,10,32,32,103,105,118,101,105,110,116,10];let j:=[(109:UInt8),101,116,104,111,100,32,109,107,32,40,41,76,65,59,32,49,32,49,32,48,10,32,32,110,101,119,32,65,10,32,32,103,105,118,101,114,101,102,10];let k:=[(109:UInt8),101,116,104,111,100,32,116,97,107,101,32,40,76,65,59,41,73,32,48,32,50,32,50,10,32,32,114,101,102,108,111,97,100,32,49,10,32,32];let l:=[(109:UInt8),101,116,104,111,100,32,109,97,107,101,32,40,41,76,65,59,32,49,32,49,32,48,10,32,32,110,101,119,32];let m:=[(99:UInt8),108,97,115,115,32,67,32,79,98,106,32,48,10,102,97,99,101,32,70,10];let n:=[(10:UInt8),102,105,101,108,100,32,121,32,73,32,48,10];let o:=[(99:UInt8),108,97,115,115,32,70,32,79,98,106,32];let p:=[(99:UInt8),108,97,115,115,32,66,32,65,32];ah (aa (a=[(65:UInt8)]))
 (ai (dL ([[],[],[(102:UInt8),105,101,108,100,32,122,32,73,32,48,10]],b,c)) fun(a,b,c)=>
 af (aa ((52:Nat)+a.length<=9223372036854775807)) (af (aa (au (f++a)+55<=9223372036854775807)) (af (aa (au (f++a++e)+60<=9223372036854775807)) (af (aa (au (f++a++e++d)+40<=9223372036854775807)) (ai (dL ([[],[(109:UInt8),101,116,104,111,100,32,104,105,100,32,40,41,86,32,50,32,48,32,49,10,32,32,103,105,118,101,10]],b,c)) fun(b,c,g)=>
 af (aa (au (f++a++e++d++j)+b.length<=9223372036854775807)) (ai (dL ([[],List.append [(109:UInt8),101,116,104,111,100,32,98,101,103,105,110,32,40,41,86,32,49,32,49,32,48,10,32,32,112,117,115,104,32,49,48,10,32,32,112] [(114:UInt8),105,110,116,10,32,32,112,117,115,104,32,51,10,32,32,112,117,116,97,108,108,32,65,32,115,32,73,10,32,32,103,105,118,101,10],[(109:UInt8),101,116,104,111,100,32,98,101,103,105,110,32,40,41,86,32,49,32,50,32,48,10,32,32,112,117,115,104,32,49,10,32,32,112,117,115,104,32,48,10,32,32,100,105,118,10,32,32,112,114,105,110,116,10,32,32,103,105,118,101,10]],c,g)) fun(c,g,h)=>
 af (aa (au (f++a++e++d++j++b)+c.length<=9223372036854775807)) (U ((f++a++e++d++j++b++c,g,h)))))))))
 (ah (aa (a=[(66:UInt8)]))
 (ai (dL ([[(48:UInt8)],[(48:UInt8)],[(50:UInt8)]],b,c)) fun(a,b,c)=>
 af (aa ((10:Nat)+a.length<=9223372036854775807)) (af (aa (au (p++a)+13<=9223372036854775807)) (ai (dL ([[(109:UInt8),101,116,104,111,100,32,103,101,116,32,40,41,73,32,48,32,49,32,49,10,32,32,112,117,115,104,32,53,10,32,32,103,105,118,101,105,110,116,10],List.append [(109:UInt8),101,116,104,111,100,32,103,101,116,32,40,41,73,32,48,32,50,32,49,10,32,32,114,101,102,108,111,97,100,32,48,10,32,32,115,112,101,99] [(105:UInt8),97,108,32,65,32,103,101,116,32,40,41,73,10,32,32,112,117,115,104,32,49,10,32,32,97,100,100,10,32,32,103,105,118,101,105,110,116,10],[(109:UInt8),101,116,104,111,100,32,103,101,116,32,40,41,73,32,50,32,49,32,49,10,32,32,112,117,115,104,32,57,10,32,32,103,105,118,101,105,110,116,10],[(109:UInt8),101,116,104,111,100,32,110,101,120,116,32,40,41,76,65,59,32,48,32,49,32,49,10,32,32,110,101,119,32,66,10,32,32,103,105,118,101,114,101,102,10],[(109:UInt8),101,116,104,111,100,32,103,101,116,32,40,41,73,32,48,32,49,32,49,10,32,32,110,117,108,108,10,32,32,103,105,118,101,105,110,116,10],[(109:UInt8),101,116,104,111,100,32,98,101,103,105,110,32,40,41,86,32,49,32,49,32,48,10,32,32,112,117,115,104,32,50,48,10,32,32,112,114,105,110,116,10,32,32,103,105,118,101,10]],b,c)) fun(b,c,d)=>
 af (aa (au (p++a++n)+b.length<=9223372036854775807)) (U ((p++a++n++b,c,d))))))
 (ah (aa (a=[(67:UInt8)]))
 (ai (dL ([[],i,i],b,c)) fun(a,b,c)=>
 af (aa ((21:Nat)+a.length<=9223372036854775807)) (af (aa (au (m++a)+39<=9223372036854775807)) (ai (dL ([[(118:UInt8),105,114,116,117,97,108,32,65,32,103,101,116,32,40,41,73],[(103:UInt8),101,116,32,65,32,120,32,73]],b,c)) fun(b,c,d)=>
 af (aa (au (m++a++k)+b.length<=9223372036854775807)) (af (aa (au (m++a++k++b)+11<=9223372036854775807)) (U ((m++a++k++b++[(10:UInt8),32,32,103,105,118,101,105,110,116,10],c,d)))))))
 (ah (aa (a=[(70:UInt8)]))
 (ai (dL ([[(53:UInt8)],[(53:UInt8)],[(53:UInt8)],[(52:UInt8)]],b,c)) fun(a,b,c)=>
 af (aa ((12:Nat)+a.length<=9223372036854775807)) (af (aa (au (o++a)+39<=9223372036854775807)) (U ((o++a++[(10:UInt8),109,101,116,104,111,100,32,103,101,116,32,40,41,73,32,56,10,109,101,116,104,111,100,32,116,97,107,101,32,40,76,65,59,41,73,32,56,10],b,c)))))
 (ai (dL ([[(65:UInt8)],[(65:UInt8)],[(66:UInt8)]],b,c)) fun(a,b,c)=>
 af (aa ((116:Nat)+a.length<=9223372036854775807)) (af (aa (au (List.append g h++l++a)+11<=9223372036854775807)) (U ((List.append g h++l++a++[(10:UInt8),32,32,103,105,118,101,114,101,102,10],b,c))))))))
def tb140:=ax 140 (az 140 ag [(0,[])] B3 wD xz [.tmp 4] 71 [100000]) tb138
def U3:zTb tb140:=aB U2 aL aU func140 rfl call140
abbrev II:SPat:=⟨[(2,.ptr 2 0)],[.box 2 (pl dj),.box 100000 (pl gP)]⟩
abbrev U4:SPat:=⟨[(2,.ptr 2 0),(4,.s)],[.box 2 (pl dj),.box 100000 (pl gP)]⟩
def U5:Nat->Option SPat:=fun k=>bif k==1000006 then U U4 else aj
def tt:zBy×Int->Option ( Cls×zBy×Int):=fun(a,b)=>
 ai (dL ([[(65:UInt8)],[(66:UInt8)],[(67:UInt8)],[(70:UInt8)],[(85:UInt8)],[(77:UInt8)]],a,b)) fun(a,b,c)=>
 bindE (Y:=zBy×Cls×zBy×Int) (ah (aa (a=[(77:UInt8)]))
 (ai (xy (b,c)) fun((_,a),b,c)=>
 U (an (a,([],(0:Int),(0:Int),(0:Int),[],[],[]),b,c)))
 (ai (xz (a,b,c)) fun(a,b,c)=>
 ai (tq a) fun a=>
 U (an (a,([],(0:Int),(0:Int),(0:Int),[],[],[]),b,c)))) fun(a,(_,_,_,_,_,_,_),b,c)=>
 ai (ke a) fun(_,a,d,e,f,g,h,i)=>
 U (((a,d,e,f,g,h,i),b,c))
def tb56:=ax 56 (az 56 ag [(0,[])] Ch II tt [.cell 2 34] 25 [100000]) tb140
def U6:zTb tb56:=aB U3 aL U5 func56 rfl call56
abbrev U7:SPat:=⟨[(0,.ptr 100000 0),(1,.s),(5,.i .i64),(12,.i .i64),(13,.b)],mj⟩
abbrev U8:SPat:=⟨[(1,.s)],mj⟩
def U9:Nat->Option SPat:=fun k=>bif k==1000005 then U U7 else bif k==2000000 then U U8 else aj
def U_:Nat->List Nat×bc:=fun id=>bif id==6 then([0,1,2,3,9,10,11,12],(.br 4 [3] [0,1,2,9,10,11,12] [5] (.br 6 [5,4,3] [0,1,2,9,10,11,12] [7,8,13] (.br 14 eK [] [] .fin .fin) .fin) .fin))else([],.fin)
def xA:zBy×zBy×Int->Option (zBy×zBy×Int):=fun(a,b,c)=>ai (cw (wrap .i64 ((a.length:Int)+1),b,c)) fun(b,c,d)=>ai (cw (5,c,d)) fun(c,d,e)=>bindE (Y:=zBy×zBy×Int) (bindE (Y:=zBy×Int×Int×Bool×zBy×Int) (ah (aa (c=0)) (U (an (a,b,c,ad,d,e))) (U (an (a,b,c,aa (c=1),d,e)))) fun(a,b,c,d,e,f)=>ah d (ah (aa (b<(a.length:Int))) (af (aa (0<=b)&&aa (b<=(a.length:Int))) (af (aa (0<=wrap .i64 (b+1))&&aa (wrap .i64 (b+1)<=(a.length:Int))&&aa ((a.length:Int)<=(a.length:Int))) (ai (cw (256,e,f)) fun(c,d,e)=>let f:=ak (af (aa (a=a)) (U ())) (ak (af (aa (b=b)) (U ())) (ak (af (aa (0<=b)&&aa (b<=(a.length:Int))) (af (aa (kZ (0:Nat) (nY b.toNat a)=kZ (0:Nat) (nY b.toNat a))) (U ()))) (ak (af (aa (a=a)) (U ())) (ak (af (aa (b=b)) (U ())) (ak (af (aa (wrap .i64 (b+1)=wrap .i64 (b+1))) (U ())) (ak (af (aa (0<=wrap .i64 (b+1))&&aa (wrap .i64 (b+1)<=(a.length:Int))&&aa ((a.length:Int)<=(a.length:Int))) (af (aa (kZ (aH (wrap .i64 (b+1))) (nY (aH (a.length:Int)) a)=kZ (aH (wrap .i64 (b+1))) (nY (aH (a.length:Int)) a))) (U ()))) (U ())))))));ak f (af (aa (0<=wrap .u8 c)&&aa (wrap .u8 c<=255)) (ak f (af (aa (au (kZ (0:Nat) (nY b.toNat a))+1<=9223372036854775807)) (af (aa (au (kZ (0:Nat) (nY b.toNat a)++[UInt8.ofNat (aH (wrap .u8 c))])+au (kZ (aH (wrap .i64 (b+1))) (nY (aH (a.length:Int)) a))<=9223372036854775807)) (U (ao (kZ (0:Nat) (nY b.toNat a)++[UInt8.ofNat (aH (wrap .u8 c))]++kZ (aH (wrap .i64 (b+1))) (nY (aH (a.length:Int)) a),d,e)))))))))) (U (an (a,e,f)))) (ah (aa (c=2)) (af (aa (0<=b)&&aa (b<=(a.length:Int))) (U (ao (kZ (0:Nat) (nY b.toNat a),e,f)))) (ah (aa (c=3)) (ai (cw (256,e,f)) fun(b,c,d)=>af (aa (0<=wrap .u8 b)&&aa (wrap .u8 b<=255)) (af (aa (a.length+1<=9223372036854775807)) (U (ao (a++[UInt8.ofNat (aH (wrap .u8 b))],c,d))))) (U (an (a,e,f)))))) fun(a,b,c)=>U ((a,b,c))
def tb54:=ax 54 (az 54 ag [(0,[])] B3 wD xA [.tmp 4] 49 [100000]) tb56
def Va:zTb tb54:=aB U6 U_ U9 func54 rfl call54
abbrev Vb:SPat:=⟨[(0,.ptr 100000 0),(1,.agg (pl wy))],[.box 100000 (pl gP),.arr 100001 cz ad,.arr 100002 (.int .i64) ad,.arr 100003 bu ad,.arr 100004 cv ad]⟩
abbrev Vc:SPat:=⟨[(4,.ptr 4 0)],[.box 4 (pl wy),.box 100000 (pl gP),.arr 100001 cz ad,.arr 100002 (.int .i64) ad,.arr 100003 bu ad,.arr 100004 cv ad]⟩
abbrev Vd:SPat:=⟨[(0,.ptr 100000 0),(3,.ptr 3 0),(4,.ptr 4 0)],[.box 3 (pl wy),.box 4 (pl dj),.box 100000 (pl gP),.arr 100001 cz ad,.arr 100002 (.int .i64) ad,.arr 100003 bu ad,.arr 100004 cv ad]⟩
abbrev Ve:SPat:=⟨[(3,.ptr 3 0),(4,.ptr 4 0)],[.box 3 (pl wy),.box 4 (pl dj),.box 100000 (pl gP),.arr 100001 cz ad,.arr 100002 (.int .i64) ad,.arr 100003 bu ad,.arr 100004 cv ad]⟩
def Vf:Nat->Option SPat:=fun k=>bif k==1000003 then U Vd else bif k==2000000 then U Ve else aj
def Vg:Nat->List Nat×bc:=fun id=>bif id==3 then(gQ,(.br 6 lA [0,1] [7] (.br 8 mh [] [] .fin .fin) .fin))else bif id==13 then([0,1,2,3,4,5,7,9],(.br 6 [5] [0,1,2,3,4,7,9] [] (.br 8 [7,6,5] [0,1,2,3,4,9] [] (.br 10 [9,8,7,6,5] [0,1,2,3,4] [11] (.br 12 [11,10,9,8,7,6,5] [0,1,2,3,4] [13] (.br 14 [13,12,11,10,9,8,7,6,5] [0,1,2,3,4] [] (.br 15 BW [0] [16,17] (.br 18 sM [] [] .fin .fin) .fin) .fin) .fin) .fin) .fin) .fin))else bif id==15 then([0,1,2,3,4,5,7,9,11],(.br 6 [5] [0,1,2,3,4,7,9,11] [] (.br 8 [7,6,5] [0,1,2,3,4,9,11] [] (.br 10 [9,8,7,6,5] [0,1,2,3,4,11] [] (.br 12 [11,10,9,8,7,6,5] [0,1,2,3,4] [13] (.br 14 [13,12,11,10,9,8,7,6,5] [0,1,2,3,4] [] (.br 15 BW [0] [16,17] (.br 18 sM [] [] .fin .fin) .fin) .fin) .fin) .fin) .fin) .fin))else([],.fin)
def xB:(Int×Int×Int)×(zBy×Int)×List Cst×List Int×List Fld×List Mth->Option ((Int×Int×Int)×(zBy×Int)×List Cst×List Int×List Fld×List Mth):=fun((a,b,c),(d,e),f,g,h,i)=>bindE (Y:=(Int×Int×Int)×Cls×(zBy×Int)×List Cst×List Int×List Fld×List Mth) (ah (aa ((i.length:Int)=0)) (U (ao ((a,b,c),(d,e),f,g,h,i))) (ai (cw (3,d,e)) fun(d,e,j)=>ah (aa (0<d)) (U (ao ((a,b,c),(e,j),f,g,h,i))) (U (an ((a,b,c),([],(0:Int),(0:Int),(0:Int),[],[],[]),(e,j),f,g,h,i))))) fun((a,b,c),(d,e,f,g,h,i,j),(k,l),m,n,o,p)=>ai (cw ((p.length:Int),k,l)) fun(k,l,q)=>af (aa (0<=k)&&aa (k<(p.length:Int))) (ai (cw (7,l,q)) fun(l,q,r)=>bindE (Y:=(Int×Int×Int)×Cls×(zBy×Int)×List Cst×List Int×List Fld×List Mth) (ah (aa (l=0)) (aq p k.toNat fun l=>ai (xA (l.2.2.2.2.2.1,q,r)) fun(l,q,r)=>aq p k.toNat fun s=>U (an ((a,b,c),(d,e,f,g,h,i,j),(q,r),m,n,o,List.set p k.toNat (s.1,s.2.1,s.2.2.1,s.2.2.2.1,s.2.2.2.2.1,l,s.2.2.2.2.2.2.1,s.2.2.2.2.2.2.2)))) (ah (aa (l=1)) (ai (ji ([(0:Int),1,8,9,(256:Int)],q,r)) fun(l,q,r)=>aq p k.toNat fun s=>U (an ((a,b,c),(d,e,f,g,h,i,j),(q,r),m,n,o,List.set p k.toNat (s.1,s.2.1,s.2.2.1,l,s.2.2.2.2.1,s.2.2.2.2.2.1,s.2.2.2.2.2.2.1,s.2.2.2.2.2.2.2)))) (ah (aa (l=2)) (ai (ji ([(0:Int),1,8,9,(256:Int)],q,r)) fun(l,q,r)=>aq p k.toNat fun s=>U (an ((a,b,c),(d,e,f,g,h,i,j),(q,r),m,n,o,List.set p k.toNat (s.1,s.2.1,s.2.2.1,s.2.2.2.1,l,s.2.2.2.2.2.1,s.2.2.2.2.2.2.1,s.2.2.2.2.2.2.2)))) (let s:=ak (af (aH k==aH k&&ad) (U ())) (ak (af (aH k==aH k&&ad) (U ())) (ak (af (aH k==aH k&&ad) (U ())) (ak (af (aH k==aH k&&ad) (U ())) (ak (af (aa (aH k=aH k)&&aa (aH k<p.length)) (af (aa (aH k=aH k)&&aa (aH k<p.length)) (af (aa (aH k=aH k)&&aa (aH k<p.length)) (U ())))) (U ())))));ah (aa (l=3)) (aq p k.toNat fun l=>af (aa (aH k=aH k)&&aa (aH k<p.length)) (af (aa (aH k=aH k)&&aa (aH k<p.length)) (af (aa (aH k=aH k)&&aa (aH k<p.length)) (ai (cw (8,q,r)) fun(q,r,t)=>ak s (ai (cw (5,r,t)) fun(r,t,u)=>ak s (ai (cw (3,t,u)) fun(t,u,v)=>ak s (ak s (ak s (af (aa (l.2.2.2.2.2.2.2.length+1<=9223372036854775807)&&aa ((l.2.2.2.2.2.2.2.length+1)*56<=140737488355328)) (ak (ak (af (aH k==aH k&&ad) (U ())) (U ())) (af (aa (aH k=aH k)&&aa (aH k<p.length)) (af (aa (aH k<p.length)) (U (an ((a,b,c),(d,e,f,g,h,i,j),(u,v),m,n,o,List.set p k.toNat (l.1,l.2.1,l.2.2.1,l.2.2.2.1,l.2.2.2.2.1,l.2.2.2.2.2.1,l.2.2.2.2.2.2.1,l.2.2.2.2.2.2.2++[(q,[(r,t)],[])])))))))))))))))) (ah (aa (l=4)) (aq p k.toNat fun l=>af (aa (aH k=aH k)&&aa (aH k<p.length)) (af (aa (aH k=aH k)&&aa (aH k<p.length)) (af (aa (aH k=aH k)&&aa (aH k<p.length)) (ai (cw (4,q,r)) fun(q,r,t)=>ak s (ai (cw (6,r,t)) fun(r,t,u)=>ak s (ai (cw (6,t,u)) fun(t,u,v)=>ak s (ai (cw (3,u,v)) fun(u,v,w)=>ak s (ak s (af (aa (l.2.2.2.2.2.2.1.length+1<=9223372036854775807)&&aa ((l.2.2.2.2.2.2.1.length+1)*32<=140737488355328)) (ak (ak (af (aH k==aH k&&ad) (U ())) (U ())) (af (aa (aH k=aH k)&&aa (aH k<p.length)) (af (aa (aH k<p.length)) (U (an ((a,b,c),(d,e,f,g,h,i,j),(v,w),m,n,o,List.set p k.toNat (l.1,l.2.1,l.2.2.1,l.2.2.2.1,l.2.2.2.2.1,l.2.2.2.2.2.1,l.2.2.2.2.2.2.1++[(q,r,t,u)],l.2.2.2.2.2.2.2)))))))))))))))) (ah (aa (l=5)) (ai (cw (16,q,r)) fun(l,q,r)=>aq p k.toNat fun s=>U (an ((a,b,c),(d,e,f,g,h,i,j),(q,r),m,n,o,List.set p k.toNat (l,s.2.1,s.2.2.1,s.2.2.2.1,s.2.2.2.2.1,s.2.2.2.2.2.1,s.2.2.2.2.2.2.1,s.2.2.2.2.2.2.2)))) (ai (cw ((m.length:Int),q,r)) fun(l,q,r)=>aq p k.toNat fun s=>U (an ((a,b,c),(d,e,f,g,h,i,j),(q,r),m,n,o,List.set p k.toNat (s.1,s.2.1,wrap .i64 ((1:Int)+l),s.2.2.2.1,s.2.2.2.2.1,s.2.2.2.2.2.1,s.2.2.2.2.2.2.1,s.2.2.2.2.2.2.2)))))))))) fun((a,b,c),(_,_,_,_,_,_,_),(d,e),f,g,h,i)=>U (((a,b,c),(d,e),f,g,h,i)))
def tb120:=ax 120 (az 120 ag [(0,[]),(1,[0]),(1,[4]),(1,[5]),(1,[6])] Vb Vc xB [.cell 4 34] 110 [100000,100001,100002,100003,100004]) tb54
def Vh:zTb tb120:=aB Va Vg Vf func120 rfl call120
abbrev Vi:SPat:=⟨[(0,.ptr 100000 0),(2,.ptr 2 0),(3,.ptr 3 0)],[.box 2 (pl dj),.box 3 (pl dj),.box 100000 (pl gP)]⟩
def Vj:Nat->Option SPat:=fun k=>bif k==2000000 then U Vi else aj
def Vk:Nat->List Nat×bc:=fun id=>bif id==7 then(nB,(.br 11 [10,9,8,7,6,5,4] [0,1,2,3] [] (.br 12 [11,10,9,8,7,6,5,4,3] [0,1,2] [13,14] (.br 15 oS [] [] .fin .fin) .fin) .fin))else bif id==9 then([0,1,2,3],(.br 4 [3] [0,1,2] [5,6] (.br 7 dw [] [] .fin .fin) .fin))else bif id==11 then([0,1,2,3],(.br 4 [] [0,1,2,3] [] (.br 5 [4,3] [0,1,2] [6,7] (.br 8 mh [] [] .fin .fin) .fin) .fin))else bif id==17 then(mf,(.br 7 [6,5,4,3] [0,1,2] [] (.br 8 [7,6,5,4,3,2] [0,1] [] (.br 9 ka [0,1] [] (.br 10 fu [] [11] (.br 12 eY [] [] .fin .fin) .fin) .fin) .fin) .fin))else bif id==19 then(jI,(.br 3 [2] [0,1,4,7] [] (.br 5 [] jI [] (.br 6 lA [0,1,7] [] (.br 8 [] jI [] (.br 9 ka [0,1] [10] (.br 11 mg [0,1] [] (.br 12 eY [] [13] (.br 14 eK [] [] .fin .fin) .fin) .fin) .fin) .fin) (.br 8 [] jI [] (.br 6 lA [0,1,7] [] (.br 9 ka [0,1] [10] (.br 11 mg [0,1] [] (.br 12 eY [] [13] (.br 14 eK [] [] .fin .fin) .fin) .fin) .fin) .fin) .fin)) (.br 8 [] jI [] (.br 5 [] jI [] (.br 6 lA [0,1,7] [] (.br 9 ka [0,1] [10] (.br 11 mg [0,1] [] (.br 12 eY [] [13] (.br 14 eK [] [] .fin .fin) .fin) .fin) .fin) .fin) .fin) .fin)) (.br 5 [] jI [] (.br 3 [2] [0,1,4,7] [] (.br 6 lA [0,1,7] [] (.br 8 [] jI [] (.br 9 ka [0,1] [10] (.br 11 mg [0,1] [] (.br 12 eY [] [13] (.br 14 eK [] [] .fin .fin) .fin) .fin) .fin) .fin) (.br 8 [] jI [] (.br 6 lA [0,1,7] [] (.br 9 ka [0,1] [10] (.br 11 mg [0,1] [] (.br 12 eY [] [13] (.br 14 eK [] [] .fin .fin) .fin) .fin) .fin) .fin) .fin)) (.br 8 [] jI [] (.br 3 [2] [0,1,4,7] [] (.br 6 lA [0,1,7] [] (.br 9 ka [0,1] [10] (.br 11 mg [0,1] [] (.br 12 eY [] [13] (.br 14 eK [] [] .fin .fin) .fin) .fin) .fin) .fin) .fin) .fin)) (.br 8 [] jI [] (.br 3 [2] [0,1,4,7] [] (.br 5 [] jI [] (.br 6 lA [0,1,7] [] (.br 9 ka [0,1] [10] (.br 11 mg [0,1] [] (.br 12 eY [] [13] (.br 14 eK [] [] .fin .fin) .fin) .fin) .fin) .fin) .fin) (.br 5 [] jI [] (.br 3 [2] [0,1,4,7] [] (.br 6 lA [0,1,7] [] (.br 9 ka [0,1] [10] (.br 11 mg [0,1] [] (.br 12 eY [] [13] (.br 14 eK [] [] .fin .fin) .fin) .fin) .fin) .fin) .fin) .fin)) .fin))))else bif id==21 then([0,1,2,4,6,9,11],(.br 3 [2] [0,1,4,6,9,11] [] (.br 5 [4,3,2] [0,1,6,9,11] [] (.br 7 [] [0,1,2,4,6,9,11] [] (.br 8 [7,6,5,4,3,2] [0,1,9,11] [] (.br 10 [9,8,7,6,5,4,3,2] [0,1,11] [] (.br 12 [11,10,9,8,7,6,5,4,3,2] [0,1] [13] (.br 14 BY [0,1] [] (.br 15 oS [] [16] (.br 17 iu [] [] .fin .fin) .fin) .fin) .fin) .fin) .fin) .fin) (.br 7 [] [0,1,2,4,6,9,11] [] (.br 5 [4,3,2] [0,1,6,9,11] [] (.br 8 [7,6,5,4,3,2] [0,1,9,11] [] (.br 10 [9,8,7,6,5,4,3,2] [0,1,11] [] (.br 12 [11,10,9,8,7,6,5,4,3,2] [0,1] [13] (.br 14 BY [0,1] [] (.br 15 oS [] [16] (.br 17 iu [] [] .fin .fin) .fin) .fin) .fin) .fin) .fin) .fin) .fin)) (.br 7 [] [0,1,2,4,6,9,11] [] (.br 3 [2] [0,1,4,6,9,11] [] (.br 5 [4,3,2] [0,1,6,9,11] [] (.br 8 [7,6,5,4,3,2] [0,1,9,11] [] (.br 10 [9,8,7,6,5,4,3,2] [0,1,11] [] (.br 12 [11,10,9,8,7,6,5,4,3,2] [0,1] [13] (.br 14 BY [0,1] [] (.br 15 oS [] [16] (.br 17 iu [] [] .fin .fin) .fin) .fin) .fin) .fin) .fin) .fin) .fin) .fin)))else([],.fin)
def xC:zBy×Int->Option ( Cls×zBy×Int):=fun(a,b)=>ai (tt (a,b)) fun((a,b,c,d,e,f,g),h,i)=>ah (aa ((a.length:Int)=0)) (U (((a,b,c,d,e,f,g),h,i))) (ai (cw ((a.length:Int),h,i)) fun(h,i,j)=>ai (cw (16,i,j)) fun(i,j,k)=>bindE (Y :=  Cls×Cls×zBy×Int) (ah (aa (i=0)) (ak (ak (af (aa (h=h)) (U ())) (U ())) (ai (ji ([(0:Int),(1:Int),(a.length:Int),wrap .i64 ((a.length:Int)+1),(65536:Int),(-1:Int)],j,k)) fun(i,j,k)=>ak (ak (af (aa (h=h)) (U ())) (U ())) (af (aa (0<=h)&&aa (h<(a.length:Int))) (aq a h.toNat fun l=>U (an (([],(0:Int),(0:Int),(0:Int),[],[],[]),(List.set a h.toNat (l.1,l.2.1,i,l.2.2.2),b,c,d,e,f,g),j,k)))))) (ah (aa (i=1)) (ai (cw (8,j,k)) fun(i,j,k)=>ak (ak (af (aa (h=h)) (U ())) (U ())) (af (aa (0<=h)&&aa (h<(a.length:Int))) (aq a h.toNat fun l=>U (an (([],(0:Int),(0:Int),(0:Int),[],[],[]),(List.set a h.toNat (i,l.2.1,l.2.2.1,l.2.2.2),b,c,d,e,f,g),j,k))))) (ah (aa (i=2)) (ak (ak (af (aa (h=h)) (U ())) (U ())) (ai (dL ([[],[(65:UInt8)],[(73:UInt8)],[(40:UInt8),41,86],[(49:UInt8)],[(76:UInt8),65,59]],j,k)) fun(i,j,k)=>ak (ak (af (aa (h=h)) (U ())) (U ())) (af (aa (0<=h)&&aa (h<(a.length:Int))) (aq a h.toNat fun l=>U (an (([],(0:Int),(0:Int),(0:Int),[],[],[]),(List.set a h.toNat (l.1,i,l.2.2.1,l.2.2.2),b,c,d,e,f,g),j,k)))))) (ah (aa (i=3)) (ai (cw (9,j,k)) fun(b,h,i)=>U (an (([],(0:Int),(0:Int),(0:Int),[],[],[]),(a,b,c,d,e,f,g),h,i))) (ah (aa (i=4)) (ai (ji ([(0:Int),c,1,(2:Int)],j,k)) fun(d,h,i)=>U (an (([],(0:Int),(0:Int),(0:Int),[],[],[]),(a,b,c,d,e,f,g),h,i))) (ah (aa (i=5)) (ai (ji ([c,d,0,(1:Int)],j,k)) fun(h,i,j)=>af (aa (e.length+1<=9223372036854775807)&&aa ((e.length+1)*8<=140737488355328)) (U (an (([],(0:Int),(0:Int),(0:Int),[],[],[]),(a,b,c,d,e++[h],f,g),i,j)))) (ah (aa (i=6)) (let a:=fun(h:Int) (i:zBy) (j:Int)=>ai (ji ([(1:Int),2,(5:Int)],i,j)) fun(i,j,k)=>ai (ji ([(1:Int),6,(8:Int)],j,k)) fun(j,k,l)=>af (aa (f.length+1<=9223372036854775807)&&aa ((f.length+1)*24<=140737488355328)) (U (an (([],(0:Int),(0:Int),(0:Int),[],[],[]),(a,b,c,d,e,f++[(h,i,j)],g),k,l)));cm (ai (cw (5,j,k)) fun(b,c,d)=>cm (cm (a b c d) (a b c d)) (a b c d)) (cm (cm (ai (cw (5,j,k)) fun(b,c,d)=>cm (a b c d) (a b c d)) (ai (cw (5,j,k)) fun(b,c,d)=>a b c d)) (cm (ai (cw (5,j,k)) fun(b,c,d)=>a b c d) (ai (cw (5,j,k)) fun(b,c,d)=>a b c d)))) (ah (aa (i=7)) (let a:=fun(h:Int) (i:zBy) (j:Int)=>ai (cw (20,i,j)) fun(i,j,k)=>ai (dL ([[],[(32:UInt8)],[(0:UInt8)]],j,k)) fun(j,k,l)=>ai (cw (10,k,l)) fun(k,l,m)=>ai (cw (10,l,m)) fun(l,m,n)=>af (aa (g.length+1<=9223372036854775807)&&aa ((g.length+1)*104<=140737488355328)) (U (an (([],(0:Int),(0:Int),(0:Int),[],[],[]),(a,b,c,d,e,f,g++[(h,(1:Int),i,k,l,j,[],[])]),m,n)));cm (ai (cw (17,j,k)) fun(b,c,d)=>cm (a b c d) (a b c d)) (ai (cw (17,j,k)) fun(b,c,d)=>a b c d)) (U (an (([],(0:Int),(0:Int),(0:Int),[],[],[]),(a,b,c,d,e,f,g),j,k))))))))))) fun((_,_,_,_,_,_,_),(a,b,c,d,e,f,g),h,i)=>ai (xB ((b,c,d),(h,i),a,e,f,g)) fun((a,b,c),(d,e),f,g,h,i)=>U (((f,a,b,c,g,h,i),d,e)))
def tb50:=ax 50 (az 50 ag [(0,[])] Ch II xC [.cell 2 34] 120 [100000]) tb120
def Vl:zTb tb50:=aB Vh Vk Vj func50 rfl call50
abbrev Vm:SPat:=⟨[(2,.ptr 2 0),(3,.i .i64)],[.box 2 (pl dj)]⟩
abbrev Vn:SPat:=⟨[(2,.ptr 2 0),(4,.ptr 7 0),(5,.ptr 5 0)],[.box 2 (pl dj),.box 5 (pl dj),.box 7 (pl gP)]⟩
def Vo:Nat->Option SPat:=fun k=>bif k==1000005 then U Vn else aj
def Vp:Nat->List Nat×bc:=fun id=>bif id==5 then(gQ,(.br 6 lA [0,1] [] (.br 7 [6,5,4,3,2,1] [0] [] (.br 8 mh [] [] (.br 9 gR [] [] .fin .fin) .fin) .fin) .fin))else([],.fin)
def xD:zBy->Option (Int×Cls):=fun a=>
 ai (wC a) fun(a,b)=>
 ai (tt (a,b)) fun((a,b,c,d,e,f,g),h,i)=>
 bindE (Y :=  Cls×Cls×zBy×Int) (ai (cw (6,h,i)) fun(h,i,j)=>
 ah (aa (h=0))
 (ai (xC (i,j)) fun((a,b,c,d,e,f,g),h,i)=>
 U (an (([],(0:Int),(0:Int),(0:Int),[],[],[]),(a,b,c,d,e,f,g),h,i)))
 (U (an (([],(0:Int),(0:Int),(0:Int),[],[],[]),(a,b,c,d,e,f,g),i,j)))) fun((_,_,_,_,_,_,_),(a,b,c,d,e,f,g),h,i)=>
 ak (ak (af (aa (b=b)&&(aa (c=c)&&(aa (d=d)&&ad))) (U ())) (U ())) (ai (ji ([(0:Int),(0:Int),(1:Int),(2:Int),wrap .i64 ((g.length:Int)-1),(-1:Int),(6:Int)],h,i)) fun(h,_,_)=>
 ak (ak (af (aa (b=b)&&(aa (c=c)&&(aa (d=d)&&ad))) (U ())) (U ())) (U ((h,a,b,c,d,e,f,g))))
def tb40:=ax 40 (az 40 ad [] sT Vm xD [.cell 2 34,.tmp 3] 23 []) tb50
def Vq:zTb tb40:=aB Vl Vp Vo func40 rfl call40
abbrev Vr:SPat:=⟨[(1,.ptr 1 0),(32,.sl cz),(33,.i .i64),(34,.i .i64)],iy⟩
abbrev Ci:SPat:=⟨[(44,.sl cv),(45,.i .i64),(46,.i .i64)],[]⟩
abbrev IJ:SPat:=⟨[(44,.sl cv),(45,.i .i64),(46,.i .i64),(67,.sl de),(68,.i .i64),(69,.i .i64)],[]⟩
abbrev qH:SPat:=⟨[(1,.ptr 1 0)],iy⟩
abbrev Vs:SPat:=⟨[(6,.ptr 6 0),(44,.sl cv),(45,.i .i64),(46,.i .i64)],[.box 6 (pl cB)]⟩
def Vt:Nat->Option SPat:=fun k=>bif k==4 then U Vr else bif k==10 then U Ci else bif k==15 then U IJ else bif k==1000003 then U qH else bif k==1000014 then U Vs else bif k==2000000 then U qH else bif k==2000002 then U dD else bif k==2000003 then U Ci else bif k==2000004 then U Ci else bif k==2000005 then U IJ else aj
def xE:Cls->Option Bool:=fun(a,b,c,d,e,f,g)=>
 bindE (Y:=Cls) (ah (aa (60<(a.length:Int)))
 (U (ao ag))
 (ah (aa (3<(e.length:Int)))
 (U (ao ag))
 (ah (aa (5<(f.length:Int)))
 (U (ao ag))
 (ah (aa (6<(g.length:Int)))
 (U (ao ag))
 (U (an (a,b,c,d,e,f,g))))))) fun(a,b,c,d,e,f,g)=>
 bindE (Y:=Cls) (aD (fun(a,b,c,d,e,f,g,h,i,j)=>
 ah (aa (c<b))
 (af (aa (0<=c)) (aq a c.toNat fun k=>ah (aa (255<(k.2.1.length:Int)))
 (U (ao (ao ag)))
 (U (an (a,b,wrap .i64 (c+1),d,e,f,g,h,i,j)))))
 (U (ao (an (d,e,f,g,h,i,j))))) ((a,(a.length:Int),(0:Int),a,b,c,d,e,f,g))) fun(_,_,_,_,_,_,a)=>
 bindE (aD (fun(a,b,c)=>
 ah (aa (c<b))
 (bindE (Y:=List Mth×Int×Int) (af (aa (0<=c)) (aq a c.toNat fun d=>bindE (Y:=List Mth×Int×Int×Mth) (ah (aa (120<(d.2.2.2.2.2.1.length:Int)))
 (U (ao (ao (ao (ao ag)))))
 (ah (aa (3<(d.2.2.2.2.2.2.1.length:Int)))
 (U (ao (ao (ao (ao ag)))))
 (ah (aa (8<(d.2.2.2.2.2.2.2.length:Int)))
 (U (ao (ao (ao (ao ag)))))
 (U (an (a,b,c,d.1,d.2.1,d.2.2.1,d.2.2.2.1,d.2.2.2.2.1,d.2.2.2.2.2.1,d.2.2.2.2.2.2.1,d.2.2.2.2.2.2.2)))))) fun(a,b,c,_,_,_,_,_,_,_,d)=>
 bindE (Y:=List Mth×Int×Int) (aD (fun(a,b,c,d,e,f)=>
 ah (aa (f<e))
 (bindE (Y:=List Mth×Int×Int×List Frm×Int×Int) (af (aa (0<=f)) (aq d f.toNat fun g=>ah (aa (8<(g.2.1.length:Int)))
 (U (ao (ao (ao (ao (ao (ao ag)))))))
 (ah (aa (8<(g.2.2.length:Int)))
 (U (ao (ao (ao (ao (ao (ao ag)))))))
 (U (an (a,b,c,d,e,f)))))) fun(a,b,c,d,e,f)=>
 U (an (a,b,c,d,e,wrap .i64 (f+1))))
 (U (ao (an (a,b,c))))) ((a,b,c,d,(d.length:Int),(0:Int)))) fun(a,b,c)=>
 U (an (a,b,c)))) fun(a,b,c)=>
 U (an (a,b,wrap .i64 (c+1))))
 (U (ao (an ())))) ((a,(a.length:Int),(0:Int)))) fun _=>
 U (ad)
def tb66:=ax 66 (az 66 ad [] iz eZ xE [.tmp 2] 85 []) tb40
def Vu:zTb tb66:=aB Vq aL Vt func66 rfl call66
def ef:Int->Option zBy:=fun a=>
 af (aa (0<=wrap .u8 a)&&aa (wrap .u8 a<=255)) (U ([UInt8.ofNat (aH (wrap .u8 a))]))
def tb144:=ax 144 (az 144 ad [] gU fG ef [.tmp 2] 7 []) tb66
def Vv:zTb tb144:=aB Vu aL aU func144 rfl call144
def eR:Int->Option zBy:=fun a=>
 ai (ef (Int.fdiv a 256)) fun b=>
 ai (ef a) fun a=>
 af (aa (b.length+a.length<=9223372036854775807)) (U (b++a))
def tb145:=ax 145 (az 145 ad [] gU fG eR [.tmp 2] 9 []) tb144
def Vw:zTb tb145:=aB Vv aL aU func145 rfl call145
def kf:Int->Option Bool:=fun a=>
 U (!aa (dA IntKind.i64 a (8:Int)=0))
def tb86:=ax 86 (az 86 ad [] gU eZ kf [.tmp 2] 6 []) tb145
def Vx:zTb tb86:=aB Vw aL aU func86 rfl call86
abbrev IK:SPat:=⟨[(3,.s),(9,.sl dc),(10,.i .i64),(11,.i .i64)],[]⟩
def Vy:Nat->Option SPat:=fun k=>bif k==3 then U IK else bif k==2000000 then U qC else bif k==2000001 then U IK else aj
def tu:List Knd->Option zBy:=fun a=>
 ai (ef a.length) fun b=>
 bindE (Y:=zBy) (aD (fun(a,b,c,d)=>
 ah (aa (d<c))
 (bindE (Y:=zBy×List Knd×Int×Int) (af (aa (0<=d)) (aq b d.toNat fun e=>ai (ef e.1) fun f=>
 af (aa (a.length+f.length<=9223372036854775807)) (ah (aa (e.1=3))
 (ai (eR e.2) fun e=>
 af (aa (au (a++f)+e.length<=9223372036854775807)) (U (an (a++f++e,b,c,d))))
 (U (an (a++f,b,c,d)))))) fun(a,b,c,d)=>
 U (an (a,b,c,wrap .i64 (d+1))))
 (U (ao (an a)))) ((b,a,(a.length:Int),(0:Int)))) fun a=>
 U (a)
def tb146:=ax 146 (az 146 ad [] B9 fG tu [.tmp 2] 30 []) tb86
def Vz:zTb tb146:=aB Vx aL Vy func146 rfl call146
abbrev IL:SPat:=⟨[(1,.ptr 1 0),(3,.s),(22,.sl cz),(23,.i .i64),(24,.i .i64)],iy⟩
abbrev VA:SPat:=⟨[(1,.ptr 1 0),(3,.s),(82,.sl (.int .i64)),(83,.i .i64),(84,.i .i64)],iy⟩
abbrev VB:SPat:=⟨[(1,.ptr 1 0),(3,.s),(100,.sl bu),(101,.i .i64),(102,.i .i64)],iy⟩
abbrev Cj:SPat:=⟨[(3,.s),(127,.sl cv),(128,.i .i64),(129,.i .i64)],[]⟩
abbrev VC:SPat:=⟨[(3,.s),(11,.ptr 11 0),(127,.sl cv),(128,.i .i64),(129,.i .i64),(172,.sl gO),(173,.i .i64),(174,.i .i64)],[.box 11 (pl cB)]⟩
abbrev VD:SPat:=⟨[(3,.s),(127,.sl cv),(128,.i .i64),(129,.i .i64),(203,.sl de),(204,.i .i64),(205,.i .i64)],[]⟩
abbrev VE:SPat:=⟨[(3,.s),(11,.ptr 11 0),(127,.sl cv),(128,.i .i64),(129,.i .i64)],[.box 11 (pl cB)]⟩
def VF:Nat->Option SPat:=fun k=>bif k==3 then U IL else bif k==15 then U VA else bif k==21 then U VB else bif k==27 then U Cj else bif k==33 then U VC else bif k==39 then U VD else bif k==2000000 then U mu else bif k==2000002 then U IL else bif k==2000003 then U mu else bif k==2000005 then U mu else bif k==2000007 then U qC else bif k==2000008 then U Cj else bif k==2000009 then U VE else bif k==2000011 then U Cj else aj
def VG:Nat->List Nat×bc:=fun id=>bif id==9 then([0,1,2,3,5,6],(.br 4 [3,2,1] [0,5,6] [7,8] (.br 9 gR [] [] .fin .fin) .fin))else bif id==7 then([0,1,2,4,5],(.br 3 [2,1] [0,4,5] [] (.br 6 mi [0] [7,8] (.br 9 gR [] [] .fin .fin) .fin) .fin))else bif id==13 then([0,1,2,4,5,8,9,12,13,14],(.br 3 [2,1] [0,4,5,8,9,12,13,14] [] (.br 6 mi [0,8,9,12,13,14] [7] (.br 10 sO [0,12,13,14,7] [11] (.br 15 [14,13,12,10,9,8,6,5,4,3,2,1] [0,7,11] [16,17] (.br 18 sM [] [] .fin .fin) .fin) .fin) .fin) .fin))else bif id==23 then([0,1,2,4,5,8,9],(.br 3 [2,1] [0,4,5,8,9] [] (.br 6 mi [0,8,9] [7] (.br 10 sO [0,7] [11,12] (.br 13 iP [] [] .fin .fin) .fin) .fin) .fin))else bif id==29 then([0,1,2,4,5,8,9],(.br 3 [2,1] [0,4,5,8,9] [] (.br 6 mi [0,8,9] [7] (.br 10 sO [0,7] [11,12] (.br 13 iP [] [] .fin .fin) .fin) .fin) .fin))else bif id==31 then([0,1,2,4,5,8,9,10,13,14,16,17,18],(.br 3 [2,1] [0,4,5,8,9,10,13,14,16,17,18] [] (.br 6 mi [0,8,9,10,13,14,16,17,18] [7] (.br 11 [10,9,8,6,5,4,3,2,1] [0,13,14,16,17,18,7] [12,15] (.br 19 [18,17,16,11,10,9,8,6,5,4,3,2,1] [0,13,14,7,12,15] [20,21] (.br 22 wu [] [] .fin .fin) .fin) .fin) .fin) .fin))else bif id==35 then([0,1,2,4,5,8,9,12,13],(.br 3 [2,1] [0,4,5,8,9,12,13] [] (.br 6 mi [0,8,9,12,13] [7] (.br 10 sO [0,12,13,7] [11] (.br 14 [13,12,10,9,8,6,5,4,3,2,1] [0,7,11] [15,16] (.br 17 iu [] [] .fin .fin) .fin) .fin) .fin) .fin))else bif id==41 then([0,1,2,4,5,8,9],(.br 3 [2,1] [0,4,5,8,9] [] (.br 6 mi [0,8,9] [7] (.br 10 sO [0,7] [11,12] (.br 13 iP [] [] .fin .fin) .fin) .fin) .fin))else([],.fin)
def xF:Cls->Option zBy:=fun(a,b,c,d,e,f,g)=>ai (ef a.length) fun h=>af (aa ((4:Nat)+h.length<=9223372036854775807)) (bindE (Y:=zBy×Cls) (aD (fun(a,b,c,d,e,f,g,h,i,j,k)=>ah (aa (d<c)) (af (aa (0<=d)) (aq b d.toNat fun l=>ai (ef l.1) fun m=>af (aa (a.length+m.length<=9223372036854775807)) (bindE (Y:=zBy×List Cst×Int×Int×Cls) (ah (aa (l.1=1)) (ai (ef l.2.1.length) fun n=>ak (ak (af (aa (a++m=a++m)) (U ())) (ak (af (aa (l.2.1=l.2.1)) (U ())) (U ()))) (af (aa (n.length+l.2.1.length<=9223372036854775807)) (af (aa (au (a++m)+au (n++l.2.1)<=9223372036854775807)) (U (an (a++m++(n++l.2.1),b,c,d,e,f,g,h,i,j,k)))))) (ah (aa (l.1=2)) (ai (eR l.2.2.1) fun l=>af (aa (au (a++m)+l.length<=9223372036854775807)) (U (an (a++m++l,b,c,d,e,f,g,h,i,j,k)))) (ai (eR l.2.2.1) fun n=>ak (ak (af (aa (a++m=a++m)) (U ())) (ak (af (aa (l.2.2.2=l.2.2.2)) (U ())) (U ()))) (ai (eR l.2.2.2) fun l=>ak (ak (af (aa (a++m=a++m)) (U ())) (U ())) (af (aa (n.length+l.length<=9223372036854775807)) (af (aa (au (a++m)+au (n++l)<=9223372036854775807)) (U (an (a++m++(n++l),b,c,d,e,f,g,h,i,j,k))))))))) fun(a,b,c,d,e,f,g,h,i,j,k)=>U (an (a,b,c,wrap .i64 (d+1),e,f,g,h,i,j,k))))) (U (ao (an (a,e,f,g,h,i,j,k))))) (([(83:UInt8),84,79,87]++h,a,(a.length:Int),(0:Int),a,b,c,d,e,f,g))) fun(a,b,c,d,e,f,g,h)=>ai (ef c) fun i=>ak (ak (af (aa (a=a)) (U ())) (ak (af (aa (d=d)) (U ())) (ak (af (aa (e=e)) (U ())) (ak (af (aa (f=f)) (U ())) (ak (af (aa ((f.length:Int)=(f.length:Int))) (U ())) (U ())))))) (ai (eR d) fun j=>ak (ak (af (aa (a=a)) (U ())) (ak (af (aa (e=e)) (U ())) (ak (af (aa (f=f)) (U ())) (ak (af (aa ((f.length:Int)=(f.length:Int))) (U ())) (U ()))))) (af (aa (i.length+j.length<=9223372036854775807)) (ai (eR e) fun k=>ak (ak (af (aa (a=a)) (U ())) (ak (af (aa (f=f)) (U ())) (ak (af (aa ((f.length:Int)=(f.length:Int))) (U ())) (ak (af (aa (i.length+j.length<=9223372036854775807)) (af (aa (i++j=i++j)) (U ()))) (U ()))))) (af (aa (au (i++j)+k.length<=9223372036854775807)) (ai (ef f.length) fun l=>ak (ak (af (aa (a=a)) (U ())) (ak (af (aa (i.length+j.length<=9223372036854775807)) (af (aa (i++j=i++j)) (U ()))) (ak (af (aa (au (i++j)+k.length<=9223372036854775807)) (af (aa (i++j++k=i++j++k)) (U ()))) (U ())))) (af (aa (au (i++j++k)+l.length<=9223372036854775807)) (af (aa (a.length+au (i++j++k++l)<=9223372036854775807)) (bindE (Y:=zBy×Cls) (aD (fun(a,b,c,d,e,f,g,h,i,j,k)=>ah (aa (d<c)) (af (aa (0<=d)) (aq b d.toNat fun l=>ai (eR l) fun l=>af (aa (a.length+l.length<=9223372036854775807)) (U (an (a++l,b,c,wrap .i64 (d+1),e,f,g,h,i,j,k))))) (U (ao (an (a,e,f,g,h,i,j,k))))) ((a++(i++j++k++l),f,(f.length:Int),(0:Int),b,c,d,e,f,g,h))) fun(a,b,c,d,e,f,g,h)=>ai (ef g.length) fun i=>af (aa (a.length+i.length<=9223372036854775807)) (bindE (Y:=zBy×Cls) (aD (fun(a,b,c,d,e,f,g,h,i,j,k)=>ah (aa (d<c)) (af (aa (0<=d)) (aq b d.toNat fun l=>ai (ef l.1) fun m=>ak (ak (af (aa (a=a)) (U ())) (ak (af (aa (l.2.1=l.2.1)) (U ())) (ak (af (aa (l.2.2=l.2.2)) (U ())) (U ())))) (ai (eR l.2.1) fun n=>ak (ak (af (aa (a=a)) (U ())) (ak (af (aa (l.2.2=l.2.2)) (U ())) (U ()))) (af (aa (m.length+n.length<=9223372036854775807)) (ai (eR l.2.2) fun l=>ak (ak (af (aa (a=a)) (U ())) (ak (af (aa (m.length+n.length<=9223372036854775807)) (af (aa (m++n=m++n)) (U ()))) (U ()))) (af (aa (au (m++n)+l.length<=9223372036854775807)) (af (aa (a.length+au (m++n++l)<=9223372036854775807)) (U (an (a++(m++n++l),b,c,wrap .i64 (d+1),e,f,g,h,i,j,k)))))))))) (U (ao (an (a,e,f,g,h,i,j,k))))) ((a++i,g,(g.length:Int),(0:Int),b,c,d,e,f,g,h))) fun(a,_,_,_,_,_,_,b)=>ai (ef b.length) fun c=>af (aa (a.length+c.length<=9223372036854775807)) (bindE (Y:=zBy) (aD (fun(a,b,c,d)=>ah (aa (d<c)) (bindE (Y:=zBy×List Mth×Int×Int) (af (aa (0<=d)) (aq b d.toNat fun e=>ai (ef e.1) fun f=>ak (ak (af (aa (a=a)) (U ())) (ak (af (aa (e.2.1=e.2.1)) (U ())) (ak (af (aa (e.2.2.1=e.2.2.1)) (U ())) (U ())))) (ai (eR e.2.1) fun g=>ak (ak (af (aa (a=a)) (U ())) (ak (af (aa (e.2.2.1=e.2.2.1)) (U ())) (U ()))) (af (aa (f.length+g.length<=9223372036854775807)) (ai (eR e.2.2.1) fun h=>ak (ak (af (aa (a=a)) (U ())) (ak (af (aa (f.length+g.length<=9223372036854775807)) (af (aa (f++g=f++g)) (U ()))) (U ()))) (af (aa (au (f++g)+h.length<=9223372036854775807)) (af (aa (a.length+au (f++g++h)<=9223372036854775807)) (ai (kf e.1) fun i=>ah i (U (an (a++(f++g++h),b,c,d))) (ai (ef e.2.2.2.1) fun i=>let j:=af (aa ((e.2.2.2.2.2.2.1.length:Int)=(e.2.2.2.2.2.2.1.length:Int))) (U ());let k:=ak (af (aa (e.2.2.2.2.2.1=e.2.2.2.2.2.1)) (U ())) (ak (af (aa ((e.2.2.2.2.2.1.length:Int)=(e.2.2.2.2.2.1.length:Int))) (U ())) (ak (af (aa (e.2.2.2.2.2.1=e.2.2.2.2.2.1)) (U ())) (ak (af (aa (e.2.2.2.2.2.2.1=e.2.2.2.2.2.2.1)) (U ())) (ak j (U ())))));ak (ak (af (aa (a++(f++g++h)=a++(f++g++h))) (U ())) (ak (af (aa (e.2.2.2.2.1=e.2.2.2.2.1)) (U ())) k)) (ai (ef e.2.2.2.2.1) fun l=>ak (ak (af (aa (a++(f++g++h)=a++(f++g++h))) (U ())) k) (af (aa (i.length+l.length<=9223372036854775807)) (ai (eR e.2.2.2.2.2.1.length) fun k=>ak (ak (af (aa (a++(f++g++h)=a++(f++g++h))) (U ())) (ak (af (aa (e.2.2.2.2.2.1=e.2.2.2.2.2.1)) (U ())) (ak (af (aa (e.2.2.2.2.2.2.1=e.2.2.2.2.2.2.1)) (U ())) (ak j (ak (af (aa (i.length+l.length<=9223372036854775807)) (af (aa (i++l=i++l)) (U ()))) (U ())))))) (af (aa (au (i++l)+k.length<=9223372036854775807)) (af (aa (au (i++l++k)+e.2.2.2.2.2.1.length<=9223372036854775807)) (ai (ef e.2.2.2.2.2.2.1.length) fun j=>ak (ak (af (aa (a++(f++g++h)=a++(f++g++h))) (U ())) (ak (af (aa (e.2.2.2.2.2.1=e.2.2.2.2.2.1)) (U ())) (ak (af (aa (i.length+l.length<=9223372036854775807)) (af (aa (i++l=i++l)) (U ()))) (ak (af (aa (au (i++l)+k.length<=9223372036854775807)) (af (aa (i++l++k=i++l++k)) (U ()))) (ak (af (aa (au (i++l++k)+e.2.2.2.2.2.1.length<=9223372036854775807)) (af (aa (i++l++k++e.2.2.2.2.2.1=i++l++k++e.2.2.2.2.2.1)) (U ()))) (U ())))))) (af (aa (au (i++l++k++e.2.2.2.2.2.1)+j.length<=9223372036854775807)) (af (aa (au (a++(f++g++h))+au (i++l++k++e.2.2.2.2.2.1++j)<=9223372036854775807)) (bindE (Y:=zBy×List Mth×Int×Int×Mth) (aD (fun(a,b,c,d,e,f,g,h,i,j,k,l,m,n,o)=>ah (aa (g<f)) (af (aa (0<=g)) (aq e g.toNat fun p=>ai (eR p.1) fun q=>let r:=ak (af (aa (p.2.2.1=p.2.2.1)) (U ())) (ak (af (aa (p.2.2.2=p.2.2.2)) (U ())) (U ()));ak (ak (af (aa (a=a)) (U ())) (ak (af (aa (p.2.1=p.2.1)) (U ())) r)) (ai (eR p.2.1) fun s=>ak (ak (af (aa (a=a)) (U ())) r) (af (aa (q.length+s.length<=9223372036854775807)) (ai (eR p.2.2.1) fun r=>ak (ak (af (aa (a=a)) (U ())) (ak (af (aa (p.2.2.2=p.2.2.2)) (U ())) (ak (af (aa (q.length+s.length<=9223372036854775807)) (af (aa (q++s=q++s)) (U ()))) (U ())))) (af (aa (au (q++s)+r.length<=9223372036854775807)) (ai (eR p.2.2.2) fun p=>ak (ak (af (aa (a=a)) (U ())) (ak (af (aa (q.length+s.length<=9223372036854775807)) (af (aa (q++s=q++s)) (U ()))) (ak (af (aa (au (q++s)+r.length<=9223372036854775807)) (af (aa (q++s++r=q++s++r)) (U ()))) (U ())))) (af (aa (au (q++s++r)+p.length<=9223372036854775807)) (af (aa (a.length+au (q++s++r++p)<=9223372036854775807)) (U (an (a++(q++s++r++p),b,c,d,e,f,wrap .i64 (g+1),h,i,j,k,l,m,n,o)))))))))))) (U (ao (an (a,b,c,d,h,i,j,k,l,m,n,o))))) ((a++(f++g++h)++(i++l++k++e.2.2.2.2.2.1++j),b,c,d,e.2.2.2.2.2.2.1,(e.2.2.2.2.2.2.1.length:Int),(0:Int),e.1,e.2.1,e.2.2.1,e.2.2.2.1,e.2.2.2.2.1,e.2.2.2.2.2.1,e.2.2.2.2.2.2.1,e.2.2.2.2.2.2.2))) fun(a,b,c,d,_,_,_,_,_,_,_,e)=>ai (ef e.length) fun f=>af (aa (a.length+f.length<=9223372036854775807)) (bindE (Y:=zBy×List Mth×Int×Int) (aD (fun(a,b,c,d,e,f,g)=>ah (aa (g<f)) (af (aa (0<=g)) (aq e g.toNat fun h=>ai (eR h.1) fun i=>ak (ak (af (aa (a=a)) (U ())) (ak (af (aa (h.2.1=h.2.1)) (U ())) (ak (af (aa (h.2.2=h.2.2)) (U ())) (U ())))) (ai (tu h.2.1) fun j=>ak (ak (af (aa (a=a)) (U ())) (ak (af (aa (h.2.2=h.2.2)) (U ())) (U ()))) (af (aa (i.length+j.length<=9223372036854775807)) (ai (tu h.2.2) fun h=>ak (ak (af (aa (a=a)) (U ())) (ak (af (aa (i.length+j.length<=9223372036854775807)) (af (aa (i++j=i++j)) (U ()))) (U ()))) (af (aa (au (i++j)+h.length<=9223372036854775807)) (af (aa (a.length+au (i++j++h)<=9223372036854775807)) (U (an (a++(i++j++h),b,c,d,e,f,wrap .i64 (g+1))))))))))) (U (ao (an (a,b,c,d))))) ((a++f,b,c,d,e,(e.length:Int),(0:Int)))) fun(a,b,c,d)=>U (an (a,b,c,d))))))))))))))))))))) fun(a,b,c,d)=>U (an (a,b,c,wrap .i64 (d+1)))) (U (ao (an a)))) ((a++c,b,(b.length:Int),(0:Int)))) fun a=>U a)))))))))))
def tb67:=ax 67 (az 67 ad [] iz fG xF [.tmp 2] 225 []) tb146
def VH:zTb tb67:=aB Vz VG VF func67 rfl call67
abbrev VI:SPat:=⟨[(0,.ptr 100000 0),(1,.i .i64)],[.box 100000 (pl eM)]⟩
abbrev VJ:SPat:=⟨[(4,.s)],[.box 100000 (pl eM)]⟩
abbrev VK:SPat:=⟨[(0,.ptr 100000 0),(1,.i .i64),(18,.b)],[.box 100000 (pl eM)]⟩
def VL:Nat->Option SPat:=fun k=>bif k==1000002 then U VK else aj
def o9:Int×zBy×Bool->Option (zBy×zBy×Bool):=fun(a,b,c)=>
 bindE (Y:=Int×Bool×zBy×Bool) (ah (c)
 (U (an (a,ad,b,c)))
 (U (an (a,aa ((b.length:Int)<a),b,c)))) fun(a,b,c,d)=>
 ah (b)
 (U (([],c,ad)))
 (af (aa (0<=a)&&aa (a<=(c.length:Int))) (af (aa (0<=a)&&aa (a<=(c.length:Int))&&aa ((c.length:Int)<=(c.length:Int))) (U ((kZ (0:Nat) (nY a.toNat c),kZ a.toNat (nY (aH (c.length:Int)) c),d)))))
def tb57:=ax 57 (az 57 ag [(0,[])] VI VJ o9 [.tmp 4] 38 [100000]) tb67
def VM:zTb tb57:=aB VH aL VL func57 rfl call57
abbrev tv:SPat:=⟨[(0,.ptr 100000 0)],[.box 100000 (pl eM)]⟩
abbrev IM:SPat:=⟨[(2,.i .i64)],[.box 100000 (pl eM)]⟩
def e_:zBy×Bool->Option (Int×zBy×Bool):=fun(a,b)=>
 ai (o9 (1,a,b)) fun(a,b,c)=>
 ah (c)
 (U (((0:Int),b,c)))
 (aq a 0 fun a=>U ((wrap .i64 (a.toNat:Int),b,c)))
def tb59:=ax 59 (az 59 ag [(0,[])] tv IM e_ [.tmp 2] 13 [100000]) tb57
def VN:zTb tb59:=aB VM aL aU func59 rfl call59
abbrev VO:SPat:=⟨[(0,.ptr 100000 0),(1,.i .i64),(2,.i .i64)],[.box 100000 (pl eM)]⟩
abbrev VP:SPat:=⟨[(6,.i .i64)],[.box 100000 (pl eM)]⟩
def jj:Int×Int×zBy×Bool->Option (Int×zBy×Bool):=fun(a,b,c,d)=>
 ah (aa (b<a))
 (U (((0:Int),c,ad)))
 (U ((a,c,d)))
def tb58:=ax 58 (az 58 ag [(0,[])] VO VP jj [.tmp 6] 14 [100000]) tb59
def VQ:zTb tb58:=aB VN aL aU func58 rfl call58
def eU:zBy×Bool->Option (Int×zBy×Bool):=fun(a,b)=>
 ai (e_ (a,b)) fun(a,b,c)=>
 ai (e_ (b,c)) fun(b,c,d)=>
 U ((wrap .i64 (wrap .i64 ((256:Int)*a)+b),c,d))
def tb61:=ax 61 (az 61 ag [(0,[])] tv IM eU [.tmp 2] 11 [100000]) tb58
def VR:zTb tb61:=aB VQ aL aU func61 rfl call61
abbrev VS:SPat:=⟨[(2,.ptr 2 0)],[.box 2 (pl dC),.box 100000 (pl eM)]⟩
abbrev VT:SPat:=⟨[(0,.ptr 100000 0),(2,.ptr 2 0),(3,.ptr 3 0),(24,.b)],[.box 2 (pl dC),.box 3 (pl dC),.box 100000 (pl eM)]⟩
abbrev VU:SPat:=⟨[(2,.ptr 2 0),(3,.ptr 3 0)],[.box 2 (pl dC),.box 3 (pl dC),.box 100000 (pl eM)]⟩
def VV:Nat->Option SPat:=fun k=>bif k==1000012 then U VT else bif k==2000000 then U VU else aj
def xG:zBy×Bool->Option ( Cst×zBy×Bool):=fun(a,b)=>
 ai (e_ (a,b)) fun(a,b,c)=>
 bindE (Y :=  Cst×Cst×zBy×Bool) (ah (aa (a=1))
 (ai (e_ (b,c)) fun(b,c,d)=>
 ai (o9 (b,c,d)) fun(b,c,d)=>
 U (an (((0:Int),[],(0:Int),(0:Int)),(a,b,(0:Int),(0:Int)),c,d)))
 (ah (aa (a=2))
 (ai (eU (b,c)) fun(b,c,d)=>
 U (an (((0:Int),[],(0:Int),(0:Int)),(a,[],b,(0:Int)),c,d)))
 (bindE (Y:=Bool×Cst×Cst×zBy×Bool) (ah (aa (a=3))
 (U (an (ad,((0:Int),[],(0:Int),(0:Int)),(a,[],(0:Int),(0:Int)),b,c)))
 (ah (aa (a=4))
 (U (an (ad,((0:Int),[],(0:Int),(0:Int)),(a,[],(0:Int),(0:Int)),b,c)))
 (ah (aa (a=5))
 (U (an (ad,((0:Int),[],(0:Int),(0:Int)),(a,[],(0:Int),(0:Int)),b,c)))
 (U (an (aa (a=6),((0:Int),[],(0:Int),(0:Int)),(a,[],(0:Int),(0:Int)),b,c)))))) fun(a,(b,c,d,e),(f,g,h,i),j,k)=>
 ah (a)
 (ai (eU (j,k)) fun(a,h,i)=>
 ai (eU (h,i)) fun(h,i,j)=>
 U (an ((b,c,d,e),(f,g,a,h),i,j)))
 (U (an ((b,c,d,e),(f,g,h,i),j,ad)))))) fun((_,_,_,_),(a,b,c,d),e,f)=>
 U (((a,b,c,d),e,f))
def tb60:=ax 60 (az 60 ag [(0,[])] tv VS xG [.cell 2 27] 36 [100000]) tb61
def VW:zTb tb60:=aB VR aL VV func60 rfl call60
abbrev VX:SPat:=⟨[(2,.own dc ad)],[.box 100000 (pl eM)]⟩
abbrev Ck:SPat:=⟨[(0,.ptr 100000 0),(3,.own dc ad),(4,.i .i64)],[.box 100000 (pl eM)]⟩
abbrev VY:SPat:=⟨[(3,.own dc ad)],[.box 100000 (pl eM)]⟩
def VZ:Nat->Option SPat:=fun k=>bif k==3 then U Ck else bif k==1000005 then U Ck else bif k==2000000 then U VY else bif k==2000001 then U Ck else aj
def tw:zBy×Bool->Option (List Knd×zBy×Bool):=fun(a,b)=>
 ai (e_ (a,b)) fun(a,b,c)=>
 ai (jj (a,8,b,c)) fun(a,b,c)=>
 bindE (Y:=List Knd×zBy×Bool) (aD (fun(a,b,c,d)=>
 bindE (Y:=List Knd×Int×zBy×Bool) (ah (aa (0<b))
 (ah (!d)
 (U (an (a,b,c,d)))
 (U (ao (ao (an (a,c,d))))))
 (U (ao (ao (an (a,c,d)))))) fun(a,b,c,d)=>
 bindE (Y:=List Knd×Int×zBy×Bool) (ai (e_ (c,d)) fun(c,d,e)=>
 ai (jj (c,3,d,e)) fun(c,d,e)=>
 ah (aa (c=3))
 (ai (eU (d,e)) fun(d,e,f)=>
 af (aa (a.length+1<=9223372036854775807)&&aa ((a.length+1)*16<=140737488355328)) (U (an (a++[(c,d)],b,e,f))))
 (af (aa (a.length+1<=9223372036854775807)&&aa ((a.length+1)*16<=140737488355328)) (U (an (a++[(c,(0:Int))],b,d,e))))) fun(a,b,c,d)=>
 U (an (a,wrap .i64 (b-1),c,d))) (([],a,b,c))) fun(a,b,c)=>
 U ((a,b,c))
def tb141:=ax 141 (az 141 ag [(0,[])] tv VX tw [.tmp 2] 37 [100000]) tb60
def V0:zTb tb141:=aB VW aL VZ func141 rfl call141
abbrev V1:SPat:=⟨[(2,.ptr 2 0)],[.box 2 (pl iO),.box 100000 (pl eM)]⟩
abbrev IN:SPat:=⟨[(0,.ptr 100000 0),(2,.ptr 2 0),(3,.ptr 3 0),(4,.i .i64)],[.box 2 (pl iO),.box 3 (pl iO),.box 100000 (pl eM)]⟩
abbrev IP:SPat:=⟨[(0,.ptr 100000 0),(2,.ptr 2 0),(3,.ptr 3 0),(6,.i .i64)],[.box 2 (pl iO),.box 3 (pl iO),.box 100000 (pl eM)]⟩
abbrev V2:SPat:=⟨[(0,.ptr 100000 0),(2,.ptr 2 0),(3,.ptr 3 0)],[.box 2 (pl iO),.box 3 (pl iO),.box 100000 (pl eM)]⟩
abbrev V3:SPat:=⟨[(2,.ptr 2 0),(3,.ptr 3 0)],[.box 2 (pl iO),.box 3 (pl iO),.box 100000 (pl eM)]⟩
def V4:Nat->Option SPat:=fun k=>bif k==10 then U IN else bif k==18 then U IP else bif k==1000012 then U IN else bif k==1000020 then U IP else bif k==2000000 then U V2 else bif k==2000002 then U V3 else aj
def xH:zBy×Bool->Option ( Mth×zBy×Bool):=fun(a,b)=>
 ai (e_ (a,b)) fun(a,b,c)=>
 ai (eU (b,c)) fun(b,c,d)=>
 ai (eU (c,d)) fun(c,d,e)=>
 ai (kf a) fun f=>
 ah (f)
 (U (((a,b,c,(0:Int),(0:Int),[],[],[]),d,e)))
 (ai (e_ (d,e)) fun(d,e,f)=>
 ai (e_ (e,f)) fun(e,f,g)=>
 ai (eU (f,g)) fun(f,g,h)=>
 ai (jj (f,120,g,h)) fun(f,g,h)=>
 ai (o9 (f,g,h)) fun(f,g,h)=>
 ai (e_ (g,h)) fun(g,h,i)=>
 ai (jj (g,3,h,i)) fun(g,h,i)=>
 bindE (Y :=  Mth×Mth×zBy×Bool) (aD (fun(a,(b,c,d,e,f,g,h,i),(j,k,l,m,n,o,p,q),r,s)=>
 bindE (Y:=Int×Mth×Mth×zBy×Bool) (ah (aa (0<a))
 (ah (!s)
 (U (an (a,(b,c,d,e,f,g,h,i),(j,k,l,m,n,o,p,q),r,s)))
 (U (ao (ao (an ((b,c,d,e,f,g,h,i),(j,k,l,m,n,o,p,q),r,s))))))
 (U (ao (ao (an ((b,c,d,e,f,g,h,i),(j,k,l,m,n,o,p,q),r,s)))))) fun(a,(b,c,d,e,f,g,h,i),(j,k,l,m,n,o,p,q),r,s)=>
 ai (eU (r,s)) fun(r,s,t)=>
 ai (eU (s,t)) fun(s,t,u)=>
 ai (eU (t,u)) fun(t,u,v)=>
 ai (eU (u,v)) fun(u,v,w)=>
 af (aa (p.length+1<=9223372036854775807)&&aa ((p.length+1)*32<=140737488355328)) (U (an (wrap .i64 (a-1),(b,c,d,e,f,g,h,i),(j,k,l,m,n,o,p++[(r,s,t,u)],q),v,w)))) ((g,((0:Int),(0:Int),(0:Int),(0:Int),(0:Int),[],[],[]),(a,b,c,d,e,f,[],[]),h,i))) fun((a,b,c,d,e,f,g,h),(i,j,k,l,m,n,o,p),q,r)=>
 ai (e_ (q,r)) fun(q,r,s)=>
 ai (jj (q,8,r,s)) fun(q,r,s)=>
 bindE (Y :=  Mth×Mth×zBy×Bool) (aD (fun(a,(b,c,d,e,f,g,h,i),(j,k,l,m,n,o,p,q),r,s)=>
 bindE (Y:=Int×Mth×Mth×zBy×Bool) (ah (aa (0<a))
 (ah (!s)
 (U (an (a,(b,c,d,e,f,g,h,i),(j,k,l,m,n,o,p,q),r,s)))
 (U (ao (ao (an ((b,c,d,e,f,g,h,i),(j,k,l,m,n,o,p,q),r,s))))))
 (U (ao (ao (an ((b,c,d,e,f,g,h,i),(j,k,l,m,n,o,p,q),r,s)))))) fun(a,(b,c,d,e,f,g,h,i),(j,k,l,m,n,o,p,q),r,s)=>
 ai (eU (r,s)) fun(r,s,t)=>
 ai (tw (s,t)) fun(s,t,u)=>
 ai (tw (t,u)) fun(t,u,v)=>
 af (aa (q.length+1<=9223372036854775807)&&aa ((q.length+1)*56<=140737488355328)) (U (an (wrap .i64 (a-1),(b,c,d,e,f,g,h,i),(j,k,l,m,n,o,p,q++[(r,s,t)]),u,v)))) ((q,(a,b,c,d,e,f,g,h),(i,j,k,l,m,n,o,p),r,s))) fun((_,_,_,_,_,_,_,_),(a,b,c,d,e,f,g,h),i,j)=>
 U (((a,b,c,d,e,f,g,h),i,j)))
def tb62:=ax 62 (az 62 ag [(0,[])] tv V1 xH [.cell 2 53] 98 [100000]) tb141
def V5:zTb tb62:=aB V0 aL V4 func62 rfl call62
abbrev IQ:SPat:=⟨[(2,.ptr 2 0),(4,.ptr 17 0),(5,.ptr 5 0),(6,.i .i64)],[.box 2 (pl dj),.box 5 (pl dj),.box 17 (pl eM)]⟩
abbrev IR:SPat:=⟨[(2,.ptr 2 0),(4,.ptr 17 0),(5,.ptr 5 0),(7,.i .i64)],[.box 2 (pl dj),.box 5 (pl dj),.box 17 (pl eM)]⟩
abbrev IS:SPat:=⟨[(2,.ptr 2 0),(4,.ptr 17 0),(5,.ptr 5 0),(8,.i .i64)],[.box 2 (pl dj),.box 5 (pl dj),.box 17 (pl eM)]⟩
abbrev IT:SPat:=⟨[(2,.ptr 2 0),(4,.ptr 17 0),(5,.ptr 5 0),(10,.i .i64)],[.box 2 (pl dj),.box 5 (pl dj),.box 17 (pl eM)]⟩
abbrev xI:SPat:=⟨[(2,.ptr 2 0),(4,.ptr 17 0),(5,.ptr 5 0)],[.box 2 (pl dj),.box 5 (pl dj),.box 17 (pl eM)]⟩
def V6:Nat->Option SPat:=fun k=>bif k==8 then U IQ else bif k==15 then U IR else bif k==19 then U IS else bif k==26 then U IT else bif k==1000010 then U IQ else bif k==1000017 then U IR else bif k==1000021 then U IS else bif k==1000028 then U IT else bif k==2000000 then U xI else bif k==2000002 then U xI else bif k==2000004 then U xI else bif k==2000006 then U xI else aj
def V7:Nat->List Nat×bc:=fun id=>bif id==10 then([0,1,2],(.br 3 [2] [0,1] [] (.br 4 [3,2] [0,1] [] (.br 5 j_ [] [6] (.br 7 dw [] [] .fin .fin) .fin) .fin) .fin))else bif id==17 then([0,1,2],(.br 3 [2] [0,1] [] (.br 4 [3,2] [0,1] [] (.br 5 j_ [] [6] (.br 7 dw [] [] .fin .fin) .fin) .fin) .fin))else bif id==28 then([0,1,2],(.br 3 [2] [0,1] [] (.br 4 [3,2] [0,1] [] (.br 5 j_ [] [6] (.br 7 dw [] [] .fin .fin) .fin) .fin) .fin))else([],.fin)
def tz:zBy->Option (Bool×Cls):=fun a=>
 ah (aa (900<(a.length:Int)))
 (U ((ag,[],(0:Int),(0:Int),(0:Int),[],[],[])))
 (ai (o9 (4,a,ag)) fun(a,b,c)=>
 ah (!aa (a=[(83:UInt8),84,79,87]))
 (U ((ag,[],(0:Int),(0:Int),(0:Int),[],[],[])))
 (ai (e_ (b,c)) fun(a,b,c)=>
 ai (jj (a,60,b,c)) fun(a,b,c)=>
 bindE (Y :=  Cls×Cls×zBy×Bool) (aD (fun(a,(b,c,d,e,f,g,h),(i,j,k,l,m,n,o),p,q)=>
 bindE (Y:=Int×Cls×Cls×zBy×Bool) (ah (aa (0<a))
 (ah (!q)
 (U (an (a,(b,c,d,e,f,g,h),(i,j,k,l,m,n,o),p,q)))
 (U (ao (ao (an ((b,c,d,e,f,g,h),(i,j,k,l,m,n,o),p,q))))))
 (U (ao (ao (an ((b,c,d,e,f,g,h),(i,j,k,l,m,n,o),p,q)))))) fun(a,(b,c,d,e,f,g,h),(i,j,k,l,m,n,o),p,q)=>
 ai (xG (p,q)) fun((p,q,r,s),t,u)=>
 af (aa (i.length+1<=9223372036854775807)&&aa ((i.length+1)*40<=140737488355328)) (U (an (wrap .i64 (a-1),(b,c,d,e,f,g,h),(i++[(p,q,r,s)],j,k,l,m,n,o),t,u)))) ((a,([],(0:Int),(0:Int),(0:Int),[],[],[]),([],(0:Int),(0:Int),(0:Int),[],[],[]),b,c))) fun((a,b,c,d,e,f,g),(h,_,_,_,i,j,k),l,m)=>
 ai (e_ (l,m)) fun(l,m,n)=>
 ai (eU (m,n)) fun(m,n,o)=>
 ai (eU (n,o)) fun(n,o,p)=>
 ai (e_ (o,p)) fun(o,p,q)=>
 ai (jj (o,3,p,q)) fun(o,p,q)=>
 bindE (Y :=  Cls×Cls×zBy×Bool) (aD (fun(a,(b,c,d,e,f,g,h),(i,j,k,l,m,n,o),p,q)=>
 bindE (Y:=Int×Cls×Cls×zBy×Bool) (ah (aa (0<a))
 (ah (!q)
 (U (an (a,(b,c,d,e,f,g,h),(i,j,k,l,m,n,o),p,q)))
 (U (ao (ao (an ((b,c,d,e,f,g,h),(i,j,k,l,m,n,o),p,q))))))
 (U (ao (ao (an ((b,c,d,e,f,g,h),(i,j,k,l,m,n,o),p,q)))))) fun(a,(b,c,d,e,f,g,h),(i,j,k,l,m,n,o),p,q)=>
 ai (eU (p,q)) fun(p,q,r)=>
 af (aa (m.length+1<=9223372036854775807)&&aa ((m.length+1)*8<=140737488355328)) (U (an (wrap .i64 (a-1),(b,c,d,e,f,g,h),(i,j,k,l,m++[p],n,o),q,r)))) ((o,(a,b,c,d,e,f,g),(h,l,m,n,i,j,k),p,q))) fun((a,b,c,d,e,f,g),(h,i,j,k,l,m,n),o,p)=>
 ai (e_ (o,p)) fun(o,p,q)=>
 ai (jj (o,5,p,q)) fun(o,p,q)=>
 bindE (Y :=  Cls×Cls×zBy×Bool) (aD (fun(a,(b,c,d,e,f,g,h),(i,j,k,l,m,n,o),p,q)=>
 bindE (Y:=Int×Cls×Cls×zBy×Bool) (ah (aa (0<a))
 (ah (!q)
 (U (an (a,(b,c,d,e,f,g,h),(i,j,k,l,m,n,o),p,q)))
 (U (ao (ao (an ((b,c,d,e,f,g,h),(i,j,k,l,m,n,o),p,q))))))
 (U (ao (ao (an ((b,c,d,e,f,g,h),(i,j,k,l,m,n,o),p,q)))))) fun(a,(b,c,d,e,f,g,h),(i,j,k,l,m,n,o),p,q)=>
 ai (e_ (p,q)) fun(p,q,r)=>
 ai (eU (q,r)) fun(q,r,s)=>
 ai (eU (r,s)) fun(r,s,t)=>
 af (aa (n.length+1<=9223372036854775807)&&aa ((n.length+1)*24<=140737488355328)) (U (an (wrap .i64 (a-1),(b,c,d,e,f,g,h),(i,j,k,l,m,n++[(p,q,r)],o),s,t)))) ((o,(a,b,c,d,e,f,g),(h,i,j,k,l,m,n),p,q))) fun((a,b,c,d,e,f,g),(h,i,j,k,l,m,n),o,p)=>
 ai (e_ (o,p)) fun(o,p,q)=>
 ai (jj (o,6,p,q)) fun(o,p,q)=>
 bindE (Y :=  Cls×Cls×zBy×Bool) (aD (fun(a,(b,c,d,e,f,g,h),(i,j,k,l,m,n,o),p,q)=>
 bindE (Y:=Int×Cls×Cls×zBy×Bool) (ah (aa (0<a))
 (ah (!q)
 (U (an (a,(b,c,d,e,f,g,h),(i,j,k,l,m,n,o),p,q)))
 (U (ao (ao (an ((b,c,d,e,f,g,h),(i,j,k,l,m,n,o),p,q))))))
 (U (ao (ao (an ((b,c,d,e,f,g,h),(i,j,k,l,m,n,o),p,q)))))) fun(a,(b,c,d,e,f,g,h),(i,j,k,l,m,n,o),p,q)=>
 ai (xH (p,q)) fun((p,q,r,s,t,u,v,w),x,y)=>
 af (aa (o.length+1<=9223372036854775807)&&aa ((o.length+1)*104<=140737488355328)) (U (an (wrap .i64 (a-1),(b,c,d,e,f,g,h),(i,j,k,l,m,n,o++[(p,q,r,s,t,u,v,w)]),x,y)))) ((o,(a,b,c,d,e,f,g),(h,i,j,k,l,m,n),p,q))) fun((_,_,_,_,_,_,_),(a,b,c,d,e,f,g),h,i)=>
 ah (i)
 (U ((ag,[],(0:Int),(0:Int),(0:Int),[],[],[])))
 (ah (!aa (h=[]))
 (U ((ag,[],(0:Int),(0:Int),(0:Int),[],[],[])))
 (U ((ad,a,b,c,d,e,f,g))))))
def tb17:=ax 17 (az 17 ad [] fH Cc tz [.cell 2 34,.tmp 3] 140 []) tb62
def V8:zTb tb17:=aB V5 V7 V6 func17 rfl call17
abbrev V9:SPat:=⟨[(0,.sl cz),(1,.sl cz),(12,.i .i64),(13,.i .i64)],[]⟩
def V_:Nat->Option SPat:=fun k=>bif k==4 then U V9 else bif k==2000000 then U dD else aj
def Wa:Nat->List Nat×bc:=fun id=>bif id==6 then(lz,.fin)else([],.fin)
def xJ:List Cst×List Cst->Option Bool:=fun(a,b)=>
 ah (!aa ((a.length:Int)=(b.length:Int)))
 (U ag)
 (bindE (aD (fun(a,b,c,d)=>
 ah (aa (d<c))
 (af (aa (0<=d)) (aq a d.toNat fun e=>af (aa (0<=d)) (aq b d.toNat fun f=>ah (!(aa (e.1=f.1)&&(aa (e.2.1=f.2.1)&&(aa (e.2.2.1=f.2.2.1)&&(aa (e.2.2.2=f.2.2.2)&&ad)))))
 (U (ao (ao ag)))
 (U (an (a,b,c,wrap .i64 (d+1)))))))
 (U (ao (an ())))) ((a,b,(a.length:Int),(0:Int)))) fun _=>
 U ad)
def tb147:=ax 147 (az 147 ad [] Im dx xJ [.tmp 4] 26 []) tb17
def Wb:zTb tb147:=aB V8 Wa V_ func147 rfl call147
abbrev IU:SPat:=⟨[(0,.sl (.int .i64)),(1,.sl (.int .i64))],[]⟩
abbrev Wc:SPat:=⟨[(0,.sl (.int .i64)),(1,.sl (.int .i64)),(12,.i .i64),(13,.i .i64)],[]⟩
def Wd:Nat->Option SPat:=fun k=>bif k==4 then U Wc else bif k==2000000 then U dD else aj
def We:Nat->List Nat×bc:=fun id=>bif id==6 then(lz,.fin)else([],.fin)
def xK:List Int×List Int->Option Bool:=fun(a,b)=>
 ah (!aa ((a.length:Int)=(b.length:Int)))
 (U ag)
 (bindE (aD (fun(a,b,c,d)=>
 ah (aa (d<c))
 (af (aa (0<=d)) (aq a d.toNat fun e=>af (aa (0<=d)) (aq b d.toNat fun f=>ah (!aa (e=f))
 (U (ao (ao ag)))
 (U (an (a,b,c,wrap .i64 (d+1)))))))
 (U (ao (an ())))) ((a,b,(a.length:Int),(0:Int)))) fun _=>
 U ad)
def tb148:=ax 148 (az 148 ad [] IU dx xK [.tmp 4] 26 []) tb147
def Wf:zTb tb148:=aB Wb We Wd func148 rfl call148
abbrev IV:SPat:=⟨[(0,.sl bu),(1,.sl bu)],[]⟩
abbrev IW:SPat:=⟨[(0,.sl bu),(1,.sl bu),(12,.i .i64),(13,.i .i64)],[]⟩
def Wg:Nat->Option SPat:=fun k=>bif k==4 then U IW else bif k==2000000 then U dD else aj
def Wh:Nat->List Nat×bc:=fun id=>bif id==6 then(lz,.fin)else([],.fin)
def xL:List Fld×List Fld->Option Bool:=fun(a,b)=>
 ah (!aa ((a.length:Int)=(b.length:Int)))
 (U ag)
 (bindE (aD (fun(a,b,c,d)=>
 ah (aa (d<c))
 (af (aa (0<=d)) (aq a d.toNat fun e=>af (aa (0<=d)) (aq b d.toNat fun f=>ah (!(aa (e.1=f.1)&&(aa (e.2.1=f.2.1)&&(aa (e.2.2=f.2.2)&&ad))))
 (U (ao (ao ag)))
 (U (an (a,b,c,wrap .i64 (d+1)))))))
 (U (ao (an ())))) ((a,b,(a.length:Int),(0:Int)))) fun _=>
 U ad)
def tb149:=ax 149 (az 149 ad [] IV dx xL [.tmp 4] 26 []) tb148
def Wi:zTb tb149:=aB Wf Wh Wg func149 rfl call149
abbrev Wj:SPat:=⟨[(0,.sl gO),(1,.sl gO)],[]⟩
abbrev Wk:SPat:=⟨[(0,.sl gO),(1,.sl gO),(12,.i .i64),(13,.i .i64)],[]⟩
def Wl:Nat->Option SPat:=fun k=>bif k==4 then U Wk else bif k==2000000 then U dD else aj
def Wm:Nat->List Nat×bc:=fun id=>bif id==6 then(lz,.fin)else([],.fin)
def xM:List Trp×List Trp->Option Bool:=fun(a,b)=>
 ah (!aa ((a.length:Int)=(b.length:Int)))
 (U ag)
 (bindE (aD (fun(a,b,c,d)=>
 ah (aa (d<c))
 (af (aa (0<=d)) (aq a d.toNat fun e=>af (aa (0<=d)) (aq b d.toNat fun f=>ah (!(aa (e.1=f.1)&&(aa (e.2.1=f.2.1)&&(aa (e.2.2.1=f.2.2.1)&&(aa (e.2.2.2=f.2.2.2)&&ad)))))
 (U (ao (ao ag)))
 (U (an (a,b,c,wrap .i64 (d+1)))))))
 (U (ao (an ())))) ((a,b,(a.length:Int),(0:Int)))) fun _=>
 U ad)
def tb224:=ax 224 (az 224 ad [] Wj dx xM [.tmp 4] 26 []) tb149
def Wn:zTb tb224:=aB Wi Wm Wl func224 rfl call224
abbrev Wo:SPat:=⟨[(0,.sl dc),(1,.sl dc),(12,.i .i64),(13,.i .i64)],[]⟩
def Wp:Nat->Option SPat:=fun k=>bif k==4 then U Wo else bif k==2000000 then U dD else aj
def Wq:Nat->List Nat×bc:=fun id=>bif id==6 then(lz,.fin)else([],.fin)
def tA:List Knd×List Knd->Option Bool:=fun(a,b)=>
 ah (!aa ((a.length:Int)=(b.length:Int)))
 (U ag)
 (bindE (aD (fun(a,b,c,d)=>
 ah (aa (d<c))
 (af (aa (0<=d)) (aq a d.toNat fun e=>af (aa (0<=d)) (aq b d.toNat fun f=>ah (!(aa (e.1=f.1)&&(aa (e.2=f.2)&&ad)))
 (U (ao (ao ag)))
 (U (an (a,b,c,wrap .i64 (d+1)))))))
 (U (ao (an ())))) ((a,b,(a.length:Int),(0:Int)))) fun _=>
 U ad)
def tb227:=ax 227 (az 227 ad [] Io dx tA [.tmp 4] 26 []) tb224
def Wr:zTb tb227:=aB Wn Wq Wp func227 rfl call227
abbrev Ws:SPat:=⟨[(0,.agg (pl wz)),(1,.agg (pl wz))],[]⟩
def xN :  Frm×Frm->Option Bool:=fun((a,b,c),d,e,f)=>
 ah (aa (a=d))
 (ai (tA (b,e)) fun a=>
 ah (a)
 (ai (tA (c,f)) fun a=>
 U a)
 (U ag))
 (U ag)
def tb226:=ax 226 (az 226 ad [] Ws dx xN [.tmp 4] 24 []) tb227
def Wt:zTb tb226:=aB Wr aL aU func226 rfl call226
abbrev Wu:SPat:=⟨[(0,.sl de),(1,.sl de),(2,.fn 226 (pl []))],[]⟩
abbrev Wv:SPat:=⟨[(1,.sl de),(2,.fn 226 (pl [])),(15,.sl de),(16,.i .i64),(17,.i .i64)],[]⟩
def Ww:Nat->Option SPat:=fun k=>bif k==4 then U Wv else bif k==2000000 then U dD else aj
def xO:List Frm×List Frm->Option Bool:=fun(a,b)=>
 ah (!aa ((a.length:Int)=(b.length:Int)))
 (U ag)
 (bindE (aD (fun(a,b,c,d)=>
 ah (aa (d<c))
 (af (aa (0<=d)) (aq b d.toNat fun e=>af (aa (0<=d)) (aq a d.toNat fun f=>ai (xN ((e.1,e.2.1,e.2.2),f.1,f.2.1,f.2.2)) fun e=>
 ah (!e)
 (U (ao (ao ag)))
 (U (an (a,b,c,wrap .i64 (d+1)))))))
 (U (ao (an ())))) ((b,a,(a.length:Int),(0:Int)))) fun _=>
 U ad)
def zTJ:=ax 227225 (az 225 ad [] Wu kN xO [.tmp 6] 32 []) tb226
def Wx:zTb zTJ:=aB Wt aL Ww func225 rfl call225
def xP :  Mth×Mth->Option Bool:=fun((a,b,c,d,e,f,g,h),i,j,k,l,m,n,o,p)=>
 ah (aa (a=i))
 (ah (aa (b=j))
 (ah (aa (c=k))
 (ah (aa (d=l))
 (ah (aa (e=m))
 (ah (aa (f=n))
 (ai (xM (g,o)) fun a=>
 ah (a)
 (ai (xO (h,p)) fun a=>
 U a)
 (U ag))
 (U ag))
 (U ag))
 (U ag))
 (U ag))
 (U ag))
 (U ag)
def tb151:=ax 151 (az 151 ad [] Iq dx xP [.tmp 4] 59 []) zTJ
def Wy:zTb tb151:=aB Wx aL aU func151 rfl call151
abbrev Wz:SPat:=⟨[(0,.sl cv),(1,.sl cv),(2,.fn 151 (pl []))],[]⟩
abbrev WA:SPat:=⟨[(1,.sl cv),(2,.fn 151 (pl [])),(15,.sl cv),(16,.i .i64),(17,.i .i64)],[]⟩
def WB:Nat->Option SPat:=fun k=>bif k==4 then U WA else bif k==2000000 then U dD else aj
def xQ:List Mth×List Mth->Option Bool:=fun(a,b)=>
 ah (!aa ((a.length:Int)=(b.length:Int)))
 (U ag)
 (bindE (aD (fun(a,b,c,d)=>
 ah (aa (d<c))
 (af (aa (0<=d)) (aq b d.toNat fun e=>af (aa (0<=d)) (aq a d.toNat fun f=>ai (xP ((e.1,e.2.1,e.2.2.1,e.2.2.2.1,e.2.2.2.2.1,e.2.2.2.2.2.1,e.2.2.2.2.2.2.1,e.2.2.2.2.2.2.2),f.1,f.2.1,f.2.2.1,f.2.2.2.1,f.2.2.2.2.1,f.2.2.2.2.2.1,f.2.2.2.2.2.2.1,f.2.2.2.2.2.2.2)) fun e=>
 ah (!e)
 (U (ao (ao ag)))
 (U (an (a,b,c,wrap .i64 (d+1)))))))
 (U (ao (an ())))) ((b,a,(a.length:Int),(0:Int)))) fun _=>
 U ad)
def zTQ:=ax 152150 (az 150 ad [] Wz kN xQ [.tmp 6] 32 []) tb151
def WC:zTb zTQ:=aB Wy aL WB func150 rfl call150
def xR :  Cls×Cls->Option Bool:=fun((a,b,c,d,e,f,g),h,i,j,k,l,m,n)=>
 ai (xJ (a,h)) fun a=>
 ah (a)
 (ah (aa (b=i))
 (ah (aa (c=j))
 (ah (aa (d=k))
 (ai (xK (e,l)) fun a=>
 ah (a)
 (ai (xL (f,m)) fun a=>
 ah (a)
 (ai (xQ (g,n)) fun a=>
 U a)
 (U ag))
 (U ag))
 (U ag))
 (U ag))
 (U ag))
 (U ag)
def tb68:=ax 68 (az 68 ad [] Is dx xR [.tmp 4] 52 []) zTQ
def WD:zTb tb68:=aB WC aL aU func68 rfl call68
def xS:Cls->Option zBy:=fun(a,b,c,d,e,f,g)=>
 ai (xE (a,b,c,d,e,f,g)) fun h=>
 ah (!h)
 (U ([]))
 (ai (xF (a,b,c,d,e,f,g)) fun h=>
 ai (tz h) fun(i,j,k,l,m,n,o,p)=>
 ah (!i)
 (U ([]))
 (ai (xR ((a,b,c,d,e,f,g),j,k,l,m,n,o,p)) fun a=>
 ah (!a)
 (U ([]))
 (U h)))
def tb20:=ax 20 (az 20 ad [] iz fG xS [.tmp 2] 25 []) tb68
def WE:zTb tb20:=aB WD aL aU func20 rfl call20
def fJ:Int×Int×Int->Option Bool:=fun(a,b,c)=>
 ah (aa (b<=a))
 (U (aa (a<=c)))
 (U ag)
def tb89:=ax 89 (az 89 ad [] H4 kN fJ [.tmp 6] 15 []) tb20
def WG:zTb tb89:=aB WE aL aU func89 rfl call89
abbrev IX:SPat:=⟨[(0,.s),(20,.i .i64),(21,.i .i64)],[]⟩
def WH:Nat->Option SPat:=fun k=>bif k==4 then U IX else bif k==1000003 then U fH else bif k==2000000 then U dD else bif k==2000001 then U IX else aj
def qI:zBy->Option Bool:=fun a=>
 bindE (Y:=zBy) (ai (fJ ((a.length:Int),1,8)) fun b=>
 ah (!b)
 (U (ao ag))
 (aq a 0 fun b=>ah (aa (48<=(b.toNat:Int)))
 (aq a 0 fun b=>ah (aa ((b.toNat:Int)<=57))
 (U (ao ag))
 (U (an a)))
 (U (an a)))) fun a=>
 bindE (aD (fun(a,b,c)=>
 ah (aa (c<b))
 (bindE (Y:=zBy×Int×Int) (af (aa (0<=c)) (aq a c.toNat fun d=>ah (aa (97<=(d.toNat:Int)))
 (ah (aa ((d.toNat:Int)<=122))
 (U (an (a,b,c)))
 (ah (aa (65<=(d.toNat:Int)))
 (ah (aa ((d.toNat:Int)<=90))
 (U (an (a,b,c)))
 (ah (aa (48<=(d.toNat:Int)))
 (ah (!aa ((d.toNat:Int)<=57))
 (U (ao (ao (ao ag))))
 (U (an (a,b,c))))
 (U (ao (ao (ao ag))))))
 (ah (aa (48<=(d.toNat:Int)))
 (ah (!aa ((d.toNat:Int)<=57))
 (U (ao (ao (ao ag))))
 (U (an (a,b,c))))
 (U (ao (ao (ao ag)))))))
 (ah (aa (65<=(d.toNat:Int)))
 (ah (aa ((d.toNat:Int)<=90))
 (U (an (a,b,c)))
 (ah (aa (48<=(d.toNat:Int)))
 (ah (!aa ((d.toNat:Int)<=57))
 (U (ao (ao (ao ag))))
 (U (an (a,b,c))))
 (U (ao (ao (ao ag))))))
 (ah (aa (48<=(d.toNat:Int)))
 (ah (!aa ((d.toNat:Int)<=57))
 (U (ao (ao (ao ag))))
 (U (an (a,b,c))))
 (U (ao (ao (ao ag)))))))) fun(a,b,c)=>
 U (an (a,b,wrap .i64 (c+1))))
 (U (ao (an ())))) ((a,(a.length:Int),(0:Int)))) fun _=>
 U (ad)
def tb48:=ax 48 (az 48 ad [] fH eZ qI [.tmp 2] 51 []) tb89
def WI:zTb tb48:=aB WG aL WH func48 rfl call48
abbrev qJ:SPat:=⟨[(0,.s),(1,.s)],[]⟩
def Cm:zBy×zBy->Option Bool:=fun(a,b)=>
 ah (aa ((b.length:Int)<=(a.length:Int)))
 (af (aa (0<=(b.length:Int))&&aa ((b.length:Int)<=(a.length:Int))) (U (aa (kZ (0:Nat) (nY (aH (b.length:Int)) a)=b))))
 (U ag)
def tb293:=ax 293 (az 293 ad [] qJ dx Cm [.tmp 4] 18 []) tb48
def WJ:zTb tb293:=aB WI aL aU func293 rfl call293
abbrev xT:SPat:=⟨[(4,.s),(5,.b)],[]⟩
def Cn:zBy×zBy->Option (zBy×Bool):=fun(a,b)=>
 ai (Cm (a,b)) fun c=>
 ah (!c)
 (U ((a,ag)))
 (af (aa (0<=(b.length:Int))&&aa ((b.length:Int)<=(a.length:Int))&&aa ((a.length:Int)<=(a.length:Int))) (U ((kZ (aH (b.length:Int)) (nY (aH (a.length:Int)) a),ad))))
def tb259:=ax 259 (az 259 ad [] qJ xT Cn [.tmp 4,.tmp 5] 15 []) tb293
def WK:zTb tb259:=aB WJ aL aU func259 rfl call259
def tB:zBy×zBy->Option (zBy×Bool):=fun(a,b)=>
 ai (Cn (a,b)) fun(a,b)=>
 U ((a,b))
def tb204:=ax 204 (az 204 ad [] qJ xT tB [.tmp 4,.tmp 5] 11 []) tb259
def WL:zTb tb204:=aB WK aL aU func204 rfl call204
def Co:zBy×zBy->Option Bool:=fun(a,b)=>
 ah (aa ((b.length:Int)<=(a.length:Int)))
 (af (aa (0<=wrap .i64 ((a.length:Int)-(b.length:Int)))&&aa (wrap .i64 ((a.length:Int)-(b.length:Int))<=(a.length:Int))&&aa ((a.length:Int)<=(a.length:Int))) (U (aa (kZ (aH (wrap .i64 ((a.length:Int)-(b.length:Int)))) (nY (aH (a.length:Int)) a)=b))))
 (U ag)
def tb294:=ax 294 (az 294 ad [] qJ dx Co [.tmp 4] 21 []) tb204
def WM:zTb tb294:=aB WL aL aU func294 rfl call294
def Cp:zBy×zBy->Option (zBy×Bool):=fun(a,b)=>
 ai (Co (a,b)) fun c=>
 ah (!c)
 (U ((a,ag)))
 (af (aa (0<=wrap .i64 ((a.length:Int)-(b.length:Int)))&&aa (wrap .i64 ((a.length:Int)-(b.length:Int))<=(a.length:Int))) (U ((kZ (0:Nat) (nY (aH (wrap .i64 ((a.length:Int)-(b.length:Int)))) a),ad))))
def tb260:=ax 260 (az 260 ad [] qJ xT Cp [.tmp 4,.tmp 5] 18 []) tb294
def WN:zTb tb260:=aB WM aL aU func260 rfl call260
def xU:zBy×zBy->Option (zBy×Bool):=fun(a,b)=>
 ai (Cp (a,b)) fun(a,b)=>
 U ((a,b))
def tb205:=ax 205 (az 205 ad [] qJ xT xU [.tmp 4,.tmp 5] 11 []) tb260
def WO:zTb tb205:=aB WN aL aU func205 rfl call205
abbrev WQ:SPat:=⟨[(2,.s),(3,.b)],[]⟩
def Cq:zBy->Option (zBy×Bool):=fun a=>
 ai (tB (a,[(76:UInt8)])) fun(a,b)=>
 ai (xU (a,[(59:UInt8)])) fun(a,c)=>
 ah (b)
 (ah (c)
 (ai (qI a) fun b=>
 U ((a,b)))
 (U ((a,ag))))
 (U ((a,ag)))
def tb115:=ax 115 (az 115 ad [] fH WQ Cq [.tmp 2,.tmp 3] 27 []) tb205
def WR:zTb tb115:=aB WO aL aU func115 rfl call115
def o_:zBy->Option Bool:=fun a=>
 ai (Cq a) fun(_,b)=>
 ah (b)
 (U ad)
 (U (aa (a=[(73:UInt8)])))
def tb122:=ax 122 (az 122 ad [] fH eZ o_ [.tmp 2] 15 []) tb115
def WS:zTb tb122:=aB WR aL aU func122 rfl call122
def tC:zBy×Int->Option Int:=fun(a,b)=>
 ai (B0 (a,b)) fun a=>
 U (a)
def tb289:=ax 289 (az 289 ad [] BZ mm tC [.tmp 4] 8 []) tb122
def WT:zTb tb289:=aB WS aL aU func289 rfl call289
abbrev Cr:SPat:=⟨[(0,.s),(1,.sc [41])],[]⟩
abbrev WU:SPat:=⟨[(0,.s),(1,.sc [41]),(5,.i .i64),(16,.b)],[]⟩
def WV:Nat->Option SPat:=fun k=>bif k==1000003 then U WU else aj
def xV:zBy->Option Int:=fun a=>
 bindE (Y:=zBy×Int×Bool) (U (an (a,1,aa ([(41:UInt8)]=a)))) fun(a,b,c)=>
 ah (c)
 (U ((0:Int)))
 (ah (aa (b=1))
 (aq ([(41:UInt8)]) ((0:Nat)) fun b=>ai (tC (a,(b.toNat:Int))) fun a=>
 U a)
 (ah (aa ((a.length:Int)<=b))
 (U ((-1:Int)))
 (aj)))
def tb321:=ax 321 (az 321 ad [] Cr mm xV [.tmp 4] 143 []) tb289
def WW:zTb tb321:=aB WT aL WV func321 rfl call321
abbrev IY:SPat:=⟨[(4,.s),(5,.s),(6,.b)],[]⟩
def WX:Nat->List Nat×bc:=fun id=>bif id==3 then(lz,(.br 9 fW [3,4,5,6,7,8] [] (.br 10 fu [] [] (.br 11 fw [] [] .fin .fin) .fin) .fin))else([],.fin)
def Cs:zBy->Option (zBy×zBy×Bool):=fun a=>
 ai (xV a) fun b=>
 ah (aa (0<=b))
 (af (aa (0<=b)&&aa (b<=(a.length:Int))) (af (aa (0<=wrap .i64 (b+1))&&aa (wrap .i64 (b+1)<=(a.length:Int))&&aa ((a.length:Int)<=(a.length:Int))) (ak (ak (af (aa (a=a)) (U ())) (ak (af (aa (b=b)) (U ())) (ak (af (aa (wrap .i64 (b+1)=wrap .i64 (b+1))) (U ())) (ak (af (aa (0<=wrap .i64 (b+1))&&aa (wrap .i64 (b+1)<=(a.length:Int))&&aa ((a.length:Int)<=(a.length:Int))) (af (aa (kZ (aH (wrap .i64 (b+1))) (nY (aH (a.length:Int)) a)=kZ (aH (wrap .i64 (b+1))) (nY (aH (a.length:Int)) a))) (U ()))) (U ()))))) (U ((kZ (0:Nat) (nY b.toNat a),kZ (aH (wrap .i64 (b+1))) (nY (aH (a.length:Int)) a),ad))))))
 (U ((a,[],ag)))
def tb288:=ax 288 (az 288 ad [] Cr IY Cs [.tmp 4,.tmp 5,.tmp 6] 23 []) tb321
def WY:zTb tb288:=aB WW WX aU func288 rfl call288
def xW:zBy->Option (zBy×zBy×Bool):=fun a=>
 ai (Cs a) fun(a,b,c)=>
 U ((a,b,c))
def tb238:=ax 238 (az 238 ad [] Cr IY xW [.tmp 4,.tmp 5,.tmp 6] 13 []) tb288
def WZ:zTb tb238:=aB WY aL aU func238 rfl call238
def xX:zBy×Int->Option Int:=fun(a,b)=>
 ai (tC (a,b)) fun a=>
 U (a)
def tb239:=ax 239 (az 239 ad [] BZ mm xX [.tmp 4] 8 []) tb238
def W0:zTb tb239:=aB WZ aL aU func239 rfl call239
abbrev W1:SPat:=⟨[(6,.s),(8,.s),(10,.own .str ad)],[]⟩
abbrev W2:SPat:=⟨[(6,.s),(8,.s)],[]⟩
abbrev IZ:SPat:=⟨[(6,.s),(8,.s),(10,.own .str ad),(11,.i .i64)],[]⟩
abbrev W3:SPat:=⟨[(6,.s),(10,.own .str ad)],[]⟩
def W4:Nat->Option SPat:=fun k=>bif k==6 then U W1 else bif k==1000005 then U W2 else bif k==1000010 then U IZ else bif k==1000012 then U IZ else bif k==2000000 then U W3 else aj
def qK:zBy->Option (List zBy×zBy×Bool):=fun a=>
 ai (xW a) fun(a,b,c)=>
 ai (tB (a,[(40:UInt8)])) fun(a,d)=>
 bindE (Y:=zBy×zBy) (ah (!c)
 (U (ao ([],[],ag)))
 (ah (!d)
 (U (ao ([],[],ag)))
 (ah (!aa (b=[(86:UInt8)]))
 (ai (o_ b) fun c=>
 ah (!c)
 (U (ao ([],[],ag)))
 (U (an (b,a))))
 (U (an (b,a)))))) fun(a,b)=>
 bindE (Y:=zBy×List zBy) (aD (fun(a,b,c)=>
 ah (!aa (b=[]))
 (bindE (Y:=zBy×zBy×List zBy×Int) (aq b 0 fun d=>ah (!aa ((d.toNat:Int)=73))
 (ai (xX (b,59)) fun d=>
 U (an (a,b,c,wrap .i64 (d+1))))
 (U (an (a,b,c,1)))) fun(a,b,c,d)=>
 bindE (Y:=zBy×zBy×List zBy×Int) (af (aa (0<=d)&&aa (d<=(b.length:Int))) (ai (o_ (kZ (0:Nat) (nY d.toNat b))) fun e=>
 ah (!e)
 (U (ao (ao (ao ([],[],ag)))))
 (ah (aa ((c.length:Int)=4))
 (U (ao (ao (ao ([],[],ag)))))
 (U (an (a,b,c,d)))))) fun(a,b,c,d)=>
 af (aa (0<=d)&&aa (d<=(b.length:Int))) (af (aa (c.length+1<=9223372036854775807)&&aa ((c.length+1)*16<=140737488355328)) (af (aa (0<=d)&&aa (d<=(b.length:Int))&&aa ((b.length:Int)<=(b.length:Int))) (U (an (a,kZ d.toNat (nY (aH (b.length:Int)) b),c++[kZ (0:Nat) (nY d.toNat b)]))))))
 (U (ao (an (a,c))))) ((a,b,[]))) fun(a,b)=>
 U ((b,a,ad))
def tb170:=ax 170 (az 170 ad [] fH It qK [.tmp 2,.tmp 3,.tmp 4] 67 []) tb239
def W5:zTb tb170:=aB W0 aL W4 func170 rfl call170
def tD:zBy->Option Bool:=fun a=>
 ai (qK a) fun(_,_,a)=>
 U (a)
def tb113:=ax 113 (az 113 ad [] fH eZ tD [.tmp 2] 13 []) tb170
def W6:zTb tb113:=aB W5 aL aU func113 rfl call113
def tE:zBy->Option Bool:=fun a=>
 ai (o_ a) fun b=>
 ah (b)
 (U ad)
 (ai (tD a) fun a=>
 U a)
def tb121:=ax 121 (az 121 ad [] fH eZ tE [.tmp 2] 9 []) tb113
def W7:zTb tb121:=aB W6 aL aU func121 rfl call121
def gv:List Cst×Int->Option Cst:=fun(a,b)=>
 ai (fJ (b,1,(a.length:Int))) fun c=>
 ah (!c)
 (U (((0:Int),[],(0:Int),(0:Int))))
 (af (aa (0<=wrap .i64 (b-1))) (aq a (aH (wrap .i64 (b-1))) fun a=>U ((a.1,a.2.1,a.2.2.1,a.2.2.2))))
def tb124:=ax 124 (az 124 ad [] o7 Iu gv [.cell 4 27] 16 []) tb121
def W8:zTb tb124:=aB W7 aL aU func124 rfl call124
abbrev W9:SPat:=⟨[(0,.sl cz),(1,.i .i64),(2,.fn 48 (pl []))],[]⟩
def nK:List Cst×Int->Option Bool:=fun(a,b)=>
 ai (gv (a,b)) fun(a,b,_,_)=>
 ah (aa (a=1))
 (ai (qI b) fun a=>
 U a)
 (U ag)
def zWV:=ax 49126 (az 126 ad [] W9 kN nK [.tmp 6] 20 []) tb124
def W_:zTb zWV:=aB W8 aL aU func126 rfl call126
abbrev Xa:SPat:=⟨[(0,.sl cz),(1,.i .i64),(2,.fn 121 (pl []))],[]⟩
def xY:List Cst×Int->Option Bool:=fun(a,b)=>
 ai (gv (a,b)) fun(a,b,_,_)=>
 ah (aa (a=1))
 (ai (tE b) fun a=>
 U a)
 (U ag)
def zTT:=ax 122126 (az 126 ad [] Xa kN xY [.tmp 6] 20 []) zWV
def Xb:zTb zTT:=aB W_ aL aU func126 rfl call126
def tF:List Cst×Int->Option Bool:=fun(a,b)=>
 ai (gv (a,b)) fun(b,_,c,_)=>
 ah (aa (b=2))
 (ai (nK (a,c)) fun a=>
 U a)
 (U ag)
def tb125:=ax 125 (az 125 ad [] o7 dx tF [.tmp 4] 18 []) zTT
def Xc:zTb tb125:=aB Xb aL aU func125 rfl call125
abbrev Xd:SPat:=⟨[(0,.sl cz),(1,.i .i64),(2,.fn 122 (pl []))],[]⟩
def tG:List Cst×Int->Option Bool:=fun(a,b)=>
 ai (gv (a,b)) fun(a,b,_,_)=>
 ah (aa (a=1))
 (ai (o_ b) fun a=>
 U a)
 (U ag)
def zTR:=ax 123126 (az 126 ad [] Xd kN tG [.tmp 6] 20 []) tb125
def Xe:zTb zTR:=aB Xc aL aU func126 rfl call126
abbrev Xf:SPat:=⟨[(0,.fn 122 (pl [])),(1,.ptr 100000 0),(2,.ptr 100001 0)],[.box 100000 (pl [.sl cz]),.box 100001 (pl dC)]⟩
abbrev I0:SPat:=⟨[(4,.b)],[.box 100000 (pl [.sl cz]),.box 100001 (pl dC)]⟩
def xZ:List Cst×Cst->Option (Bool×List Cst×Cst):=fun(a,b,c,d,e)=>
 ai (gv (a,e)) fun(f,_,_,g)=>
 ah (aa (c=[]))
 (ai (tF (a,d)) fun h=>
 ah (h)
 (ah (aa (f=3))
 (ai (tG (a,g)) fun f=>
 U ((f,a,b,c,d,e)))
 (U ((ag,a,b,c,d,e))))
 (U ((ag,a,b,c,d,e))))
 (U ((ag,a,b,c,d,e)))
def zTS:=ax 123123 (az 123 ag [(1,[]),(2,[])] Xf I0 xZ [.tmp 4] 31 [100000,100001]) zTR
def Xg:zTb zTS:=aB Xe aL aU func123 rfl call123
abbrev Xh:SPat:=⟨[(0,.sl cz),(1,.i .i64),(2,.fn 113 (pl []))],[]⟩
def tH:List Cst×Int->Option Bool:=fun(a,b)=>
 ai (gv (a,b)) fun(a,b,_,_)=>
 ah (aa (a=1))
 (ai (tD b) fun a=>
 U a)
 (U ag)
def zTU:=ax 114126 (az 126 ad [] Xh kN tH [.tmp 6] 20 []) zTS
def Xi:zTb zTU:=aB Xg aL aU func126 rfl call126
abbrev Xj:SPat:=⟨[(0,.fn 113 (pl [])),(1,.ptr 100000 0),(2,.ptr 100001 0)],[.box 100000 (pl [.sl cz]),.box 100001 (pl dC)]⟩
def tJ:List Cst×Cst->Option (Bool×List Cst×Cst):=fun(a,b,c,d,e)=>
 ai (gv (a,e)) fun(f,_,_,g)=>
 ah (aa (c=[]))
 (ai (tF (a,d)) fun h=>
 ah (h)
 (ah (aa (f=3))
 (ai (tH (a,g)) fun f=>
 U ((f,a,b,c,d,e)))
 (U ((ag,a,b,c,d,e))))
 (U ((ag,a,b,c,d,e))))
 (U ((ag,a,b,c,d,e)))
def zTV:=ax 114123 (az 123 ag [(1,[]),(2,[])] Xj I0 tJ [.tmp 4] 31 [100000,100001]) zTU
def Xk:zTb zTV:=aB Xi aL aU func123 rfl call123
abbrev Xl:SPat:=⟨[(0,.sl cz),(1,.agg (pl dC))],[]⟩
def Xm:Nat->Option SPat:=fun k=>bif k==2000000 then U dD else aj
def tK:List Cst×Cst->Option Bool:=fun(a,b,c,d,e)=>
 bindE (ah (aa (b=1))
 (ah (aa (d=0))
 (ah (aa (e=0))
 (ai (qI c) fun a=>
 ah (a)
 (U (ao ad))
 (ai (tE c) fun a=>
 U (ao a)))
 (U (ao ag)))
 (U (ao ag)))
 (ah (aa (b=2))
 (ah (aa (c=[]))
 (ah (aa (e=0))
 (ai (nK (a,d)) fun a=>
 U (ao a))
 (U (ao ag)))
 (U (ao ag)))
 (ah (aa (b=3))
 (ah (aa (c=[]))
 (ai (nK (a,d)) fun b=>
 ah (b)
 (ai (xY (a,e)) fun a=>
 U (ao a))
 (U (ao ag)))
 (U (ao ag)))
 (ah (aa (b=4))
 (ai (xZ (a,b,c,d,e)) fun(a,_,_,_,_,_)=>
 U (ao a))
 (ah (aa (b=5))
 (ai (tJ (a,b,c,d,e)) fun(a,_,_,_,_,_)=>
 U (ao a))
 (ah (aa (b=6))
 (ai (tJ (a,b,c,d,e)) fun(a,_,_,_,_,_)=>
 U (ao a))
 (U (an ())))))))) fun _=>
 U (ag)
def tb52:=ax 52 (az 52 ad [] Xl dx tK [.tmp 4] 74 []) zTV
def Xn:zTb tb52:=aB Xk aL Xm func52 rfl call52
abbrev Xo:SPat:=⟨[(0,.sl cz),(5,.sl cz),(6,.i .i64),(7,.i .i64)],[]⟩
def Xp:Nat->Option SPat:=fun k=>bif k==2 then U Xo else bif k==2000000 then U dD else aj
def x_:List Cst->Option Int:=fun a=>
 bindE (aD (fun(a,b,c,d)=>
 ah (aa (d<c))
 (af (aa (0<=d)) (aq b d.toNat fun e=>ah (aa (d=60))
 (U (ao (ao (61:Int))))
 (ai (tK (a,e.1,e.2.1,e.2.2.1,e.2.2.2)) fun e=>
 ah (!e)
 (U (ao (ao (wrap .i64 (d+1)))))
 (U (an (a,b,c,wrap .i64 (d+1)))))))
 (U (ao (an ())))) ((a,a,(a.length:Int),(0:Int)))) fun _=>
 U ((0:Int))
def tb14:=ax 14 (az 14 ad [] xm kM x_ [.tmp 2] 21 []) tb52
def Xq:zTb tb14:=aB Xn aL Xp func14 rfl call14
abbrev pa:SPat:=⟨[(0,.agg (pl bX)),(1,.i .i64)],[]⟩
def kP :  Cls×Int->Option Bool:=fun((a,_,_,_,_,_,_),b)=>
 ai (gv (a,b)) fun(a,_,_,_)=>
 U (aa (a=2))
def tb162:=ax 162 (az 162 ad [] pa dx kP [.tmp 4] 11 []) tb14
def Xr:zTb tb162:=aB Xq aL aU func162 rfl call162
end
end Go.Proofs.YtdpapeledldifaaGreat
