/- Part 28 of the proof of FnTidy; no condition. -/
import Derived.Test.YtdpapeledldifaaGreatX26
set_option autoImplicit true
set_option relaxedAutoImplicit true
set_option linter.all false
namespace Go.Proofs.YtdpapeledldifaaGreat
noncomputable section
open Go Go.AM Go.TM
open Go.Proofs.Tryz
open Sum (inl inr)
open Go.IntKind (wrap)
set_option maxRecDepth 100000
set_option maxHeartbeats 4000000
def F222:zBy×Int×Bool→Option (Int×zBy×Int×Bool):=fun(a,b,c)=>
 zAA (F221 (a,b,c)) fun(a,b,c,d)=>
 zAA (F221 (b,c,d)) fun(b,c,d,e)=>
 some ((wrap .i64 (wrap .i64 (a*256)+b),c,d,e))
def tb222:=insT 222 (mkE 222 false [(0,[])] zRI to221 F222 [.tmp 2] 13 [100000]) tb221
def ok222:zTb tb222:=okI ok221 noPl noIv func222 rfl call222
abbrev to280:SPat:=⟨[(2,.ptr 2 0)],[.box 2 (pl zo4),.box 100000 (pl plS)]⟩
abbrev zMQ:SPat:=⟨[(0,.ptr 100000 0),(2,.ptr 2 0),(3,.ptr 3 0),(24,.b)],[.box 2 (pl zo4),.box 3 (pl zo4),.box 100000 (pl plS)]⟩
abbrev zMP:SPat:=⟨[(2,.ptr 2 0),(3,.ptr 3 0)],[.box 2 (pl zo4),.box 3 (pl zo4),.box 100000 (pl plS)]⟩
def tv280:Nat→Option SPat:=fun k=>bif k==1000012 then some zMQ else bif k==2000000 then some zMP else none
def F280:zBy×Int×Bool→Option ( Cst×zBy×Int×Bool):=fun(a,b,c)=>
 zAA (F221 (a,b,c)) fun(a,b,c,d)=>
 bindE (Y :=  Cst×Cst×zBy×Int×Bool) (cndO (decide (a=1))
 (zAA (F221 (b,c,d)) fun(b,c,d,e)=>
 zAA (F219 (b,c,d,e)) fun(b,c,d,e)=>
 some (inl (((0:Int),[],(0:Int),(0:Int)),(a,b,(0:Int),(0:Int)),c,d,e)))
 (cndO (decide (a=2))
 (zAA (F222 (b,c,d)) fun(b,c,d,e)=>
 some (inl (((0:Int),[],(0:Int),(0:Int)),(a,[],b,(0:Int)),c,d,e)))
 (bindE (Y:=Bool×Cst×Cst×zBy×Int×Bool) (cndO (decide (a=3))
 (some (inl (true,((0:Int),[],(0:Int),(0:Int)),(a,[],(0:Int),(0:Int)),b,c,d)))
 (cndO (decide (a=4))
 (some (inl (true,((0:Int),[],(0:Int),(0:Int)),(a,[],(0:Int),(0:Int)),b,c,d)))
 (cndO (decide (a=5))
 (some (inl (true,((0:Int),[],(0:Int),(0:Int)),(a,[],(0:Int),(0:Int)),b,c,d)))
 (some (inl (decide (a=6),((0:Int),[],(0:Int),(0:Int)),(a,[],(0:Int),(0:Int)),b,c,d)))))) fun(a,(b,c,d,e),(f,g,h,i),j,k,l)=>
 cndO (a)
 (zAA (F222 (j,k,l)) fun(a,h,i,j)=>
 zAA (F222 (h,i,j)) fun(h,i,j,k)=>
 some (inl ((b,c,d,e),(f,g,a,h),i,j,k)))
 (some (inl ((b,c,d,e),(f,g,h,i),j,k,true)))))) fun((_,_,_,_),(a,b,c,d),e,f,g)=>
 some (((a,b,c,d),e,f,g))
def tb280:=insT 280 (mkE 280 false [(0,[])] zRI to280 F280 [.cell 2 27] 36 [100000]) tb222
def ok280:zTb tb280:=okI ok222 noPl tv280 func280 rfl call280
abbrev to220:SPat:=⟨[(2,.own tg27 true)],zo12⟩
abbrev zVU:SPat:=⟨[(0,.ptr 100000 0),(3,.own tg27 true),(4,.i .i64),(5,.i .i64)],zo12⟩
abbrev zMk:SPat:=⟨[(0,.ptr 100000 0),(3,.own tg27 true),(4,.i .i64)],zo12⟩
abbrev zMj:SPat:=⟨[(3,.own tg27 true)],zo12⟩
def tv220:Nat→Option SPat:=fun k=>bif k==6 then some zVU else bif k==1000005 then some zMk else bif k==1000008 then some zVU else bif k==2000000 then some zMj else none
def F220:zBy×Int×Bool→Option (List Cst×zBy×Int×Bool):=fun(a,b,c)=>
 zAA (F221 (a,b,c)) fun(a,b,c,d)=>
 bindE (Y:=List Cst×Int×zBy×Int×Bool) (cndO (decide (60<a))
 (some (inl ([],a,b,c,true)))
 (some (inl ([],a,b,c,d)))) fun(a,b,c,d,e)=>
 bindE (Y:=List Cst×zBy×Int×Bool) (zAE (fun(a,b,c,d,e,f)=>
 bindE (Y:=List Cst×Int×Int×zBy×Int×Bool) (cndO (decide (c<b))
 (cndO (!f)
 (some (inl (a,b,c,d,e,f)))
 (some (inr (inr (inl (a,d,e,f))))))
 (some (inr (inr (inl (a,d,e,f)))))) fun(a,b,c,d,e,f)=>
 zAA (F280 (d,e,f)) fun((d,e,f,g),h,i,j)=>
 grdO (decide (a.length+1≤9223372036854775807)&&decide ((a.length+1)*40≤140737488355328)) (some (inl (a++[(d,e,f,g)],b,wrap .i64 (c+1),h,i,j)))) ((a,b,(0:Int),c,d,e))) fun(a,b,c,d)=>
 some ((a,b,c,d))
def tb220:=insT 220 (mkE 220 false [(0,[])] zRI to220 F220 [.tmp 2] 32 [100000]) tb280
def ok220:zTb tb220:=okI ok280 noPl tv220 func220 rfl call220
abbrev to317:SPat:=⟨[(2,.own zBv true)],zo12⟩
abbrev zQw:SPat:=⟨[(0,.ptr 100000 0),(3,.own zBv true),(4,.i .i64),(5,.i .i64)],zo12⟩
abbrev zLw:SPat:=⟨[(0,.ptr 100000 0),(3,.own zBv true),(4,.i .i64)],zo12⟩
abbrev zLv:SPat:=⟨[(0,.ptr 100000 0),(3,.own zBv true),(4,.i .i64),(5,.i .i64),(6,.ptr 6 0)],[.box 6 (pl [.i .i64,.i .i64]),.box 100000 (pl plS)]⟩
abbrev zLu:SPat:=⟨[(3,.own zBv true)],zo12⟩
def tv317:Nat→Option SPat:=fun k=>bif k==6 then some zQw else bif k==1000005 then some zLw else bif k==1000008 then some zQw else bif k==1000011 then some zLv else bif k==2000000 then some zLu else bif k==2000001 then some zQw else none
def F317:zBy×Int×Bool→Option (List Knd×zBy×Int×Bool):=fun(a,b,c)=>
 zAA (F221 (a,b,c)) fun(a,b,c,d)=>
 bindE (Y:=List Knd×Int×zBy×Int×Bool) (cndO (decide (8<a))
 (some (inl ([],a,b,c,true)))
 (some (inl ([],a,b,c,d)))) fun(a,b,c,d,e)=>
 bindE (Y:=List Knd×zBy×Int×Bool) (zAE (fun(a,b,c,d,e,f)=>
 bindE (Y:=List Knd×Int×Int×zBy×Int×Bool) (cndO (decide (c<b))
 (cndO (!f)
 (some (inl (a,b,c,d,e,f)))
 (some (inr (inr (inl (a,d,e,f))))))
 (some (inr (inr (inl (a,d,e,f)))))) fun(a,b,c,d,e,f)=>
 bindE (Y:=List Knd×Int×Int×zBy×Int×Bool) (zAA (F221 (d,e,f)) fun(d,e,f,g)=>
 bindE (Y:=List Knd×Int×Int×(Int×Int)×zBy×Int×Bool) (cndO (decide (d=3))
 (zAA (F222 (e,f,g)) fun(e,f,g,h)=>
 some (inl (a,b,c,(d,e),f,g,h)))
 (some (inl (a,b,c,(d,(0:Int)),e,f,g)))) fun(a,b,c,(d,e),f,g,h)=>
 cndO (decide (3<d))
 (grdO (decide (a.length+1≤9223372036854775807)&&decide ((a.length+1)*16≤140737488355328)) (some (inl (a++[(d,e)],b,c,f,g,true))))
 (grdO (decide (a.length+1≤9223372036854775807)&&decide ((a.length+1)*16≤140737488355328)) (some (inl (a++[(d,e)],b,c,f,g,h))))) fun(a,b,c,d,e,f)=>
 some (inl (a,b,wrap .i64 (c+1),d,e,f))) ((a,b,(0:Int),c,d,e))) fun(a,b,c,d)=>
 some ((a,b,c,d))
def tb317:=insT 317 (mkE 317 false [(0,[])] zRI to317 F317 [.tmp 2] 47 [100000]) tb220
def ok317:zTb tb317:=okI ok220 noPl tv317 func317 rfl call317
abbrev ti281:SPat:=⟨[(0,.ptr 100000 0),(1,.agg (pl [.i .i64,.i .i64,.i .i64,.i .i64,.i .i64,.s,.nil,.nil]))],zo12⟩
abbrev to281:SPat:=⟨[(4,.ptr 4 0)],[.box 4 (pl plN),.box 100000 (pl plS)]⟩
abbrev zSR:SPat:=⟨[(0,.ptr 100000 0),(3,.ptr 3 0),(4,.ptr 4 0),(6,.i .i64),(7,.i .i64)],zo13⟩
abbrev zSQ:SPat:=⟨[(0,.ptr 100000 0),(3,.ptr 3 0),(4,.ptr 4 0),(6,.i .i64),(8,.i .i64)],zo13⟩
abbrev zMO:SPat:=⟨[(0,.ptr 100000 0),(3,.ptr 3 0),(4,.ptr 4 0),(5,.i .i64)],zo13⟩
abbrev zGp:SPat:=⟨[(0,.ptr 100000 0),(3,.ptr 3 0),(4,.ptr 4 0),(6,.i .i64)],zo13⟩
abbrev zMN:SPat:=⟨[(0,.ptr 100000 0),(3,.ptr 3 0),(4,.ptr 4 0)],zo13⟩
abbrev zMM:SPat:=⟨[(3,.ptr 3 0),(4,.ptr 4 0)],zo13⟩
def tv281:Nat→Option SPat:=fun k=>bif k==11 then some zSR else bif k==18 then some zSQ else bif k==1000006 then some zMO else bif k==1000010 then some zGp else bif k==1000013 then some zSR else bif k==1000017 then some zGp else bif k==1000020 then some zSQ else bif k==2000000 then some zMN else bif k==2000002 then some zMM else none
def tp281:Nat→List Nat×Plan:=fun id=>bif id==13 then([0,1,2,4,6,8],(.br 3 [2] [0,1,4,6,8] [] (.br 5 [4,3,2] [0,1,6,8] [] (.br 7 [6,5,4,3,2] [0,1,8] [] (.br 9 zn33 zn0 [10] (.br 11 zn34 zn0 [] (.br 12 zn10 [] [13] (.br 14 zn22 [] [] .fin .fin) .fin) .fin) .fin) .fin) .fin) .fin))else bif id==20 then([0,1,2,4,6],(.br 3 [2] [0,1,4,6] [] (.br 5 [4,3,2] [0,1,6] [] (.br 7 [6,5,4,3,2] zn0 [8] (.br 9 zn33 zn0 [] (.br 10 zn1 [] [11] (.br 12 zn10 [] [] .fin .fin) .fin) .fin) .fin) .fin) .fin))else([],.fin)
def F281:(Int×Int×Int×Int×Int×zBy)×zBy×Int×Bool→Option ( Mth×zBy×Int×Bool):=fun((a,b,c,_,_,d),e,f,g)=>
 zAA (F221 (e,f,g)) fun(e,f,g,h)=>
 zAA (F221 (f,g,h)) fun(f,g,h,i)=>
 zAA (F222 (g,h,i)) fun(g,h,i,j)=>
 bindE (Y:=Int×Mth×Mth×zBy×Int×Bool) (cndO (decide (120<g))
 (some (inl (g,(a,b,c,e,f,d,[],[]),((0:Int),(0:Int),(0:Int),(0:Int),(0:Int),[],[],[]),h,i,true)))
 (some (inl (g,(a,b,c,e,f,d,[],[]),((0:Int),(0:Int),(0:Int),(0:Int),(0:Int),[],[],[]),h,i,j)))) fun(a,(b,c,d,e,f,_,g,h),(i,j,k,l,m,n,o,p),q,r,s)=>
 zAA (F219 (a,q,r,s)) fun(a,q,r,s)=>
 zAA (F221 (q,r,s)) fun(q,r,s,t)=>
 bindE (Y:=Int×Mth×Mth×zBy×Int×Bool) (cndO (decide (3<q))
 (some (inl (q,(b,c,d,e,f,a,g,h),(i,j,k,l,m,n,o,p),r,s,true)))
 (some (inl (q,(b,c,d,e,f,a,g,h),(i,j,k,l,m,n,o,p),r,s,t)))) fun(a,(b,c,d,e,f,g,h,i),(j,k,l,m,n,o,p,q),r,s,t)=>
 bindE (Y :=  Mth×Mth×zBy×Int×Bool) (zAE (fun(a,b,(c,d,e,f,g,h,i,j),(k,l,m,n,o,p,q,r),s,t,u)=>
 bindE (Y:=Int×Int×Mth×Mth×zBy×Int×Bool) (cndO (decide (b<a))
 (cndO (!u)
 (some (inl (a,b,(c,d,e,f,g,h,i,j),(k,l,m,n,o,p,q,r),s,t,u)))
 (some (inr (inr (inl ((c,d,e,f,g,h,i,j),(k,l,m,n,o,p,q,r),s,t,u))))))
 (some (inr (inr (inl ((c,d,e,f,g,h,i,j),(k,l,m,n,o,p,q,r),s,t,u)))))) fun(a,b,(c,d,e,f,g,h,i,j),(k,l,m,n,o,p,q,r),s,t,u)=>
 zAA (F222 (s,t,u)) fun(s,t,u,v)=>
 zAA (F222 (t,u,v)) fun(t,u,v,w)=>
 zAA (F222 (u,v,w)) fun(u,v,w,x)=>
 zAA (F222 (v,w,x)) fun(v,w,x,y)=>
 grdO (decide (i.length+1≤9223372036854775807)&&decide ((i.length+1)*32≤140737488355328)) (some (inl (a,wrap .i64 (b+1),(c,d,e,f,g,h,i++[(s,t,u,v)],j),(k,l,m,n,o,p,q,r),w,x,y)))) ((a,(0:Int),(b,c,d,e,f,g,h,i),(j,k,l,m,n,o,p,q),r,s,t))) fun((a,b,c,d,e,f,g,h),(i,j,k,l,m,n,o,p),q,r,s)=>
 zAA (F221 (q,r,s)) fun(q,r,s,t)=>
 bindE (Y:=Int×Mth×Mth×zBy×Int×Bool) (cndO (decide (8<q))
 (some (inl (q,(a,b,c,d,e,f,g,h),(i,j,k,l,m,n,o,p),r,s,true)))
 (some (inl (q,(a,b,c,d,e,f,g,h),(i,j,k,l,m,n,o,p),r,s,t)))) fun(a,(b,c,d,e,f,g,h,i),(j,k,l,m,n,o,p,q),r,s,t)=>
 bindE (Y :=  Mth×Mth×zBy×Int×Bool) (zAE (fun(a,b,(c,d,e,f,g,h,i,j),(k,l,m,n,o,p,q,r),s,t,u)=>
 bindE (Y:=Int×Int×Mth×Mth×zBy×Int×Bool) (cndO (decide (b<a))
 (cndO (!u)
 (some (inl (a,b,(c,d,e,f,g,h,i,j),(k,l,m,n,o,p,q,r),s,t,u)))
 (some (inr (inr (inl ((c,d,e,f,g,h,i,j),(k,l,m,n,o,p,q,r),s,t,u))))))
 (some (inr (inr (inl ((c,d,e,f,g,h,i,j),(k,l,m,n,o,p,q,r),s,t,u)))))) fun(a,b,(c,d,e,f,g,h,i,j),(k,l,m,n,o,p,q,r),s,t,u)=>
 zAA (F222 (s,t,u)) fun(s,t,u,v)=>
 zAA (F317 (t,u,v)) fun(t,u,v,w)=>
 zAA (F317 (u,v,w)) fun(u,v,w,x)=>
 grdO (decide (j.length+1≤9223372036854775807)&&decide ((j.length+1)*56≤140737488355328)) (some (inl (a,wrap .i64 (b+1),(c,d,e,f,g,h,i,j++[(s,t,u)]),(k,l,m,n,o,p,q,r),v,w,x)))) ((a,(0:Int),(b,c,d,e,f,g,h,i),(j,k,l,m,n,o,p,q),r,s,t))) fun((a,b,c,d,e,f,g,h),(_,_,_,_,_,_,_,_),i,j,k)=>
 some (((a,b,c,d,e,f,g,h),i,j,k))
def tb281:=insT 281 (mkE 281 false [(0,[])] ti281 to281 F281 [.cell 4 53] 91 [100000]) tb317
def ok281:zTb tb281:=okI ok317 tp281 tv281 func281 rfl call281
abbrev to223:SPat:=⟨[(2,.ptr 2 0)],[.box 2 (pl plN),.box 100000 (pl plS)]⟩
def F223:zBy×Int×Bool→Option ( Mth×zBy×Int×Bool):=fun(a,b,c)=>
 zAA (F221 (a,b,c)) fun(a,b,c,d)=>
 zAA (F222 (b,c,d)) fun(b,c,d,e)=>
 zAA (F222 (c,d,e)) fun(c,d,e,f)=>
 cndO (decide (wrap .i64 (Int.tdiv (Int.tmod a (16:Int)) (8:Int))=1))
 (some (((a,b,c,(0:Int),(0:Int),[],[],[]),d,e,f)))
 (zAA (F281 ((a,b,c,(0:Int),(0:Int),[]),d,e,f)) fun((a,b,c,d,e,f,g,h),i,j,k)=>
 some (((a,b,c,d,e,f,g,h),i,j,k)))
def tb223:=insT 223 (mkE 223 false [(0,[])] zRI to223 F223 [.cell 2 53] 20 [100000]) tb281
def ok223:zTb tb223:=okI ok281 noPl noIv func223 rfl call223
abbrev to142:SPat:=⟨[(2,.ptr 2 0)],[.box 2 (pl plD),.box 100000 (pl plS)]⟩
abbrev zSU:SPat:=⟨[(0,.ptr 100000 0),(2,.ptr 2 0),(3,.ptr 3 0),(4,.i .i64),(5,.i .i64)],zo14⟩
abbrev zST:SPat:=⟨[(0,.ptr 100000 0),(2,.ptr 2 0),(3,.ptr 3 0),(4,.i .i64),(6,.i .i64)],zo14⟩
abbrev zSS:SPat:=⟨[(0,.ptr 100000 0),(2,.ptr 2 0),(3,.ptr 3 0),(4,.i .i64),(7,.i .i64)],zo14⟩
abbrev zEn:SPat:=⟨[(0,.ptr 100000 0),(2,.ptr 2 0),(3,.ptr 3 0)],zo14⟩
abbrev zEm:SPat:=⟨[(0,.ptr 100000 0),(2,.ptr 2 0),(3,.ptr 3 0),(4,.i .i64)],zo14⟩
abbrev zNB:SPat:=⟨[(2,.ptr 2 0),(3,.ptr 3 0)],zo14⟩
def tv142:Nat→Option SPat:=fun k=>bif k==12 then some zSU else bif k==19 then some zST else bif k==26 then some zSS else bif k==1000004 then some zEn else bif k==1000011 then some zEm else bif k==1000014 then some zSU else bif k==1000018 then some zEm else bif k==1000021 then some zST else bif k==1000025 then some zEm else bif k==1000028 then some zSS else bif k==2000000 then some zEn else bif k==2000002 then some zEn else bif k==2000004 then some zNB else none
def tp142:Nat→List Nat×Plan:=fun id=>bif id==14 then([0,1,2],(.br 3 [2] zn0 [] (.br 4 [3,2] zn0 [] (.br 5 zn27 [] [6] (.br 7 zn13 [] [] .fin .fin) .fin) .fin) .fin))else bif id==21 then([0,1,2,4,6],(.br 3 [2] [0,1,4,6] [] (.br 5 [4,3,2] [0,1,6] [] (.br 7 [6,5,4,3,2] zn0 [8] (.br 9 zn33 zn0 [] (.br 10 zn1 [] [11] (.br 12 zn10 [] [] .fin .fin) .fin) .fin) .fin) .fin) .fin))else bif id==28 then([0,1,2],(.br 3 [2] zn0 [] (.br 4 [3,2] zn0 [] (.br 5 zn27 [] [6] (.br 7 zn13 [] [] .fin .fin) .fin) .fin) .fin))else([],.fin)
def F142:zBy×Int×Bool→Option ( Cls×zBy×Int×Bool):=fun(a,b,c)=>
 bindE (Y :=  Cls×Cls×zBy×Int×Bool) (zAA (F219 (4,a,b,c)) fun(a,b,c,d)=>
 cndO (!decide (a=[(83:UInt8),84,79,87]))
 (some (inl (([],(0:Int),(0:Int),(0:Int),[],[],[]),([],(0:Int),(0:Int),(0:Int),[],[],[]),b,c,true)))
 (some (inl (([],(0:Int),(0:Int),(0:Int),[],[],[]),([],(0:Int),(0:Int),(0:Int),[],[],[]),b,c,d)))) fun((a,b,c,d,e,f,g),(_,_,_,_,h,i,j),k,l,m)=>
 zAA (F220 (k,l,m)) fun(k,l,m,n)=>
 zAA (F221 (l,m,n)) fun(l,m,n,o)=>
 zAA (F222 (m,n,o)) fun(m,n,o,p)=>
 zAA (F222 (n,o,p)) fun(n,o,p,q)=>
 zAA (F221 (o,p,q)) fun(o,p,q,r)=>
 bindE (Y:=Int×Cls×Cls×zBy×Int×Bool) (cndO (decide (3<o))
 (some (inl (o,(a,b,c,d,e,f,g),(k,l,m,n,h,i,j),p,q,true)))
 (some (inl (o,(a,b,c,d,e,f,g),(k,l,m,n,h,i,j),p,q,r)))) fun(a,(b,c,d,e,f,g,h),(i,j,k,l,m,n,o),p,q,r)=>
 bindE (Y :=  Cls×Cls×zBy×Int×Bool) (zAE (fun(a,b,(c,d,e,f,g,h,i),(j,k,l,m,n,o,p),q,r,s)=>
 bindE (Y:=Int×Int×Cls×Cls×zBy×Int×Bool) (cndO (decide (b<a))
 (cndO (!s)
 (some (inl (a,b,(c,d,e,f,g,h,i),(j,k,l,m,n,o,p),q,r,s)))
 (some (inr (inr (inl ((c,d,e,f,g,h,i),(j,k,l,m,n,o,p),q,r,s))))))
 (some (inr (inr (inl ((c,d,e,f,g,h,i),(j,k,l,m,n,o,p),q,r,s)))))) fun(a,b,(c,d,e,f,g,h,i),(j,k,l,m,n,o,p),q,r,s)=>
 zAA (F222 (q,r,s)) fun(q,r,s,t)=>
 grdO (decide (n.length+1≤9223372036854775807)&&decide ((n.length+1)*8≤140737488355328)) (some (inl (a,wrap .i64 (b+1),(c,d,e,f,g,h,i),(j,k,l,m,n++[q],o,p),r,s,t)))) ((a,(0:Int),(b,c,d,e,f,g,h),(i,j,k,l,m,n,o),p,q,r))) fun((a,b,c,d,e,f,g),(h,i,j,k,l,m,n),o,p,q)=>
 zAA (F221 (o,p,q)) fun(o,p,q,r)=>
 bindE (Y:=Int×Cls×Cls×zBy×Int×Bool) (cndO (decide (5<o))
 (some (inl (o,(a,b,c,d,e,f,g),(h,i,j,k,l,m,n),p,q,true)))
 (some (inl (o,(a,b,c,d,e,f,g),(h,i,j,k,l,m,n),p,q,r)))) fun(a,(b,c,d,e,f,g,h),(i,j,k,l,m,n,o),p,q,r)=>
 bindE (Y :=  Cls×Cls×zBy×Int×Bool) (zAE (fun(a,b,(c,d,e,f,g,h,i),(j,k,l,m,n,o,p),q,r,s)=>
 bindE (Y:=Int×Int×Cls×Cls×zBy×Int×Bool) (cndO (decide (b<a))
 (cndO (!s)
 (some (inl (a,b,(c,d,e,f,g,h,i),(j,k,l,m,n,o,p),q,r,s)))
 (some (inr (inr (inl ((c,d,e,f,g,h,i),(j,k,l,m,n,o,p),q,r,s))))))
 (some (inr (inr (inl ((c,d,e,f,g,h,i),(j,k,l,m,n,o,p),q,r,s)))))) fun(a,b,(c,d,e,f,g,h,i),(j,k,l,m,n,o,p),q,r,s)=>
 zAA (F221 (q,r,s)) fun(q,r,s,t)=>
 zAA (F222 (r,s,t)) fun(r,s,t,u)=>
 zAA (F222 (s,t,u)) fun(s,t,u,v)=>
 grdO (decide (o.length+1≤9223372036854775807)&&decide ((o.length+1)*24≤140737488355328)) (some (inl (a,wrap .i64 (b+1),(c,d,e,f,g,h,i),(j,k,l,m,n,o++[(q,r,s)],p),t,u,v)))) ((a,(0:Int),(b,c,d,e,f,g,h),(i,j,k,l,m,n,o),p,q,r))) fun((a,b,c,d,e,f,g),(h,i,j,k,l,m,n),o,p,q)=>
 zAA (F221 (o,p,q)) fun(o,p,q,r)=>
 bindE (Y:=Int×Cls×Cls×zBy×Int×Bool) (cndO (decide (6<o))
 (some (inl (o,(a,b,c,d,e,f,g),(h,i,j,k,l,m,n),p,q,true)))
 (some (inl (o,(a,b,c,d,e,f,g),(h,i,j,k,l,m,n),p,q,r)))) fun(a,(b,c,d,e,f,g,h),(i,j,k,l,m,n,o),p,q,r)=>
 bindE (Y :=  Cls×Cls×zBy×Int×Bool) (zAE (fun(a,b,(c,d,e,f,g,h,i),(j,k,l,m,n,o,p),q,r,s)=>
 bindE (Y:=Int×Int×Cls×Cls×zBy×Int×Bool) (cndO (decide (b<a))
 (cndO (!s)
 (some (inl (a,b,(c,d,e,f,g,h,i),(j,k,l,m,n,o,p),q,r,s)))
 (some (inr (inr (inl ((c,d,e,f,g,h,i),(j,k,l,m,n,o,p),q,r,s))))))
 (some (inr (inr (inl ((c,d,e,f,g,h,i),(j,k,l,m,n,o,p),q,r,s)))))) fun(a,b,(c,d,e,f,g,h,i),(j,k,l,m,n,o,p),q,r,s)=>
 zAA (F223 (q,r,s)) fun((q,r,s,t,u,v,w,x),y,z,A)=>
 grdO (decide (p.length+1≤9223372036854775807)&&decide ((p.length+1)*104≤140737488355328)) (some (inl (a,wrap .i64 (b+1),(c,d,e,f,g,h,i),(j,k,l,m,n,o,p++[(q,r,s,t,u,v,w,x)]),y,z,A)))) ((a,(0:Int),(b,c,d,e,f,g,h),(i,j,k,l,m,n,o),p,q,r))) fun((_,_,_,_,_,_,_),(a,b,c,d,e,f,g),h,i,j)=>
 some (((a,b,c,d,e,f,g),h,i,j))
def tb142:=insT 142 (mkE 142 false [(0,[])] zRI to142 F142 [.cell 2 34] 111 [100000]) tb223
def ok142:zTb tb142:=okI ok223 tp142 tv142 func142 rfl call142
abbrev to63:SPat:=⟨[(2,.ptr 2 0),(3,.b)],[.box 2 (pl plD)]⟩
def F63:zBy→Option (Bool×Cls):=fun a=>
 cndO (decide (900<(a.length:Int)))
 (some ((false,[],(0:Int),(0:Int),(0:Int),[],[],[])))
 (zAA (F142 (a,0,false)) fun((b,c,d,e,f,g,h),_,i,j)=>
 cndO (j)
 (some ((false,[],(0:Int),(0:Int),(0:Int),[],[],[])))
 (cndO (!decide (i=(a.length:Int)))
 (some ((false,[],(0:Int),(0:Int),(0:Int),[],[],[])))
 (zAA (F55 (b,c,d,e,f,g,h)) fun i=>
 cndO (!decide (i=a))
 (some ((false,[],(0:Int),(0:Int),(0:Int),[],[],[])))
 (some ((true,b,c,d,e,f,g,h))))))
def tb63:=insT 63 (mkE 63 true [] zEV to63 F63 [.cell 2 34,.tmp 3] 36 []) tb142
def ok63:zTb tb63:=okI ok142 noPl noIv func63 rfl call63
abbrev ti152:SPat:=⟨[(0,.sl tg27),(1,.sl tg27)],[]⟩
abbrev zVg:SPat:=⟨[(0,.sl tg27),(1,.sl tg27),(5,.i .i64)],[]⟩
def tv152:Nat→Option SPat:=fun k=>bif k==4 then some zVg else bif k==2000000 then some zCA else none
def tp152:Nat→List Nat×Plan:=fun id=>bif id==6 then(zn35,.fin)else([],.fin)
def F152:List Cst×List Cst→Option Bool:=fun(a,b)=>
 cndO (!decide ((a.length:Int)=(b.length:Int)))
 (some false)
 (bindE (zAE (fun(a,b,c)=>
 cndO (decide (c<(a.length:Int)))
 (grdO (decide (0≤c)) (atO a c.toNat fun d=>grdO (decide (0≤c)) (atO b c.toNat fun e=>cndO (!(decide (d.1=e.1)&&(decide (d.2.1=e.2.1)&&(decide (d.2.2.1=e.2.2.1)&&(decide (d.2.2.2=e.2.2.2)&&true)))))
 (some (inr (inr false)))
 (some (inl (a,b,wrap .i64 (c+1)))))))
 (some (inr (inl ())))) ((a,b,(0:Int)))) fun _=>
 some true)
def tb152:=insT 152 (mkE 152 true [] ti152 zBu F152 [.tmp 4] 26 []) tb63
def ok152:zTb tb152:=okI ok63 tp152 tv152 func152 rfl call152
abbrev ti282:SPat:=⟨[(0,.sl zBv),(1,.sl zBv)],[]⟩
abbrev zVR:SPat:=⟨[(0,.sl zBv),(1,.sl zBv),(5,.i .i64)],[]⟩
def tv282:Nat→Option SPat:=fun k=>bif k==4 then some zVR else bif k==2000000 then some zCA else none
def tp282:Nat→List Nat×Plan:=fun id=>bif id==6 then(zn35,.fin)else([],.fin)
def F282:List Knd×List Knd→Option Bool:=fun(a,b)=>
 cndO (!decide ((a.length:Int)=(b.length:Int)))
 (some false)
 (bindE (zAE (fun(a,b,c)=>
 cndO (decide (c<(a.length:Int)))
 (grdO (decide (0≤c)) (atO a c.toNat fun d=>grdO (decide (0≤c)) (atO b c.toNat fun e=>cndO (!(decide (d.1=e.1)&&(decide (d.2=e.2)&&true)))
 (some (inr (inr false)))
 (some (inl (a,b,wrap .i64 (c+1)))))))
 (some (inr (inl ())))) ((a,b,(0:Int)))) fun _=>
 some true)
def tb282:=insT 282 (mkE 282 true [] ti282 zBu F282 [.tmp 4] 26 []) tb152
def ok282:zTb tb282:=okI ok152 tp282 tv282 func282 rfl call282
abbrev ti228:SPat:=⟨[(0,.sl zBd),(1,.sl zBd)],[]⟩
abbrev zVT:SPat:=⟨[(0,.sl zBd),(1,.sl zBd),(5,.i .i64)],[]⟩
def tv228:Nat→Option SPat:=fun k=>bif k==4 then some zVT else bif k==2000000 then some zCA else bif k==2000001 then some zVT else none
def tp228:Nat→List Nat×Plan:=fun id=>bif id==6 then([0,1,2,3,4,5,6,7,8,9,10,11,12,13,14,15,16,17,18,19,20,21],(.br 22 zn28 [] [23,24,25,26,27,28,29,30,31,32,33,34,35] (.br 36 [35,34,33,32,31,30,29,28,27,26,25,24,23,22,21,20,19,18,17,16,15,14,13,12,11,10,9,8,7,6,5,4,3,2,1,0] [] [37,38] .fin .fin) .fin))else([],.fin)
def F228:List Frm×List Frm→Option Bool:=fun(a,b)=>
 cndO (!decide ((a.length:Int)=(b.length:Int)))
 (some false)
 (bindE (zAE (fun(a,b,c)=>
 cndO (decide (c<(a.length:Int)))
 (bindE (Y:=List Frm×List Frm×Int) (grdO (decide (0≤c)) (atO a c.toNat fun d=>grdO (decide (0≤c)) (atO b c.toNat fun e=>cndO (!decide (d.1=e.1))
 (some (inr (inr (inr false))))
 (grdO (decide (0≤c)) (atO a c.toNat fun d=>grdO (decide (0≤c)) (atO b c.toNat fun e=>zAA (F282 (d.2.1,e.2.1)) fun d=>
 cndO (!d)
 (some (inr (inr (inr false))))
 (grdO (decide (0≤c)) (atO a c.toNat fun d=>grdO (decide (0≤c)) (atO b c.toNat fun e=>zAA (F282 (d.2.2,e.2.2)) fun d=>
 cndO (!d)
 (some (inr (inr (inr false))))
 (some (inl (a,b,c)))))))))))) fun(a,b,c)=>
 some (inl (a,b,wrap .i64 (c+1))))
 (some (inr (inl ())))) ((a,b,(0:Int)))) fun _=>
 some true)
def tb228:=insT 228 (mkE 228 true [] ti228 zBu F228 [.tmp 4] 56 []) tb282
def ok228:zTb tb228:=okI ok282 tp228 tv228 func228 rfl call228
abbrev ti153:SPat:=⟨[(0,.agg (pl plM)),(1,.agg (pl plM))],[]⟩
abbrev zVf:SPat:=⟨[(2,.ptr 2 0),(3,.ptr 3 0),(5,.i .i64)],zo15⟩
abbrev zDK:SPat:=⟨[(2,.ptr 2 0),(3,.ptr 3 0)],zo15⟩
def tv153:Nat→Option SPat:=fun k=>bif k==4 then some zVf else bif k==1000003 then some zDK else bif k==2000000 then some zDK else none
def tp153:Nat→List Nat×Plan:=fun id=>bif id==6 then(zn14,.fin)else([],.fin)
def F153 :  Mth×Mth→Option Bool:=fun((a,b,c,d,e,f,g,h),i,j,k,l,m,n,o,p)=>
 bindE (Y :=  Mth×Mth) (cndO (!decide (a=i))
 (some (inr false))
 (cndO (!decide (b=j))
 (some (inr false))
 (cndO (!decide (c=k))
 (some (inr false))
 (cndO (!decide (d=l))
 (some (inr false))
 (cndO (!decide (e=m))
 (some (inr false))
 (cndO (!decide (f=n))
 (some (inr false))
 (cndO (!decide ((g.length:Int)=(o.length:Int)))
 (some (inr false))
 (some (inl ((a,b,c,d,e,f,g,h),i,j,k,l,m,n,o,p)))))))))) fun((a,b,c,d,e,f,g,h),i,j,k,l,m,n,o,p)=>
 bindE (Y :=  Mth×Mth) (zAE (fun(a,(b,c,d,e,f,g,h,i),j,k,l,m,n,o,p,q)=>
 cndO (decide (a<(h.length:Int)))
 (grdO (decide (0≤a)) (atO h a.toNat fun r=>grdO (decide (0≤a)) (atO p a.toNat fun s=>cndO (!(decide (r.1=s.1)&&(decide (r.2.1=s.2.1)&&(decide (r.2.2.1=s.2.2.1)&&(decide (r.2.2.2=s.2.2.2)&&true)))))
 (some (inr (inr false)))
 (some (inl (wrap .i64 (a+1),(b,c,d,e,f,g,h,i),j,k,l,m,n,o,p,q))))))
 (some (inr (inl ((b,c,d,e,f,g,h,i),j,k,l,m,n,o,p,q))))) (((0:Int),(a,b,c,d,e,f,g,h),i,j,k,l,m,n,o,p))) fun((_,_,_,_,_,_,_,a),_,_,_,_,_,_,_,b)=>
 zAA (F228 (a,b)) fun a=>
 some (a)
def tb153:=insT 153 (mkE 153 true [] ti153 zBu F153 [.tmp 4] 78 []) tb228
def ok153:zTb tb153:=okI ok228 tp153 tv153 func153 rfl call153
abbrev ti70:SPat:=⟨[(0,.agg (pl plC)),(1,.agg (pl plC))],[]⟩
abbrev ts70_4:SPat:=⟨[(2,.ptr 2 0),(3,.ptr 3 0),(5,.i .i64)],zo16⟩
abbrev ts70_9:SPat:=⟨[(2,.ptr 2 0),(3,.ptr 3 0),(6,.i .i64)],zo16⟩
abbrev ts70_14:SPat:=⟨[(2,.ptr 2 0),(3,.ptr 3 0),(7,.i .i64)],zo16⟩
abbrev zCu:SPat:=⟨[(2,.ptr 2 0),(3,.ptr 3 0)],zo16⟩
def tv70:Nat→Option SPat:=fun k=>bif k==4 then some ts70_4 else bif k==9 then some ts70_9 else bif k==14 then some ts70_14 else bif k==1000003 then some zCu else bif k==2000000 then some zCu else bif k==2000002 then some zCu else bif k==2000004 then some zCA else none
def tp70:Nat→List Nat×Plan:=fun id=>bif id==6 then(zn14,.fin)else bif id==11 then(zn14,.fin)else bif id==16 then(zn7,(.br 10 zn1 [] [11] .fin .fin))else([],.fin)
def F70 :  Cls×Cls→Option Bool:=fun((a,b,c,d,e,f,g),h,i,j,k,l,m,n)=>
 bindE (Y :=  Cls×Cls) (zAA (F152 (a,h)) fun o=>
 cndO (!o)
 (some (inr false))
 (cndO (!decide (b=i))
 (some (inr false))
 (cndO (!decide (c=j))
 (some (inr false))
 (cndO (!decide (d=k))
 (some (inr false))
 (cndO (!decide ((e.length:Int)=(l.length:Int)))
 (some (inr false))
 (cndO (!decide ((f.length:Int)=(m.length:Int)))
 (some (inr false))
 (cndO (!decide ((g.length:Int)=(n.length:Int)))
 (some (inr false))
 (some (inl ((a,b,c,d,e,f,g),h,i,j,k,l,m,n)))))))))) fun((a,b,c,d,e,f,g),h,i,j,k,l,m,n)=>
 bindE (Y :=  Cls×Cls) (zAE (fun(a,(b,c,d,e,f,g,h),i,j,k,l,m,n,o)=>
 cndO (decide (a<(f.length:Int)))
 (grdO (decide (0≤a)) (atO f a.toNat fun p=>grdO (decide (0≤a)) (atO m a.toNat fun q=>cndO (!decide (p=q))
 (some (inr (inr false)))
 (some (inl (wrap .i64 (a+1),(b,c,d,e,f,g,h),i,j,k,l,m,n,o))))))
 (some (inr (inl ((b,c,d,e,f,g,h),i,j,k,l,m,n,o))))) (((0:Int),(a,b,c,d,e,f,g),h,i,j,k,l,m,n))) fun((a,b,c,d,e,f,g),h,i,j,k,l,m,n)=>
 bindE (Y :=  Cls×Cls) (zAE (fun(a,(b,c,d,e,f,g,h),i,j,k,l,m,n,o)=>
 cndO (decide (a<(g.length:Int)))
 (grdO (decide (0≤a)) (atO g a.toNat fun p=>grdO (decide (0≤a)) (atO n a.toNat fun q=>cndO (!(decide (p.1=q.1)&&(decide (p.2.1=q.2.1)&&(decide (p.2.2=q.2.2)&&true))))
 (some (inr (inr false)))
 (some (inl (wrap .i64 (a+1),(b,c,d,e,f,g,h),i,j,k,l,m,n,o))))))
 (some (inr (inl ((b,c,d,e,f,g,h),i,j,k,l,m,n,o))))) (((0:Int),(a,b,c,d,e,f,g),h,i,j,k,l,m,n))) fun((a,b,c,d,e,f,g),h,i,j,k,l,m,n)=>
 bindE (zAE (fun(a,(b,c,d,e,f,g,h),i,j,k,l,m,n,o)=>
 cndO (decide (a<(h.length:Int)))
 (grdO (decide (0≤a)) (atO h a.toNat fun p=>grdO (decide (0≤a)) (atO o a.toNat fun q=>zAA (F153 ((p.1,p.2.1,p.2.2.1,p.2.2.2.1,p.2.2.2.2.1,p.2.2.2.2.2.1,p.2.2.2.2.2.2.1,p.2.2.2.2.2.2.2),q.1,q.2.1,q.2.2.1,q.2.2.2.1,q.2.2.2.2.1,q.2.2.2.2.2.1,q.2.2.2.2.2.2.1,q.2.2.2.2.2.2.2)) fun p=>
 cndO (!p)
 (some (inr (inr false)))
 (some (inl (wrap .i64 (a+1),(b,c,d,e,f,g,h),i,j,k,l,m,n,o))))))
 (some (inr (inl ())))) (((0:Int),(a,b,c,d,e,f,g),h,i,j,k,l,m,n))) fun _=>
 some (true)
def tb70:=insT 70 (mkE 70 true [] ti70 zBu F70 [.tmp 4] 117 []) tb153
def ok70:zTb tb70:=okI ok153 tp70 tv70 func70 rfl call70
def F22:Cls→Option zBy:=fun(a,b,c,d,e,f,g)=>
 zAA (F69 (a,b,c,d,e,f,g)) fun h=>
 cndO (!h)
 (some ([]))
 (zAA (F55 (a,b,c,d,e,f,g)) fun h=>
 zAA (F63 h) fun(i,j,k,l,m,n,o,p)=>
 cndO (!i)
 (some ([]))
 (zAA (F70 ((j,k,l,m,n,o,p),a,b,c,d,e,f,g)) fun a=>
 cndO (!a)
 (some ([]))
 (some h)))
def tb22:=insT 22 (mkE 22 true [] ti69 zEU F22 [.tmp 2] 25 []) tb70
def ok22:zTb tb22:=okI ok70 noPl noIv func22 rfl call22
abbrev to214:SPat:=⟨[(2,.own .str true),(3,.s),(4,.b)],[]⟩
abbrev zQy:SPat:=⟨[(0,.s),(5,.own .str true),(6,.i .i64)],[]⟩
abbrev zMq:SPat:=⟨[(0,.s),(5,.own .str true)],[]⟩
abbrev zMp:SPat:=⟨[(0,.s),(5,.own .str true),(6,.i .i64),(7,.i .i64)],[]⟩
def tv214:Nat→Option SPat:=fun k=>bif k==5 then some zQy else bif k==1000004 then some zMq else bif k==1000006 then some zQy else bif k==1000009 then some zMp else bif k==2000000 then some zQy else none
def F214:zBy→Option (List zBy×zBy×Bool):=fun a=>
 bindE (Y:=zBy×List zBy) (cndO (decide ((a.length:Int)=0))
 (some (inr ([],[],false)))
 (atO a 0 fun b=>cndO (!decide ((b.toNat:Int)=40))
 (some (inr ([],[],false)))
 (some (inl (a,[]))))) fun(a,b)=>
 bindE (Y:=zBy×List zBy×Int) (zAE (fun(a,b,c)=>
 bindE (Y:=zBy×List zBy×Int) (cndO (decide (c<(a.length:Int)))
 (grdO (decide (0≤c)) (atO a c.toNat fun d=>cndO (!decide ((d.toNat:Int)=41))
 (some (inl (a,b,c)))
 (some (inr (inr (inl (a,b,c)))))))
 (some (inr (inr (inl (a,b,c)))))) fun(a,b,c)=>
 zAA (F213 (a,c)) fun d=>
 bindE (Y:=zBy×List zBy×Int×Int) (cndO (decide (d<0))
 (some (inr (inr (inr ([],[],false)))))
 (cndO (decide (4≤(b.length:Int)))
 (some (inr (inr (inr ([],[],false)))))
 (some (inl (a,b,c,d))))) fun(a,b,c,d)=>
 grdO (decide (0≤c)&&decide (c≤d)&&decide (d≤(a.length:Int))) (grdO (decide (b.length+1≤9223372036854775807)&&decide ((b.length+1)*16≤140737488355328)) (some (inl (a,b++[List.drop c.toNat (List.take d.toNat a)],d))))) ((a,b,(1:Int)))) fun(a,b,c)=>
 cndO (decide ((a.length:Int)≤c))
 (some (([],[],false)))
 (grdO (decide (0≤wrap .i64 (c+1))&&decide (wrap .i64 (c+1)≤(a.length:Int))&&decide ((a.length:Int)≤(a.length:Int))) (cndO (!decide (List.drop (Int.toNat (wrap .i64 (c+1))) (List.take (Int.toNat (a.length:Int)) a)=[(86:UInt8)]))
 (zAA (F128 (List.drop (Int.toNat (wrap .i64 (c+1))) (List.take (Int.toNat (a.length:Int)) a))) fun d=>
 cndO (!d)
 (some (([],[],false)))
 (some ((b,List.drop (Int.toNat (wrap .i64 (c+1))) (List.take (Int.toNat (a.length:Int)) a),true))))
 (some ((b,List.drop (Int.toNat (wrap .i64 (c+1))) (List.take (Int.toNat (a.length:Int)) a),true)))))
def tb214:=insT 214 (mkE 214 true [] zEV to214 F214 [.tmp 2,.tmp 3,.tmp 4] 63 []) tb22
def ok214:zTb tb214:=okI ok22 noPl tv214 func214 rfl call214
def F129:zBy→Option Bool:=fun a=>
 zAA (F214 a) fun(_,_,a)=>
 some (a)
def tb129:=insT 129 (mkE 129 true [] zEV zEL F129 [.tmp 2] 13 []) tb214
def ok129:zTb tb129:=okI ok214 noPl noIv func129 rfl call129
abbrev zRJ:SPat:=⟨[(0,.sl tg27),(1,.i .i64)],[]⟩
abbrev to215:SPat:=⟨[(4,.ptr 4 0)],[.box 4 (pl zo4)]⟩
def F215:List Cst×Int→Option Cst:=fun(a,b)=>
 zAA (F107 (b,1,(a.length:Int))) fun c=>
 cndO (c)
 (grdO (decide (0≤wrap .i64 (b-1))) (atO a (Int.toNat (wrap .i64 (b-1))) fun a=>some ((a.1,a.2.1,a.2.2.1,a.2.2.2))))
 (some (((0:Int),[],(0:Int),(0:Int))))
def tb215:=insT 215 (mkE 215 true [] zRJ to215 F215 [.cell 4 27] 15 []) tb129
def ok215:zTb tb215:=okI ok129 noPl noIv func215 rfl call215
abbrev to130:SPat:=⟨[(4,.s)],[]⟩
def F130:List Cst×Int→Option zBy:=fun(a,b)=>
 zAA (F215 (a,b)) fun(b,_,c,_)=>
 zAA (F215 (a,c)) fun(a,c,_,_)=>
 cndO (!decide (b=2))
 (some ([]))
 (cndO (!decide (a=1))
 (some ([]))
 (zAA (F127 c) fun a=>
 cndO (!a)
 (some ([]))
 (some c)))
def tb130:=insT 130 (mkE 130 true [] zRJ to130 F130 [.tmp 4] 30 []) tb215
def ok130:zTb tb130:=okI ok215 noPl noIv func130 rfl call130
def F131:List Cst×Int→Option zBy:=fun(a,b)=>
 zAA (F215 (a,b)) fun(a,b,_,_)=>
 cndO (!decide (a=1))
 (some ([]))
 (some b)
def tb131:=insT 131 (mkE 131 true [] zRJ to130 F131 [.tmp 4] 14 []) tb130
def ok131:zTb tb131:=okI ok130 noPl noIv func131 rfl call131
abbrev to132:SPat:=⟨[(4,.s),(5,.s),(6,.s)],[]⟩
def tp132:Nat→List Nat×Plan:=fun id=>bif id==3 then([0,1,2,4,5,6,8,9,10],(.br 3 zn16 [4,5,6,8,9,10] [] (.br 7 zn13 [8,9,10] [] (.br 11 zn15 [] [] (.br 12 zn10 [] [] (.br 13 zn12 [] [] (.br 14 zn22 [] [] .fin .fin) .fin) .fin) .fin) .fin) .fin))else([],.fin)
def F132:List Cst×Int→Option (zBy×zBy×zBy):=fun(a,b)=>
 zAA (F215 (a,b)) fun(_,_,b,c)=>
 zAA (F215 (a,c)) fun(_,_,c,d)=>
 zAA (F130 (a,b)) fun b=>
 seqU (seqU (grdO (decide (a=a)) (some ())) (seqU (grdO (decide (c=c)) (some ())) (seqU (grdO (decide (a=a)) (some ())) (seqU (grdO (decide (d=d)) (some ())) (some ()))))) (zAA (F131 (a,c)) fun c=>
 seqU (seqU (grdO (decide (a=a)) (some ())) (seqU (grdO (decide (d=d)) (some ())) (some ()))) (zAA (F131 (a,d)) fun a=>
 some ((b,c,a))))
def tb132:=insT 132 (mkE 132 true [] zRJ to132 F132 [.tmp 4,.tmp 5,.tmp 6] 28 []) tb131
def ok132:zTb tb132:=okI ok131 tp132 noIv func132 rfl call132
abbrev ti133:SPat:=⟨[(0,.sl tg27),(1,.i .i64),(2,.i .i64)],[]⟩
def F133:List Cst×Int×Int→Option Bool:=fun(a,b,c)=>
 zAA (F215 (a,b)) fun(a,_,_,_)=>
 some (decide (a=c))
def tb133:=insT 133 (mkE 133 true [] ti133 zKj F133 [.tmp 6] 13 []) tb132
def ok133:zTb tb133:=okI ok132 noPl noIv func133 rfl call133
abbrev zPC:SPat:=⟨[(5,.ptr 5 0),(9,.s)],[.box 5 (pl zo4)]⟩
def tv53:Nat→Option SPat:=fun k=>bif k==1000013 then some zPC else none
def F53:List Cst×Int→Option Bool:=fun(a,b)=>
 grdO (decide (0≤b)) (atO a b.toNat fun c=>cndO (decide (c.1=1))
 (cndO (decide (c.2.2.1=0))
 (cndO (decide (c.2.2.2=0))
 (zAA (F127 c.2.1) fun a=>
 cndO (a)
 (some true)
 (zAA (F128 c.2.1) fun a=>
 cndO (a)
 (some true)
 (zAA (F129 c.2.1) fun a=>
 some a)))
 (some false))
 (some false))
 (cndO (decide (c.1=2))
 (cndO (decide (c.2.1=[]))
 (cndO (decide (c.2.2.2=0))
 (zAA (F130 (a,wrap .i64 (b+1))) fun a=>
 some (!decide (a=[])))
 (some false))
 (some false))
 (cndO (decide (c.1=3))
 (zAA (F131 (a,c.2.2.2)) fun b=>
 cndO (decide (c.2.1=[]))
 (zAA (F131 (a,c.2.2.1)) fun a=>
 zAA (F127 a) fun a=>
 cndO (a)
 (zAA (F128 b) fun a=>
 cndO (a)
 (some true)
 (zAA (F129 b) fun a=>
 some a))
 (some false))
 (some false))
 (zAA (F132 (a,wrap .i64 (b+1))) fun(_,_,b)=>
 bindE (Y:=zBy×Cst) (zAA (F107 (c.1,4,6)) fun d=>
 cndO (!d)
 (some (inr false))
 (cndO (!decide (c.2.1=[]))
 (some (inr false))
 (zAA (F130 (a,c.2.2.1)) fun d=>
 cndO (decide (d=[]))
 (some (inr false))
 (zAA (F133 (a,c.2.2.2,3)) fun a=>
 cndO (!a)
 (some (inr false))
 (some (inl (b,c.1,c.2.1,c.2.2.1,c.2.2.2))))))) fun(a,b,_,_,_)=>
 cndO (decide (b=4))
 (zAA (F128 a) fun a=>
 some a)
 (zAA (F129 a) fun a=>
 some a)))))
def tb53:=insT 53 (mkE 53 true [] zRJ zBu F53 [.tmp 4] 120 []) tb133
def ok53:zTb tb53:=okI ok133 noPl tv53 func53 rfl call53
abbrev ti15:SPat:=⟨[(0,.sl tg27)],[]⟩
abbrev ts15_2:SPat:=⟨[(0,.sl tg27),(3,.i .i64)],[]⟩
def tv15:Nat→Option SPat:=fun k=>bif k==2 then some ts15_2 else bif k==1000004 then some ts15_2 else bif k==2000000 then some ti15 else none
def F15:List Cst→Option Int:=fun a=>
 bindE (Y:=List Cst) (zAE (fun(a,b)=>
 bindE (Y:=List Cst×Int) (cndO (decide (b<(a.length:Int)))
 (cndO (decide (b<60))
 (some (inl (a,b)))
 (some (inr (inr (inl a)))))
 (some (inr (inr (inl a))))) fun(a,b)=>
 zAA (F53 (a,b)) fun c=>
 cndO (!c)
 (some (inr (inr (wrap .i64 (b+1)))))
 (some (inl (a,wrap .i64 (b+1))))) ((a,(0:Int)))) fun a=>
 cndO (decide (60<(a.length:Int)))
 (some ((61:Int)))
 (some ((0:Int)))
def tb15:=insT 15 (mkE 15 true [] ti15 zJG F15 [.tmp 2] 23 []) tb53
def ok15:zTb tb15:=okI ok53 noPl tv15 func15 rfl call15
abbrev ts175_10:SPat:=⟨[(1,.ptr 1 0),(3,.s),(4,.i .i64),(5,.i .i64)],zo11⟩
def tv175:Nat→Option SPat:=fun k=>bif k==5 then some zSP else bif k==10 then some ts175_10 else bif k==1000004 then some zBO else bif k==1000016 then some zBO else bif k==2000000 then some zBO else bif k==2000001 then some zSP else bif k==2000002 then some zSP else none
def tp175:Nat→List Nat×Plan:=fun id=>bif id==7 then(zn8,(.br 7 zn13 [] [8] .fin .fin))else bif id==12 then([0,1,2,3,4,5,6,8,9,10,11,12,13,14],(.br 7 zn13 [8,9,10,11,12,13,14] [] (.br 15 zn32 [] [16] .fin .fin) .fin))else([],.fin)
def F175:Cls→Option Bool:=fun(a,b,c,d,e,f,g)=>
 zAA (F130 (a,d)) fun h=>
 bindE (Y:=zBy×Cls) (zAA (F130 (a,c)) fun i=>
 cndO (decide (i=[]))
 (some (inr false))
 (cndO (decide (h=[]))
 (some (inr false))
 (zAA (F130 (a,c)) fun i=>
 cndO (decide (h=i))
 (some (inr false))
 (zAA (F107 (b,0,7)) fun i=>
 cndO (!i)
 (some (inr false))
 (some (inl (h,a,b,c,d,e,f,g))))))) fun(a,b,c,d,e,f,g,h)=>
 bindE (Y:=zBy×Cls) (zAE (fun(a,b,c,d,e,f,g,h,i)=>
 cndO (decide (b<(g.length:Int)))
 (bindE (Y:=zBy×Int×Cls) (grdO (decide (0≤b)) (atO g b.toNat fun j=>zAA (F130 (c,j)) fun j=>
 cndO (decide (j=[]))
 (some (inr (inr (inr false))))
 (bindE (Y:=zBy×Int×Cls) (zAE (fun(a,b,c,d,e,f,g,h,i,j)=>
 cndO (decide (c<b))
 (grdO (decide (0≤c)) (atO h c.toNat fun k=>grdO (decide (0≤b)) (atO h b.toNat fun l=>zAA (F130 (d,k)) fun k=>
 seqU (seqU (grdO (decide (d=d)) (some ())) (seqU (grdO (decide (h=h)) (some ())) (seqU (grdO (decide (b=b)) (some ())) (seqU (grdO (decide (0≤b)) (atO h b.toNat fun a=>grdO (decide (a=l)&&true) (some ()))) (seqU (grdO (decide (l=l)) (some ())) (some ())))))) (zAA (F130 (d,l)) fun l=>
 cndO (decide (k=l))
 (some (inr (inr (inr (inr (inr false))))))
 (some (inl (a,b,wrap .i64 (c+1),d,e,f,g,h,i,j)))))))
 (some (inr (inl (a,b,d,e,f,g,h,i,j))))) ((a,b,(0:Int),c,d,e,f,g,h,i))) fun(a,b,c,d,e,f,g,h,i)=>
 some (inl (a,b,c,d,e,f,g,h,i))))) fun(a,b,c,d,e,f,g,h,i)=>
 some (inl (a,wrap .i64 (b+1),c,d,e,f,g,h,i)))
 (some (inr (inl (a,c,d,e,f,g,h,i))))) ((a,(0:Int),b,c,d,e,f,g,h))) fun(a,b,c,d,e,f,g,h)=>
 bindE (Y:=zBy×Cls) (zAA (F108 (c,2)) fun i=>
 cndO (i)
 (zAA (F108 (c,4)) fun i=>
 cndO (i)
 (some (inr false))
 (some (inl (a,b,c,d,e,f,g,h))))
 (some (inl (a,b,c,d,e,f,g,h)))) fun(a,_,b,_,_,_,_,_)=>
 zAA (F108 (b,1)) fun c=>
 cndO (!c)
 (some true)
 (zAA (F108 (b,4)) fun b=>
 cndO (b)
 (some (decide (a=[(79:UInt8),98,106])))
 (some false))
def tb175:=insT 175 (mkE 175 true [] ti69 zEL F175 [.tmp 2] 95 []) tb15
def ok175:zTb tb175:=okI ok15 tp175 tv175 func175 rfl call175
abbrev zGR:SPat:=⟨[(1,.ptr 1 0),(3,.i .i64)],zo11⟩
abbrev ts176_10:SPat:=⟨[(1,.ptr 1 0),(3,.i .i64),(4,.ptr 4 0),(5,.i .i64)],[.box 1 (pl plC),.box 4 (pl zo6)]⟩
abbrev zGt:SPat:=⟨[(1,.ptr 1 0),(3,.i .i64),(4,.ptr 4 0)],[.box 1 (pl plC),.box 4 (pl zo6)]⟩
def tv176:Nat→Option SPat:=fun k=>bif k==2 then some zGR else bif k==10 then some ts176_10 else bif k==1000007 then some zGt else bif k==1000009 then some zGt else bif k==2000000 then some zCA else bif k==2000001 then some zGR else bif k==2000002 then some zGR else none
def tp176:Nat→List Nat×Plan:=fun id=>bif id==12 then([0,1,2,3,4,5,6,7,9,10,11,12],(.br 8 zn36 [9,10,11,12] [] (.br 13 zn12 [] [14] .fin .fin) .fin))else([],.fin)
def F176:Cls→Option Bool:=fun(a,b,c,d,e,f,g)=>
 bindE (zAE (fun(a,b,c,d,e,f,g,h)=>
 cndO (decide (a<(g.length:Int)))
 (bindE (Y:=Int×Cls) (grdO (decide (0≤a)) (atO g a.toNat fun i=>bindE (Y:=Int×Cls×Int×Int×Int) (zAA (F131 (b,i.2.1)) fun j=>
 zAA (F127 j) fun j=>
 cndO (!j)
 (some (inr (inr (inr (inr false)))))
 (zAA (F131 (b,i.2.2)) fun j=>
 zAA (F128 j) fun j=>
 cndO (!j)
 (some (inr (inr (inr (inr false)))))
 (zAA (F107 (i.1,0,3)) fun j=>
 cndO (!j)
 (some (inr (inr (inr (inr false)))))
 (some (inl (a,(b,c,d,e,f,g,h),i.1,i.2.1,i.2.2)))))) fun(a,(b,c,d,e,f,g,h),i,j,k)=>
 bindE (Y:=Int×Cls×Int×Int×Int) (zAA (F108 (c,1)) fun l=>
 cndO (l)
 (cndO (!decide (i=1))
 (some (inr (inr (inr (inr false)))))
 (some (inl (a,(b,c,d,e,f,g,h),i,j,k))))
 (some (inl (a,(b,c,d,e,f,g,h),i,j,k)))) fun(a,(b,c,d,e,f,g,h),i,j,k)=>
 bindE (Y:=Int×Cls) (zAE (fun(a,b,(c,d,e,f,g,h,i),j,k,l)=>
 cndO (decide (b<a))
 (grdO (decide (0≤b)) (atO h b.toNat fun m=>zAA (F131 (c,m.2.1)) fun m=>
 seqU (seqU (grdO (decide (c=c)) (some ())) (seqU (grdO (decide (k=k)) (some ())) (some ()))) (zAA (F131 (c,k)) fun n=>
 cndO (decide (m=n))
 (some (inr (inr (inr (inr (inr false))))))
 (some (inl (a,wrap .i64 (b+1),(c,d,e,f,g,h,i),j,k,l))))))
 (some (inr (inl (a,c,d,e,f,g,h,i))))) ((a,(0:Int),(b,c,d,e,f,g,h),i,j,k))) fun(a,b,c,d,e,f,g,h)=>
 some (inl (a,b,c,d,e,f,g,h)))) fun(a,b,c,d,e,f,g,h)=>
 some (inl (wrap .i64 (a+1),b,c,d,e,f,g,h)))
 (some (inr (inl ())))) (((0:Int),a,b,c,d,e,f,g))) fun _=>
 some (true)
def tb176:=insT 176 (mkE 176 true [] ti69 zEL F176 [.tmp 2] 68 []) tb175
def ok176:zTb tb176:=okI ok175 tp176 tv176 func176 rfl call176
abbrev ti244:SPat:=⟨[(0,.agg (pl plC)),(1,.agg (pl plM))],[]⟩
abbrev zMh:SPat:=⟨[(2,.ptr 2 0),(3,.ptr 3 0)],zo17⟩
def tv244:Nat→Option SPat:=fun k=>bif k==1000005 then some zMh else none
def F244 :  Cls×Mth→Option Bool:=fun((a,b,c,d,e,f,g),h,i,j,k,l,m,n,o)=>
 zAA (F107 (h,0,15)) fun p=>
 cndO (!p)
 (some false)
 (bindE (Y :=  Cls×Mth) (zAA (F131 (a,i)) fun p=>
 cndO (decide (p=[(98:UInt8),101,103,105,110]))
 (cndO (!decide (h=1))
 (some (inr false))
 (zAA (F131 (a,j)) fun p=>
 cndO (!decide (p=[(40:UInt8),41,86]))
 (some (inr false))
 (some (inl ((a,b,c,d,e,f,g),h,i,j,k,l,m,n,o)))))
 (some (inl ((a,b,c,d,e,f,g),h,i,j,k,l,m,n,o)))) fun((_,a,_,_,_,_,_),b,_,_,_,_,_,_,_)=>
 zAA (F108 (b,8)) fun c=>
 cndO (c)
 (cndO (decide (b=8))
 (zAA (F108 (a,4)) fun a=>
 some a)
 (some false))
 (zAA (F108 (a,1)) fun a=>
 cndO (!a)
 (some true)
 (some (decide (b=1)))))
def tb244:=insT 244 (mkE 244 true [] ti244 zBu F244 [.tmp 4] 48 []) tb176
def ok244:zTb tb244:=okI ok176 noPl tv244 func244 rfl call244
abbrev zVe:SPat:=⟨[(1,.ptr 1 0),(3,.i .i64),(4,.ptr 4 0),(5,.i .i64)],[.box 1 (pl plC),.box 4 (pl plM)]⟩
abbrev zMx:SPat:=⟨[(1,.ptr 1 0),(3,.i .i64),(4,.ptr 4 0)],[.box 1 (pl plC),.box 4 (pl plM)]⟩
def tv177:Nat→Option SPat:=fun k=>bif k==2 then some zGR else bif k==8 then some zVe else bif k==1000007 then some zMx else bif k==2000000 then some zCA else bif k==2000001 then some zGR else bif k==2000002 then some zGR else bif k==2000003 then some zVe else none
def tp177:Nat→List Nat×Plan:=fun id=>bif id==10 then([0,1,2,3,4,5,6,7,9,10,11,12],(.br 8 zn36 [9,10,11,12] [] (.br 13 zn12 [] [14,15,16,17,18,19,20,21,22,23,25,26,27,28] (.br 24 zn26 [25,26,27,28] [] (.br 29 [28,27,26,25,24,23,22,21,20,19,18,17,16,15,14,13,12,11,10,9,8,7,6,5,4,3,2,1,0] [] [30,31] .fin .fin) .fin) .fin) .fin))else([],.fin)
def F177:Cls→Option Bool:=fun(a,b,c,d,e,f,g)=>
 bindE (zAE (fun(a,b,c,d,e,f,g,h)=>
 cndO (decide (a<(h.length:Int)))
 (bindE (Y:=Int×Cls) (grdO (decide (0≤a)) (atO h a.toNat fun i=>bindE (Y:=Int×Cls×Mth) (zAA (F131 (b,i.2.1)) fun j=>
 zAA (F127 j) fun j=>
 cndO (!j)
 (some (inr (inr (inr (inr false)))))
 (zAA (F131 (b,i.2.2.1)) fun j=>
 zAA (F129 j) fun j=>
 cndO (!j)
 (some (inr (inr (inr (inr false)))))
 (zAA (F244 ((b,c,d,e,f,g,h),i.1,i.2.1,i.2.2.1,i.2.2.2.1,i.2.2.2.2.1,i.2.2.2.2.2.1,i.2.2.2.2.2.2.1,i.2.2.2.2.2.2.2)) fun j=>
 cndO (!j)
 (some (inr (inr (inr (inr false)))))
 (some (inl (a,(b,c,d,e,f,g,h),i.1,i.2.1,i.2.2.1,i.2.2.2.1,i.2.2.2.2.1,i.2.2.2.2.2.1,i.2.2.2.2.2.2.1,i.2.2.2.2.2.2.2)))))) fun(a,(b,c,d,e,f,g,h),i,j,k,l,m,n,o,p)=>
 bindE (Y:=Int×Cls) (zAE (fun(a,b,(c,d,e,f,g,h,i),j,k,l,m,n,o,p,q)=>
 cndO (decide (b<a))
 (bindE (Y:=Int×Int×Cls×Mth) (grdO (decide (0≤b)) (atO i b.toNat fun r=>zAA (F131 (c,r.2.1)) fun r=>
 seqU (seqU (grdO (decide (c=c)) (some ())) (seqU (grdO (decide (k=k)) (some ())) (some ()))) (zAA (F131 (c,k)) fun s=>
 cndO (decide (r=s))
 (grdO (decide (0≤b)) (atO i b.toNat fun r=>zAA (F131 (c,r.2.2.1)) fun r=>
 seqU (seqU (grdO (decide (c=c)) (some ())) (seqU (grdO (decide (l=l)) (some ())) (some ()))) (zAA (F131 (c,l)) fun s=>
 cndO (decide (r=s))
 (some (inr (inr (inr (inr (inr (inr false)))))))
 (some (inl (a,b,(c,d,e,f,g,h,i),j,k,l,m,n,o,p,q))))))
 (some (inl (a,b,(c,d,e,f,g,h,i),j,k,l,m,n,o,p,q)))))) fun(a,b,(c,d,e,f,g,h,i),j,k,l,m,n,o,p,q)=>
 some (inl (a,wrap .i64 (b+1),(c,d,e,f,g,h,i),j,k,l,m,n,o,p,q)))
 (some (inr (inl (a,c,d,e,f,g,h,i))))) ((a,(0:Int),(b,c,d,e,f,g,h),i,j,k,l,m,n,o,p))) fun(a,b,c,d,e,f,g,h)=>
 some (inl (a,b,c,d,e,f,g,h)))) fun(a,b,c,d,e,f,g,h)=>
 some (inl (wrap .i64 (a+1),b,c,d,e,f,g,h)))
 (some (inr (inl ())))) (((0:Int),a,b,c,d,e,f,g))) fun _=>
 some (true)
def tb177:=insT 177 (mkE 177 true [] ti69 zEL F177 [.tmp 2] 77 []) tb244
def ok177:zTb tb177:=okI ok244 tp177 tv177 func177 rfl call177
abbrev zMe:SPat:=⟨[(1,.i .i64),(5,.i .i64)],[]⟩
def tv252:Nat→Option SPat:=fun k=>bif k==1000006 then some zMe else none
def F252:zBy×Int→Option Int:=fun(a,b)=>
 cndO (decide ((a.length:Int)=0))
 (some ((0:Int)))
 (atO a 0 fun c=>bindE (cndO (decide ((a.length:Int)=2))
 (atO a 1 fun a=>some (inl (b,wrap .i64 (wrap .i64 (wrap .i64 (c.toNat:Int)*256)+wrap .i64 (a.toNat:Int)))))
 (some (inl (b,wrap .i64 (c.toNat:Int))))) fun(a,b)=>
 cndO (decide (a=1))
 (cndO (decide (32768≤b))
 (some (wrap .i64 (b-65536)))
 (some b))
 (some b))
def tb252:=insT 252 (mkE 252 true [] ti213 zNR F252 [.tmp 4] 30 []) tb177
def ok252:zTb tb252:=okI ok177 noPl tv252 func252 rfl call252
abbrev to193:SPat:=⟨[(2,.own tg89 true),(3,.b)],[]⟩
abbrev zQz:SPat:=⟨[(0,.s),(4,.own tg89 true),(5,.i .i64)],[]⟩
abbrev zMv:SPat:=⟨[(0,.s),(4,.own tg89 true),(5,.i .i64),(6,.i .i64),(7,.i .i64)],[]⟩
abbrev zGs:SPat:=⟨[(4,.own tg89 true)],[]⟩
def tv193:Nat→Option SPat:=fun k=>bif k==3 then some zQz else bif k==1000008 then some zMv else bif k==2000000 then some zGs else none
def F193:zBy→Option (List Fld×Bool):=fun a=>
 bindE (Y:=List Fld) (zAE (fun(a,b,c)=>
 cndO (decide (c<(a.length:Int)))
 (grdO (decide (0≤c)) (atO a c.toNat fun d=>zAA (F251 (wrap .i64 (d.toNat:Int))) fun e=>
 bindE (Y:=zBy×List Fld×Int×Int×Int) (cndO (decide (e<0))
 (some (inr (inr (inr ([],false)))))
 (cndO (decide ((a.length:Int)<wrap .i64 (wrap .i64 (c+1)+e)))
 (some (inr (inr (inr ([],false)))))
 (some (inl (a,b,c,wrap .i64 (d.toNat:Int),e))))) fun(a,b,c,d,e)=>
 grdO (decide (0≤wrap .i64 (c+1))&&decide (wrap .i64 (c+1)≤wrap .i64 (wrap .i64 (c+1)+e))&&decide (wrap .i64 (wrap .i64 (c+1)+e)≤(a.length:Int))) (zAA (F252 (List.drop (Int.toNat (wrap .i64 (c+1))) (List.take (Int.toNat (wrap .i64 (wrap .i64 (c+1)+e))) a),d)) fun f=>
 grdO (decide (b.length+1≤9223372036854775807)&&decide ((b.length+1)*24≤140737488355328)) (some (inl (a,b++[(c,d,f)],wrap .i64 (wrap .i64 (c+1)+e)))))))
 (some (inr (inl b)))) ((a,[],(0:Int)))) fun a=>
 some ((a,decide (0<(a.length:Int))))
def tb193:=insT 193 (mkE 193 true [] zEV to193 F193 [.tmp 2,.tmp 3] 54 []) tb252
def ok193:zTb tb193:=okI ok252 noPl tv193 func193 rfl call193
def F245 :  Cls×Mth→Option Int:=fun((a,_,_,_,_,_,_),b,_,c,_,_,_,_,_)=>
 zAA (F131 (a,c)) fun a=>
 zAA (F214 a) fun(a,_,_)=>
 zAA (F108 (b,1)) fun b=>
 cndO (b)
 (some ((a.length:Int)))
 (some (wrap .i64 ((a.length:Int)+1)))
def tb245:=insT 245 (mkE 245 true [] ti244 zNR F245 [.tmp 4] 26 []) tb193
def ok245:zTb tb245:=okI ok193 noPl noIv func245 rfl call245
abbrev ti254:SPat:=⟨[(0,.sl tg89),(1,.i .i64)],[]⟩
abbrev ts254_2:SPat:=⟨[(0,.sl tg89),(1,.i .i64),(5,.i .i64)],[]⟩
def tv254:Nat→Option SPat:=fun k=>bif k==2 then some ts254_2 else bif k==2000000 then some zCA else none
def F254:List Fld×Int→Option Int:=fun(a,b)=>
 bindE (zAE (fun(a,b,c)=>
 cndO (decide (c<(a.length:Int)))
 (grdO (decide (0≤c)) (atO a c.toNat fun d=>cndO (decide (d.1=b))
 (some (inr (inr c)))
 (some (inl (a,b,wrap .i64 (c+1))))))
 (some (inr (inl ())))) ((a,b,(0:Int)))) fun _=>
 some ((-1:Int))
def tb254:=insT 254 (mkE 254 true [] ti254 zNR F254 [.tmp 4] 20 []) tb245
def ok254:zTb tb254:=okI ok245 noPl tv254 func254 rfl call254
abbrev ti246:SPat:=⟨[(0,.agg (pl plC)),(1,.agg (pl plM)),(2,.sl tg89),(3,.agg (pl zo6))],[]⟩
abbrev to246:SPat:=⟨[(8,.b)],[]⟩
def F246 :  Cls×Mth×List Fld×Int×Int×Int→Option Bool:=fun((a,_,_,_,_,_,_),(_,_,_,_,b,_,_,_),c,_,d,e)=>
 zAA (F107 (d,3,6)) fun f=>
 cndO (f)
 (some (decide (e<b)))
 (zAA (F107 (d,14,18)) fun b=>
 cndO (b)
 (zAA (F254 (c,e)) fun a=>
 some (decide (0≤a)))
 (zAA (F291 d) fun b=>
 cndO (decide (b=0))
 (some true)
 (zAA (F133 (a,e,b)) fun a=>
 some a)))
def tb246:=insT 246 (mkE 246 true [] ti246 to246 F246 [.tmp 8] 39 []) tb254
def ok246:zTb tb246:=okI ok254 noPl noIv func246 rfl call246
abbrev ti247:SPat:=⟨[(0,.agg (pl plC)),(1,.agg (pl plM)),(2,.sl tg89),(3,.agg (pl zo9))],[]⟩
abbrev zMf:SPat:=⟨[(4,.ptr 4 0),(7,.ptr 7 0)],[.box 4 (pl plC),.box 7 (pl zo9)]⟩
def tv247:Nat→Option SPat:=fun k=>bif k==1000003 then some zMf else none
def F247 :  Cls×Mth×List Fld×Int×Int×Int×Int→Option Bool:=fun((a,b,c,d,e,f,g),(_,_,_,_,_,h,_,_),i,j,k,l,m)=>
 bindE (Y :=  Cls×Int×Int×Int×Int) (cndO (decide (k≤j))
 (some (inr false))
 (zAA (F254 (i,j)) fun n=>
 cndO (decide (n<0))
 (some (inr false))
 (cndO (!decide (k=(h.length:Int)))
 (zAA (F254 (i,k)) fun h=>
 cndO (decide (h<0))
 (some (inr false))
 (zAA (F254 (i,l)) fun h=>
 cndO (decide (h<0))
 (some (inr false))
 (some (inl ((a,b,c,d,e,f,g),j,k,l,m)))))
 (zAA (F254 (i,l)) fun h=>
 cndO (decide (h<0))
 (some (inr false))
 (some (inl ((a,b,c,d,e,f,g),j,k,l,m))))))) fun((a,_,_,_,_,_,_),_,_,_,b)=>
 cndO (decide (b=0))
 (some true)
 (zAA (F130 (a,b)) fun a=>
 some (!decide (a=[])))
def tb247:=insT 247 (mkE 247 true [] ti247 to246 F247 [.tmp 8] 54 []) tb246
def ok247:zTb tb247:=okI ok246 noPl tv247 func247 rfl call247
abbrev ti292:SPat:=⟨[(0,.agg (pl plC)),(1,.sl zBv)],[]⟩
abbrev zVQ:SPat:=⟨[(1,.sl zBv),(2,.ptr 2 0),(5,.i .i64)],[.box 2 (pl plC)]⟩
def tv292:Nat→Option SPat:=fun k=>bif k==2 then some zVQ else bif k==2000000 then some zCA else bif k==2000001 then some zVQ else none
def tp292:Nat→List Nat×Plan:=fun id=>bif id==4 then([0,1,2,3,4],(.br 5 zn27 [] [6,7,8,9,10,11,12,13,14,15,16,17,18,19,20,21] (.br 22 zn28 [] [23,24,25,26,27,28,29,30,31,32,33,34,35,36,37,38,39,40,41] .fin .fin) .fin))else([],.fin)
def F292 :  Cls×List Knd→Option Bool:=fun((a,b,c,d,e,f,g),h)=>
 bindE (zAE (fun(a,b,c,d,e,f,g,h,i)=>
 cndO (decide (b<(a.length:Int)))
 (bindE (Y:=List Knd×Int×Cls) (grdO (decide (0≤b)) (atO a b.toNat fun j=>zAA (F107 (j.1,0,3)) fun j=>
 cndO (!j)
 (some (inr (inr (inr false))))
 (grdO (decide (0≤b)) (atO a b.toNat fun j=>cndO (decide (j.1=3))
 (grdO (decide (0≤b)) (atO a b.toNat fun j=>zAA (F130 (c,j.2)) fun j=>
 cndO (decide (j=[]))
 (some (inr (inr (inr false))))
 (grdO (decide (0≤b)) (atO a b.toNat fun j=>cndO (!decide (j.1=3))
 (grdO (decide (0≤b)) (atO a b.toNat fun j=>cndO (!decide (j.2=0))
 (some (inr (inr (inr false))))
 (some (inl (a,b,c,d,e,f,g,h,i)))))
 (some (inl (a,b,c,d,e,f,g,h,i)))))))
 (grdO (decide (0≤b)) (atO a b.toNat fun j=>cndO (!decide (j.1=3))
 (grdO (decide (0≤b)) (atO a b.toNat fun j=>cndO (!decide (j.2=0))
 (some (inr (inr (inr false))))
 (some (inl (a,b,c,d,e,f,g,h,i)))))
 (some (inl (a,b,c,d,e,f,g,h,i))))))))) fun(a,b,c,d,e,f,g,h,i)=>
 some (inl (a,wrap .i64 (b+1),c,d,e,f,g,h,i)))
 (some (inr (inl ())))) ((h,(0:Int),a,b,c,d,e,f,g))) fun _=>
 some (true)
def tb292:=insT 292 (mkE 292 true [] ti292 zBu F292 [.tmp 4] 54 []) tb247
def ok292:zTb tb292:=okI ok247 tp292 tv292 func292 rfl call292
abbrev ti248:SPat:=⟨[(0,.agg (pl plC)),(1,.agg (pl plM)),(2,.sl tg89)],[]⟩
abbrev zVS:SPat:=⟨[(2,.sl tg89),(3,.ptr 3 0),(4,.ptr 4 0),(7,.i .i64)],[.box 3 (pl plC),.box 4 (pl plM)]⟩
def tv248:Nat→Option SPat:=fun k=>bif k==2 then some zVS else bif k==2000000 then some zCA else bif k==2000001 then some zVS else none
def tp248:Nat→List Nat×Plan:=fun id=>bif id==5 then([0,1,2],(.br 3 zn16 [] [4,5,6,7,8,9,10,11,12,13,14,15,16,17,18,19,20,21,22,23,24,25,26,27,28,29,30,31,32,33,34,35,36,37,38,39,40] (.br 41 [40,39,38,37,36,35,34,33,32,31,30,29,28,27,26,25,24,23,22,21,20,19,18,17,16,15,14,13,12,11,10,9,8,7,6,5,4,3,2,1,0] [] [42,43,44,45,46,47] (.br 48 [47,46,45,44,43,42,41,40,39,38,37,36,35,34,33,32,31,30,29,28,27,26,25,24,23,22,21,20,19,18,17,16,15,14,13,12,11,10,9,8,7,6,5,4,3,2,1,0] [] [49,50] .fin .fin) .fin) .fin))else([],.fin)
def F248 :  Cls×Mth×List Fld→Option Bool:=fun((a,b,c,d,e,f,g),(h,i,j,k,l,m,n,o),p)=>
 bindE (zAE (fun(a,b,(c,d,e,f,g,h,i),j,k,l,m,n,o,p,q)=>
 cndO (decide (b<(q.length:Int)))
 (bindE (Y:=List Fld×Int×Cls×Mth) (grdO (decide (0≤b)) (atO q b.toNat fun r=>zAA (F254 (a,r.1)) fun s=>
 cndO (decide (s<0))
 (some (inr (inr (inr false))))
 (cndO (decide (0<b))
 (grdO (decide (0≤wrap .i64 (b-1))) (atO q (Int.toNat (wrap .i64 (b-1))) fun s=>cndO (decide (r.1≤s.1))
 (some (inr (inr (inr false))))
 (cndO (!decide ((r.2.1.length:Int)=n))
 (some (inr (inr (inr false))))
 (cndO (decide (m<(r.2.2.length:Int)))
 (some (inr (inr (inr false))))
 (zAA (F292 ((c,d,e,f,g,h,i),r.2.1)) fun s=>
 cndO (!s)
 (some (inr (inr (inr false))))
 (zAA (F292 ((c,d,e,f,g,h,i),r.2.2)) fun r=>
 cndO (!r)
 (some (inr (inr (inr false))))
 (some (inl (a,b,(c,d,e,f,g,h,i),j,k,l,m,n,o,p,q)))))))))
 (cndO (!decide ((r.2.1.length:Int)=n))
 (some (inr (inr (inr false))))
 (cndO (decide (m<(r.2.2.length:Int)))
 (some (inr (inr (inr false))))
 (zAA (F292 ((c,d,e,f,g,h,i),r.2.1)) fun s=>
 cndO (!s)
 (some (inr (inr (inr false))))
 (zAA (F292 ((c,d,e,f,g,h,i),r.2.2)) fun r=>
 cndO (!r)
 (some (inr (inr (inr false))))
 (some (inl (a,b,(c,d,e,f,g,h,i),j,k,l,m,n,o,p,q)))))))))) fun(a,b,(c,d,e,f,g,h,i),j,k,l,m,n,o,p,q)=>
 some (inl (a,wrap .i64 (b+1),(c,d,e,f,g,h,i),j,k,l,m,n,o,p,q)))
 (some (inr (inl ())))) ((p,(0:Int),(a,b,c,d,e,f,g),h,i,j,k,l,m,n,o))) fun _=>
 some (true)
def tb248:=insT 248 (mkE 248 true [] ti248 zKj F248 [.tmp 6] 72 []) tb292
def ok248:zTb tb248:=okI ok292 tp248 tv248 func248 rfl call248
abbrev ts178_7:SPat:=⟨[(2,.ptr 2 0),(3,.ptr 3 0),(5,.own tg89 true),(7,.i .i64)],zo17⟩
abbrev ts178_12:SPat:=⟨[(2,.ptr 2 0),(3,.ptr 3 0),(5,.own tg89 true),(8,.i .i64)],zo17⟩
abbrev zBt:SPat:=⟨[(2,.ptr 2 0),(3,.ptr 3 0),(5,.own tg89 true)],zo17⟩
def tv178:Nat→Option SPat:=fun k=>bif k==7 then some ts178_7 else bif k==12 then some ts178_12 else bif k==1000006 then some zBt else bif k==2000000 then some zBt else bif k==2000002 then some zBt else none
def tp178:Nat→List Nat×Plan:=fun id=>bif id==4 then([0,1,2,3,4,5,6,7,8,9,10,11],(.br 12 [11,10,7,6,5,4,3,2,1,0] [8,9] [] (.br 13 zn12 [] [14,15] .fin .fin) .fin))else bif id==9 then(zn8,(.br 7 zn13 [] [8] .fin .fin))else bif id==14 then([0,1,2,3,4,5,6,7],(.br 8 zn36 [] [9] .fin .fin))else([],.fin)
def F178 :  Cls×Mth→Option Bool:=fun((a,b,c,d,e,f,g),h,i,j,k,l,m,n,o)=>
 zAA (F108 (h,8)) fun p=>
 cndO (p)
 (some true)
 (zAA (F193 m) fun(p,q)=>
 bindE (Y:=List Fld×Cls×Mth) (cndO (!q)
 (some (inr false))
 (cndO (decide (8<k))
 (some (inr false))
 (zAA (F245 ((a,b,c,d,e,f,g),h,i,j,k,l,m,n,o)) fun q=>
 seqU (seqU (grdO (decide (l=l)) (some ())) (some ())) (zAA (F107 (l,q,8)) fun q=>
 cndO (!q)
 (some (inr false))
 (some (inl (p,(a,b,c,d,e,f,g),h,i,j,k,l,m,n,o))))))) fun(a,(b,c,d,e,f,g,h),i,j,k,l,m,n,o,p)=>
 bindE (Y:=List Fld×Cls×Mth) (zAE (fun(a,b,(c,d,e,f,g,h,i),j,k,l,m,n,o,p,q)=>
 cndO (decide (b<(a.length:Int)))
 (grdO (decide (0≤b)&&decide (b<(a.length:Int))) (atO a b.toNat fun r=>zAA (F246 ((c,d,e,f,g,h,i),(j,k,l,m,n,o,p,q),a,r.1,r.2.1,r.2.2)) fun r=>
 cndO (!r)
 (some (inr (inr false)))
 (some (inl (a,wrap .i64 (b+1),(c,d,e,f,g,h,i),j,k,l,m,n,o,p,q)))))
 (some (inr (inl (a,(c,d,e,f,g,h,i),j,k,l,m,n,o,p,q))))) ((a,(0:Int),(b,c,d,e,f,g,h),i,j,k,l,m,n,o,p))) fun(a,(b,c,d,e,f,g,h),i,j,k,l,m,n,o,p)=>
 bindE (Y:=List Fld×Cls×Mth) (zAE (fun(a,b,(c,d,e,f,g,h,i),j,k,l,m,n,o,p,q)=>
 cndO (decide (b<(p.length:Int)))
 (grdO (decide (0≤b)) (atO p b.toNat fun r=>zAA (F247 ((c,d,e,f,g,h,i),(j,k,l,m,n,o,p,q),a,r.1,r.2.1,r.2.2.1,r.2.2.2)) fun r=>
 cndO (!r)
 (some (inr (inr false)))
 (some (inl (a,wrap .i64 (b+1),(c,d,e,f,g,h,i),j,k,l,m,n,o,p,q)))))
 (some (inr (inl (a,(c,d,e,f,g,h,i),j,k,l,m,n,o,p,q))))) ((a,(0:Int),(b,c,d,e,f,g,h),i,j,k,l,m,n,o,p))) fun(a,(b,c,d,e,f,g,h),i,j,k,l,m,n,o,p)=>
 zAA (F248 ((b,c,d,e,f,g,h),(i,j,k,l,m,n,o,p),a)) fun a=>
 some a)
def tb178:=insT 178 (mkE 178 true [] ti244 zBu F178 [.tmp 4] 70 []) tb248
def ok178:zTb tb178:=okI ok248 tp178 tv178 func178 rfl call178
def tv88:Nat→Option SPat:=fun k=>bif k==10 then some zGR else bif k==2000000 then some zCA else none
def tp88:Nat→List Nat×Plan:=fun id=>bif id==12 then(zn2,(.br 6 [5,4,3,2,1,0] [] [7] .fin .fin))else([],.fin)
def F88:Cls→Option Int:=fun(a,b,c,d,e,f,g)=>
 zAA (F15 a) fun h=>
 cndO (!decide (h=0))
 (some ((2:Int)))
 (zAA (F175 (a,b,c,d,e,f,g)) fun h=>
 cndO (!h)
 (some ((3:Int)))
 (zAA (F176 (a,b,c,d,e,f,g)) fun h=>
 cndO (!h)
 (some ((4:Int)))
 (zAA (F177 (a,b,c,d,e,f,g)) fun h=>
 cndO (!h)
 (some ((5:Int)))
 (bindE (zAE (fun(a,b,c,d,e,f,g,h)=>
 cndO (decide (a<(h.length:Int)))
 (grdO (decide (0≤a)) (atO h a.toNat fun i=>zAA (F178 ((b,c,d,e,f,g,h),i.1,i.2.1,i.2.2.1,i.2.2.2.1,i.2.2.2.2.1,i.2.2.2.2.2.1,i.2.2.2.2.2.2.1,i.2.2.2.2.2.2.2)) fun i=>
 cndO (!i)
 (some (inr (inr (6:Int))))
 (some (inl (wrap .i64 (a+1),b,c,d,e,f,g,h)))))
 (some (inr (inl ())))) (((0:Int),a,b,c,d,e,f,g))) fun _=>
 some ((0:Int))))))
def tb88:=insT 88 (mkE 88 true [] ti69 zJG F88 [.tmp 2] 32 []) tb178
def ok88:zTb tb88:=okI ok178 tp88 tv88 func88 rfl call88
abbrev zVV:SPat:=⟨[(2,.ptr 2 0),(4,.ptr 25 0),(5,.own .str true),(6,.i .i64)],[.box 2 (pl plD),.box 25 (pl plB)]⟩
abbrev zMm:SPat:=⟨[(0,.s),(2,.ptr 2 0)],[.box 2 (pl plD)]⟩
abbrev zGq:SPat:=⟨[(2,.ptr 2 0),(4,.ptr 25 0)],[.box 2 (pl plD),.box 25 (pl plB)]⟩
def tv218:Nat→Option SPat:=fun k=>bif k==6 then some zVV else bif k==1000003 then some zMm else bif k==1000008 then some zVV else bif k==1000011 then some zGq else bif k==2000000 then some zGq else none
def F218:zBy→Option (Bool×Cls):=fun a=>
 bindE (Y:=zBy×Cls) (cndO (decide (2500<(a.length:Int)))
 (some (inr (false,[],0,0,0,[],[],[])))
 (cndO (decide ((a.length:Int)=0))
 (some (inr (false,[],0,0,0,[],[],[])))
 (grdO (decide (0≤wrap .i64 ((a.length:Int)-1))) (atO a (Int.toNat (wrap .i64 ((a.length:Int)-1))) fun b=>cndO (!decide ((b.toNat:Int)=10))
 (some (inr (false,[],0,0,0,[],[],[])))
 (some (inl (a,[],0,0,0,[],[],[]))))))) fun(a,b,c,d,e,f,g,h)=>
 zAA (F278 (a,10,(a.length:Int))) fun a=>
 bindE (Y :=  Cls×List Cst×Int×Int×Int×List Int×List Fld×List Mth×Bool) (zAE (fun(a,b,(c,d,e,f,g,h,i),j,k,l,m,n,o,p,q)=>
 bindE (Y:=List zBy×Int×Cls×List Cst×Int×Int×Int×List Int×List Fld×List Mth×Bool) (cndO (decide (b<wrap .i64 ((a.length:Int)-1)))
 (cndO (!q)
 (some (inl (a,b,(c,d,e,f,g,h,i),j,k,l,m,n,o,p,q)))
 (some (inr (inr (inl ((c,d,e,f,g,h,i),j,k,l,m,n,o,p,q))))))
 (some (inr (inr (inl ((c,d,e,f,g,h,i),j,k,l,m,n,o,p,q)))))) fun(a,b,(c,d,e,f,g,h,i),j,k,l,m,n,o,p,q)=>
 grdO (decide (0≤b)&&decide (b<(a.length:Int))) (atO a b.toNat fun r=>zAA (F279 (r,j,k,l,m,n,o,p,q)) fun(j,k,l,m,n,o,p,q)=>
 some (inl (a,wrap .i64 (b+1),(c,d,e,f,g,h,i),j,k,l,m,n,o,p,q)))) ((a,(0:Int),(b,c,d,e,f,g,h),[],(0:Int),(0:Int),(0:Int),[],[],[],false))) fun((a,b,c,d,e,f,g),h,i,j,k,l,m,n,o)=>
 bindE (Y :=  Cls×List Cst×Int×Int×Int×List Int×List Fld×List Mth×Bool) (cndO (o)
 (some (inr (false,[],0,0,0,[],[],[])))
 (zAA (F22 (h,i,j,k,l,m,n)) fun p=>
 cndO (decide (p=[]))
 (some (inr (false,[],0,0,0,[],[],[])))
 (zAA (F88 (h,i,j,k,l,m,n)) fun p=>
 cndO (!decide (p=0))
 (some (inr (false,[],0,0,0,[],[],[])))
 (some (inl ((a,b,c,d,e,f,g),h,i,j,k,l,m,n,o)))))) fun((_,_,_,_,_,_,_),a,b,c,d,e,f,g,_)=>
 some ((true,a,b,c,d,e,f,g))
def tb218:=insT 218 (mkE 218 true [] zEV to63 F218 [.cell 2 34,.tmp 3] 75 []) tb88
def ok218:zTb tb218:=okI ok88 noPl tv218 func218 rfl call218
def F139:zBy→Option zBy:=fun a=>
 zAA (F218 a) fun(a,b,c,d,e,f,g,h)=>
 cndO (!a)
 (some ([(83:UInt8),84,79,87]))
 (zAA (F55 (b,c,d,e,f,g,h)) fun a=>
 some a)
def tb139:=insT 139 (mkE 139 true [] zEV zEU F139 [.tmp 2] 14 []) tb218
def ok139:zTb tb139:=okI ok218 noPl noIv func139 rfl call139
abbrev ti138:SPat:=⟨[(0,.ptr 100000 0)],zo0⟩
abbrev to138:SPat:=⟨[(2,.ptr 2 0)],[.box 2 (pl [.s,.s]),.box 100000 (pl plR)]⟩
def F138:zBy×Int→Option ((zBy×zBy)×zBy×Int):=fun(a,b)=>let c:=[(99:UInt8),108,97,115,115,32,77,32];let d:=[(79:UInt8),98,106];zAA (F119 ([d,d,d,[(65:UInt8)]],a,b)) fun(a,b,d)=>
 grdO (decide ((8:Nat)+a.length≤9223372036854775807)) (grdO (decide (List.length (c++a)+3≤9223372036854775807)) (zAA (F217 ([(109:UInt8),97,105,110],b,d)) fun(b,d,e)=>
 grdO (decide (List.length (c++a++[(32:UInt8),48,10])+b.length≤9223372036854775807)) (zAA (F139 (c++a++[(32:UInt8),48,10]++b)) fun a=>
 some ((([(77:UInt8)],a),d,e)))))
def tb138:=insT 138 (mkE 138 false [(0,[])] ti138 to138 F138 [.cell 2 143] 13 [100000]) tb139
def ok138:zTb tb138:=okI ok139 noPl noIv func138 rfl call138
def F140:zBy×zBy×Int→Option (zBy×zBy×Int):=fun(a,b,c)=>let d:=[(109:UInt8),101,116,104,111,100,32,110,101,120,116,32,40,41,76,65,59,32,48,32,50,32,49,10,32,32,114,101,102,108,111,97,100,32,48,10,32,32,103,101,116,32,65,32,110,32,76,65,59,10,32,32,103,105,118,101,114,101,102,10];let e:=[(109:UInt8),101,116,104,111,100,32,103,101,116,32,40,41,73,32,48,32,50,32,49,10,32,32,114,101,102,108,111,97,100,32,48,10,32,32,103,101,116,32,65,32,120,32,73,10,32,32,103,105,118,101,105,110,116,10];let f:=[(99:UInt8),108,97,115,115,32,65,32,79,98,106,32,48,10,102,105,101,108,100,32,120,32,73,32,48,10,102,105,101,108,100,32,110,32,76,65,59,32,48,10,102,105,101,108,100,32,115,32,73,32,49,10];let g:=[(99:UInt8),108,97,115,115,32,85,32,79,98,106,32,48,10,102,105,101,108,100,32,97,32,76,65,59,32,49,10,109,101,116,104,111,100,32,101,97,116,32,40,76,65,59];let h:=[(41:UInt8),73,32,49,32,50,32,49,10,32,32,114,101,102,108,111,97,100,32,48,10,32,32,103,101,116,32,65,32,120,32,73,10,32,32,103,105,118,101,105,110,116,10];let i:=[(109:UInt8),101,116,104,111,100,32,103,101,116,32,40,41,73,32,48,32,49,32,49,10,32,32,112,117,115,104,32,54,10,32,32,103,105,118,101,105,110,116,10];let j:=[(109:UInt8),101,116,104,111,100,32,109,107,32,40,41,76,65,59,32,49,32,49,32,48,10,32,32,110,101,119,32,65,10,32,32,103,105,118,101,114,101,102,10];let k:=[(109:UInt8),101,116,104,111,100,32,116,97,107,101,32,40,76,65,59,41,73,32,48,32,50,32,50,10,32,32,114,101,102,108,111,97,100,32,49,10,32,32];let l:=[(109:UInt8),101,116,104,111,100,32,109,97,107,101,32,40,41,76,65,59,32,49,32,49,32,48,10,32,32,110,101,119,32];let m:=[(99:UInt8),108,97,115,115,32,67,32,79,98,106,32,48,10,102,97,99,101,32,70,10];let n:=[(10:UInt8),102,105,101,108,100,32,121,32,73,32,48,10];let o:=[(99:UInt8),108,97,115,115,32,70,32,79,98,106,32];let p:=[(99:UInt8),108,97,115,115,32,66,32,65,32];cndO (decide (a=[(65:UInt8)]))
 (zAA (F119 ([[],[],[(102:UInt8),105,101,108,100,32,122,32,73,32,48,10]],b,c)) fun(a,b,c)=>
 grdO (decide ((52:Nat)+a.length≤9223372036854775807)) (grdO (decide (List.length (f++a)+55≤9223372036854775807)) (grdO (decide (List.length (f++a++e)+60≤9223372036854775807)) (grdO (decide (List.length (f++a++e++d)+40≤9223372036854775807)) (zAA (F119 ([[],[(109:UInt8),101,116,104,111,100,32,104,105,100,32,40,41,86,32,50,32,48,32,49,10,32,32,103,105,118,101,10]],b,c)) fun(b,c,g)=>
 grdO (decide (List.length (f++a++e++d++j)+b.length≤9223372036854775807)) (zAA (F119 ([[],List.append [(109:UInt8),101,116,104,111,100,32,98,101,103,105,110,32,40,41,86,32,49,32,49,32,48,10,32,32,112,117,115,104,32,49,48,10,32,32,112] [(114:UInt8),105,110,116,10,32,32,112,117,115,104,32,51,10,32,32,112,117,116,97,108,108,32,65,32,115,32,73,10,32,32,103,105,118,101,10],[(109:UInt8),101,116,104,111,100,32,98,101,103,105,110,32,40,41,86,32,49,32,50,32,48,10,32,32,112,117,115,104,32,49,10,32,32,112,117,115,104,32,48,10,32,32,100,105,118,10,32,32,112,114,105,110,116,10,32,32,103,105,118,101,10]],c,g)) fun(c,g,h)=>
 grdO (decide (List.length (f++a++e++d++j++b)+c.length≤9223372036854775807)) (some ((f++a++e++d++j++b++c,g,h)))))))))
 (cndO (decide (a=[(66:UInt8)]))
 (zAA (F119 ([[(48:UInt8)],[(48:UInt8)],[(50:UInt8)]],b,c)) fun(a,b,c)=>
 grdO (decide ((10:Nat)+a.length≤9223372036854775807)) (grdO (decide (List.length (p++a)+13≤9223372036854775807)) (zAA (F119 ([[(109:UInt8),101,116,104,111,100,32,103,101,116,32,40,41,73,32,48,32,49,32,49,10,32,32,112,117,115,104,32,53,10,32,32,103,105,118,101,105,110,116,10],List.append [(109:UInt8),101,116,104,111,100,32,103,101,116,32,40,41,73,32,48,32,50,32,49,10,32,32,114,101,102,108,111,97,100,32,48,10,32,32,115,112,101,99] [(105:UInt8),97,108,32,65,32,103,101,116,32,40,41,73,10,32,32,112,117,115,104,32,49,10,32,32,97,100,100,10,32,32,103,105,118,101,105,110,116,10],[(109:UInt8),101,116,104,111,100,32,103,101,116,32,40,41,73,32,50,32,49,32,49,10,32,32,112,117,115,104,32,57,10,32,32,103,105,118,101,105,110,116,10],[(109:UInt8),101,116,104,111,100,32,110,101,120,116,32,40,41,76,65,59,32,48,32,49,32,49,10,32,32,110,101,119,32,66,10,32,32,103,105,118,101,114,101,102,10],[(109:UInt8),101,116,104,111,100,32,103,101,116,32,40,41,73,32,48,32,49,32,49,10,32,32,110,117,108,108,10,32,32,103,105,118,101,105,110,116,10],[(109:UInt8),101,116,104,111,100,32,98,101,103,105,110,32,40,41,86,32,49,32,49,32,48,10,32,32,112,117,115,104,32,50,48,10,32,32,112,114,105,110,116,10,32,32,103,105,118,101,10]],b,c)) fun(b,c,d)=>
 grdO (decide (List.length (p++a++n)+b.length≤9223372036854775807)) (some ((p++a++n++b,c,d))))))
 (cndO (decide (a=[(67:UInt8)]))
 (zAA (F119 ([[],i,i],b,c)) fun(a,b,c)=>
 grdO (decide ((21:Nat)+a.length≤9223372036854775807)) (grdO (decide (List.length (m++a)+39≤9223372036854775807)) (zAA (F119 ([[(118:UInt8),105,114,116,117,97,108,32,65,32,103,101,116,32,40,41,73],[(103:UInt8),101,116,32,65,32,120,32,73]],b,c)) fun(b,c,d)=>
 grdO (decide (List.length (m++a++k)+b.length≤9223372036854775807)) (grdO (decide (List.length (m++a++k++b)+11≤9223372036854775807)) (some ((m++a++k++b++[(10:UInt8),32,32,103,105,118,101,105,110,116,10],c,d)))))))
 (cndO (decide (a=[(70:UInt8)]))
 (zAA (F119 ([[(53:UInt8)],[(53:UInt8)],[(53:UInt8)],[(52:UInt8)]],b,c)) fun(a,b,c)=>
 grdO (decide ((12:Nat)+a.length≤9223372036854775807)) (grdO (decide (List.length (o++a)+39≤9223372036854775807)) (some ((o++a++[(10:UInt8),109,101,116,104,111,100,32,103,101,116,32,40,41,73,32,56,10,109,101,116,104,111,100,32,116,97,107,101,32,40,76,65,59,41,73,32,56,10],b,c)))))
 (zAA (F119 ([[(65:UInt8)],[(65:UInt8)],[(66:UInt8)]],b,c)) fun(a,b,c)=>
 grdO (decide ((116:Nat)+a.length≤9223372036854775807)) (grdO (decide (List.length (List.append g h++l++a)+11≤9223372036854775807)) (some ((List.append g h++l++a++[(10:UInt8),32,32,103,105,118,101,114,101,102,10],b,c))))))))
def tb140:=insT 140 (mkE 140 false [(0,[])] ti217 to119 F140 [.tmp 4] 71 [100000]) tb138
def ok140:zTb tb140:=okI ok138 noPl noIv func140 rfl call140
abbrev to56:SPat:=⟨[(2,.ptr 2 0)],[.box 2 (pl plD),.box 100000 (pl plR)]⟩
abbrev zOz:SPat:=⟨[(2,.ptr 2 0),(4,.s)],[.box 2 (pl plD),.box 100000 (pl plR)]⟩
def tv56:Nat→Option SPat:=fun k=>bif k==1000006 then some zOz else none
def F56:zBy×Int→Option ( Cls×zBy×Int):=fun(a,b)=>
 zAA (F119 ([[(65:UInt8)],[(66:UInt8)],[(67:UInt8)],[(70:UInt8)],[(85:UInt8)],[(77:UInt8)]],a,b)) fun(a,b,c)=>
 bindE (Y:=zBy×Cls×zBy×Int) (cndO (decide (a=[(77:UInt8)]))
 (zAA (F138 (b,c)) fun((_,a),b,c)=>
 some (inl (a,([],(0:Int),(0:Int),(0:Int),[],[],[]),b,c)))
 (zAA (F140 (a,b,c)) fun(a,b,c)=>
 zAA (F139 a) fun a=>
 some (inl (a,([],(0:Int),(0:Int),(0:Int),[],[],[]),b,c)))) fun(a,(_,_,_,_,_,_,_),b,c)=>
 zAA (F63 a) fun(_,a,d,e,f,g,h,i)=>
 some (((a,d,e,f,g,h,i),b,c))
def tb56:=insT 56 (mkE 56 false [(0,[])] ti138 to56 F56 [.cell 2 34] 25 [100000]) tb140
def ok56:zTb tb56:=okI ok140 noPl tv56 func56 rfl call56
abbrev zPB:SPat:=⟨[(0,.ptr 100000 0),(1,.s),(5,.i .i64),(12,.i .i64),(13,.b)],zo0⟩
abbrev zPA:SPat:=⟨[(1,.s)],zo0⟩
def tv54:Nat→Option SPat:=fun k=>bif k==1000005 then some zPB else bif k==2000000 then some zPA else none
def tp54:Nat→List Nat×Plan:=fun id=>bif id==6 then([0,1,2,3,9,10,11,12],(.br 4 [3] [0,1,2,9,10,11,12] [5] (.br 6 [5,4,3] [0,1,2,9,10,11,12] [7,8,13] (.br 14 zn22 [] [] .fin .fin) .fin) .fin))else([],.fin)
def F54:zBy×zBy×Int→Option (zBy×zBy×Int):=fun(a,b,c)=>
 zAA (F51 (wrap .i64 ((a.length:Int)+1),b,c)) fun(b,c,d)=>
 zAA (F51 (5,c,d)) fun(c,d,e)=>
 bindE (Y:=zBy×zBy×Int) (bindE (Y:=zBy×Int×Int×Bool×zBy×Int) (cndO (decide (c=0))
 (some (inl (a,b,c,true,d,e)))
 (some (inl (a,b,c,decide (c=1),d,e)))) fun(a,b,c,d,e,f)=>
 cndO (d)
 (cndO (decide (b<(a.length:Int)))
 (grdO (decide (0≤b)&&decide (b≤(a.length:Int))) (grdO (decide (0≤wrap .i64 (b+1))&&decide (wrap .i64 (b+1)≤(a.length:Int))&&decide ((a.length:Int)≤(a.length:Int))) (zAA (F51 (256,e,f)) fun(c,d,e)=>
 seqU (seqU (grdO (decide (a=a)) (some ())) (seqU (grdO (decide (b=b)) (some ())) (seqU (grdO (decide (0≤b)&&decide (b≤(a.length:Int))) (grdO (decide (List.drop (0:Nat) (List.take b.toNat a)=List.drop (0:Nat) (List.take b.toNat a))) (some ()))) (seqU (grdO (decide (a=a)) (some ())) (seqU (grdO (decide (b=b)) (some ())) (seqU (grdO (decide (wrap .i64 (b+1)=wrap .i64 (b+1))) (some ())) (seqU (grdO (decide (0≤wrap .i64 (b+1))&&decide (wrap .i64 (b+1)≤(a.length:Int))&&decide ((a.length:Int)≤(a.length:Int))) (grdO (decide (List.drop (Int.toNat (wrap .i64 (b+1))) (List.take (Int.toNat (a.length:Int)) a)=List.drop (Int.toNat (wrap .i64 (b+1))) (List.take (Int.toNat (a.length:Int)) a))) (some ()))) (some ())))))))) (grdO (decide (0≤wrap .u8 c)&&decide (wrap .u8 c≤255)) (seqU (seqU (grdO (decide (a=a)) (some ())) (seqU (grdO (decide (b=b)) (some ())) (seqU (grdO (decide (0≤b)&&decide (b≤(a.length:Int))) (grdO (decide (List.drop (0:Nat) (List.take b.toNat a)=List.drop (0:Nat) (List.take b.toNat a))) (some ()))) (seqU (grdO (decide (a=a)) (some ())) (seqU (grdO (decide (b=b)) (some ())) (seqU (grdO (decide (wrap .i64 (b+1)=wrap .i64 (b+1))) (some ())) (seqU (grdO (decide (0≤wrap .i64 (b+1))&&decide (wrap .i64 (b+1)≤(a.length:Int))&&decide ((a.length:Int)≤(a.length:Int))) (grdO (decide (List.drop (Int.toNat (wrap .i64 (b+1))) (List.take (Int.toNat (a.length:Int)) a)=List.drop (Int.toNat (wrap .i64 (b+1))) (List.take (Int.toNat (a.length:Int)) a))) (some ()))) (some ())))))))) (grdO (decide (List.length (List.drop (0:Nat) (List.take b.toNat a))+1≤9223372036854775807)) (grdO (decide (List.length (List.drop (0:Nat) (List.take b.toNat a)++[UInt8.ofNat (Int.toNat (wrap .u8 c))])+List.length (List.drop (Int.toNat (wrap .i64 (b+1))) (List.take (Int.toNat (a.length:Int)) a))≤9223372036854775807)) (some (inr (List.drop (0:Nat) (List.take b.toNat a)++[UInt8.ofNat (Int.toNat (wrap .u8 c))]++List.drop (Int.toNat (wrap .i64 (b+1))) (List.take (Int.toNat (a.length:Int)) a),d,e))))))))))
 (some (inl (a,e,f))))
 (cndO (decide (c=2))
 (grdO (decide (0≤b)&&decide (b≤(a.length:Int))) (some (inr (List.drop (0:Nat) (List.take b.toNat a),e,f))))
 (cndO (decide (c=3))
 (zAA (F51 (256,e,f)) fun(b,c,d)=>
 grdO (decide (0≤wrap .u8 b)&&decide (wrap .u8 b≤255)) (grdO (decide (a.length+1≤9223372036854775807)) (some (inr (a++[UInt8.ofNat (Int.toNat (wrap .u8 b))],c,d)))))
 (some (inl (a,e,f)))))) fun(a,b,c)=>
 some ((a,b,c))
def tb54:=insT 54 (mkE 54 false [(0,[])] ti217 to119 F54 [.tmp 4] 49 [100000]) tb56
def ok54:zTb tb54:=okI ok56 tp54 tv54 func54 rfl call54
abbrev ti120:SPat:=⟨[(0,.ptr 100000 0),(1,.agg (pl zo18))],[.box 100000 (pl plR),.arr 100001 tg27 true,.arr 100002 (.int .i64) true,.arr 100003 tg89 true,.arr 100004 tg53 true]⟩
abbrev to120:SPat:=⟨[(4,.ptr 4 0)],[.box 4 (pl zo18),.box 100000 (pl plR),.arr 100001 tg27 true,.arr 100002 (.int .i64) true,.arr 100003 tg89 true,.arr 100004 tg53 true]⟩
abbrev zNF:SPat:=⟨[(0,.ptr 100000 0),(3,.ptr 3 0),(4,.ptr 4 0)],[.box 3 (pl zo18),.box 4 (pl plD),.box 100000 (pl plR),.arr 100001 tg27 true,.arr 100002 (.int .i64) true,.arr 100003 tg89 true,.arr 100004 tg53 true]⟩
abbrev zNE:SPat:=⟨[(3,.ptr 3 0),(4,.ptr 4 0)],[.box 3 (pl zo18),.box 4 (pl plD),.box 100000 (pl plR),.arr 100001 tg27 true,.arr 100002 (.int .i64) true,.arr 100003 tg89 true,.arr 100004 tg53 true]⟩
def tv120:Nat→Option SPat:=fun k=>bif k==1000003 then some zNF else bif k==2000000 then some zNE else none
def tp120:Nat→List Nat×Plan:=fun id=>bif id==3 then(zn2,(.br 6 [5,4,3,2] zn0 [7] (.br 8 zn36 [] [] .fin .fin) .fin))else bif id==13 then([0,1,2,3,4,5,7,9],(.br 6 [5] [0,1,2,3,4,7,9] [] (.br 8 [7,6,5] [0,1,2,3,4,9] [] (.br 10 [9,8,7,6,5] [0,1,2,3,4] [11] (.br 12 [11,10,9,8,7,6,5] [0,1,2,3,4] [13] (.br 14 [13,12,11,10,9,8,7,6,5] [0,1,2,3,4] [] (.br 15 zn24 [0] [16,17] (.br 18 zn6 [] [] .fin .fin) .fin) .fin) .fin) .fin) .fin) .fin))else bif id==15 then([0,1,2,3,4,5,7,9,11],(.br 6 [5] [0,1,2,3,4,7,9,11] [] (.br 8 [7,6,5] [0,1,2,3,4,9,11] [] (.br 10 [9,8,7,6,5] [0,1,2,3,4,11] [] (.br 12 [11,10,9,8,7,6,5] [0,1,2,3,4] [13] (.br 14 [13,12,11,10,9,8,7,6,5] [0,1,2,3,4] [] (.br 15 zn24 [0] [16,17] (.br 18 zn6 [] [] .fin .fin) .fin) .fin) .fin) .fin) .fin) .fin))else([],.fin)
def F120:(Int×Int×Int)×(zBy×Int)×List Cst×List Int×List Fld×List Mth→Option ((Int×Int×Int)×(zBy×Int)×List Cst×List Int×List Fld×List Mth):=fun((a,b,c),(d,e),f,g,h,i)=>bindE (Y:=(Int×Int×Int)×Cls×(zBy×Int)×List Cst×List Int×List Fld×List Mth) (cndO (decide ((i.length:Int)=0)) (some (inr ((a,b,c),(d,e),f,g,h,i))) (zAA (F51 (3,d,e)) fun(d,e,j)=>cndO (decide (0<d)) (some (inr ((a,b,c),(e,j),f,g,h,i))) (some (inl ((a,b,c),([],(0:Int),(0:Int),(0:Int),[],[],[]),(e,j),f,g,h,i))))) fun((a,b,c),(d,e,f,g,h,i,j),(k,l),m,n,o,p)=>zAA (F51 ((p.length:Int),k,l)) fun(k,l,q)=>grdO (decide (0≤k)&&decide (k<(p.length:Int))) (zAA (F51 (7,l,q)) fun(l,q,r)=>bindE (Y:=(Int×Int×Int)×Cls×(zBy×Int)×List Cst×List Int×List Fld×List Mth) (cndO (decide (l=0)) (atO p k.toNat fun l=>zAA (F54 (l.2.2.2.2.2.1,q,r)) fun(l,q,r)=>atO p k.toNat fun s=>some (inl ((a,b,c),(d,e,f,g,h,i,j),(q,r),m,n,o,List.set p k.toNat (s.1,s.2.1,s.2.2.1,s.2.2.2.1,s.2.2.2.2.1,l,s.2.2.2.2.2.2.1,s.2.2.2.2.2.2.2)))) (cndO (decide (l=1)) (zAA (F105 ([(0:Int),1,8,9,(256:Int)],q,r)) fun(l,q,r)=>atO p k.toNat fun s=>some (inl ((a,b,c),(d,e,f,g,h,i,j),(q,r),m,n,o,List.set p k.toNat (s.1,s.2.1,s.2.2.1,l,s.2.2.2.2.1,s.2.2.2.2.2.1,s.2.2.2.2.2.2.1,s.2.2.2.2.2.2.2)))) (cndO (decide (l=2)) (zAA (F105 ([(0:Int),1,8,9,(256:Int)],q,r)) fun(l,q,r)=>atO p k.toNat fun s=>some (inl ((a,b,c),(d,e,f,g,h,i,j),(q,r),m,n,o,List.set p k.toNat (s.1,s.2.1,s.2.2.1,s.2.2.2.1,l,s.2.2.2.2.2.1,s.2.2.2.2.2.2.1,s.2.2.2.2.2.2.2)))) (let s:=seqU (grdO (Int.toNat k==Int.toNat k&&true) (some ())) (seqU (grdO (Int.toNat k==Int.toNat k&&true) (some ())) (seqU (grdO (Int.toNat k==Int.toNat k&&true) (some ())) (seqU (grdO (Int.toNat k==Int.toNat k&&true) (some ())) (seqU (grdO (decide (Int.toNat k=Int.toNat k)&&decide (Int.toNat k<p.length)) (grdO (decide (Int.toNat k=Int.toNat k)&&decide (Int.toNat k<p.length)) (grdO (decide (Int.toNat k=Int.toNat k)&&decide (Int.toNat k<p.length)) (some ())))) (some ())))));cndO (decide (l=3)) (atO p k.toNat fun l=>grdO (decide (Int.toNat k=Int.toNat k)&&decide (Int.toNat k<p.length)) (grdO (decide (Int.toNat k=Int.toNat k)&&decide (Int.toNat k<p.length)) (grdO (decide (Int.toNat k=Int.toNat k)&&decide (Int.toNat k<p.length)) (zAA (F51 (8,q,r)) fun(q,r,t)=>seqU s (zAA (F51 (5,r,t)) fun(r,t,u)=>seqU s (zAA (F51 (3,t,u)) fun(t,u,v)=>seqU s (seqU s (seqU s (grdO (decide (l.2.2.2.2.2.2.2.length+1≤9223372036854775807)&&decide ((l.2.2.2.2.2.2.2.length+1)*56≤140737488355328)) (seqU (seqU (grdO (Int.toNat k==Int.toNat k&&true) (some ())) (some ())) (grdO (decide (Int.toNat k=Int.toNat k)&&decide (Int.toNat k<p.length)) (grdO (decide (Int.toNat k<p.length)) (some (inl ((a,b,c),(d,e,f,g,h,i,j),(u,v),m,n,o,List.set p k.toNat (l.1,l.2.1,l.2.2.1,l.2.2.2.1,l.2.2.2.2.1,l.2.2.2.2.2.1,l.2.2.2.2.2.2.1,l.2.2.2.2.2.2.2++[(q,[(r,t)],[])])))))))))))))))) (cndO (decide (l=4)) (atO p k.toNat fun l=>grdO (decide (Int.toNat k=Int.toNat k)&&decide (Int.toNat k<p.length)) (grdO (decide (Int.toNat k=Int.toNat k)&&decide (Int.toNat k<p.length)) (grdO (decide (Int.toNat k=Int.toNat k)&&decide (Int.toNat k<p.length)) (zAA (F51 (4,q,r)) fun(q,r,t)=>seqU s (zAA (F51 (6,r,t)) fun(r,t,u)=>seqU s (zAA (F51 (6,t,u)) fun(t,u,v)=>seqU s (zAA (F51 (3,u,v)) fun(u,v,w)=>seqU s (seqU s (grdO (decide (l.2.2.2.2.2.2.1.length+1≤9223372036854775807)&&decide ((l.2.2.2.2.2.2.1.length+1)*32≤140737488355328)) (seqU (seqU (grdO (Int.toNat k==Int.toNat k&&true) (some ())) (some ())) (grdO (decide (Int.toNat k=Int.toNat k)&&decide (Int.toNat k<p.length)) (grdO (decide (Int.toNat k<p.length)) (some (inl ((a,b,c),(d,e,f,g,h,i,j),(v,w),m,n,o,List.set p k.toNat (l.1,l.2.1,l.2.2.1,l.2.2.2.1,l.2.2.2.2.1,l.2.2.2.2.2.1,l.2.2.2.2.2.2.1++[(q,r,t,u)],l.2.2.2.2.2.2.2)))))))))))))))) (cndO (decide (l=5)) (zAA (F51 (16,q,r)) fun(l,q,r)=>atO p k.toNat fun s=>some (inl ((a,b,c),(d,e,f,g,h,i,j),(q,r),m,n,o,List.set p k.toNat (l,s.2.1,s.2.2.1,s.2.2.2.1,s.2.2.2.2.1,s.2.2.2.2.2.1,s.2.2.2.2.2.2.1,s.2.2.2.2.2.2.2)))) (zAA (F51 ((m.length:Int),q,r)) fun(l,q,r)=>atO p k.toNat fun s=>some (inl ((a,b,c),(d,e,f,g,h,i,j),(q,r),m,n,o,List.set p k.toNat (s.1,s.2.1,wrap .i64 ((1:Int)+l),s.2.2.2.1,s.2.2.2.2.1,s.2.2.2.2.2.1,s.2.2.2.2.2.2.1,s.2.2.2.2.2.2.2)))))))))) fun((a,b,c),(_,_,_,_,_,_,_),(d,e),f,g,h,i)=>some (((a,b,c),(d,e),f,g,h,i)))
def tb120:=insT 120 (mkE 120 false [(0,[]),(1,[0]),(1,[4]),(1,[5]),(1,[6])] ti120 to120 F120 [.cell 4 34] 110 [100000,100001,100002,100003,100004]) tb54
def ok120:zTb tb120:=okI ok54 tp120 tv120 func120 rfl call120
abbrev zPD:SPat:=⟨[(0,.ptr 100000 0),(2,.ptr 2 0),(3,.ptr 3 0)],zo19⟩
def tv50:Nat→Option SPat:=fun k=>bif k==2000000 then some zPD else none
def tp50:Nat→List Nat×Plan:=fun id=>bif id==7 then(zn14,(.br 11 [10,9,8,7,6,5,4] [0,1,2,3] [] (.br 12 [11,10,9,8,7,6,5,4,3] [0,1,2] [13,14] (.br 15 zn32 [] [] .fin .fin) .fin) .fin))else bif id==9 then([0,1,2,3],(.br 4 [3] [0,1,2] [5,6] (.br 7 zn13 [] [] .fin .fin) .fin))else bif id==11 then([0,1,2,3],(.br 4 [] [0,1,2,3] [] (.br 5 [4,3] [0,1,2] [6,7] (.br 8 zn36 [] [] .fin .fin) .fin) .fin))else bif id==17 then(zn8,(.br 7 [6,5,4,3] [0,1,2] [] (.br 8 [7,6,5,4,3,2] zn0 [] (.br 9 zn33 zn0 [] (.br 10 zn1 [] [11] (.br 12 zn10 [] [] .fin .fin) .fin) .fin) .fin) .fin))else bif id==19 then(zn37,(.br 3 [2] [0,1,4,7] [] (.br 5 [] zn37 [] (.br 6 [5,4,3,2] [0,1,7] [] (.br 8 [] zn37 [] (.br 9 zn33 zn0 [10] (.br 11 zn34 zn0 [] (.br 12 zn10 [] [13] (.br 14 zn22 [] [] .fin .fin) .fin) .fin) .fin) .fin) (.br 8 [] zn37 [] (.br 6 [5,4,3,2] [0,1,7] [] (.br 9 zn33 zn0 [10] (.br 11 zn34 zn0 [] (.br 12 zn10 [] [13] (.br 14 zn22 [] [] .fin .fin) .fin) .fin) .fin) .fin) .fin)) (.br 8 [] zn37 [] (.br 5 [] zn37 [] (.br 6 [5,4,3,2] [0,1,7] [] (.br 9 zn33 zn0 [10] (.br 11 zn34 zn0 [] (.br 12 zn10 [] [13] (.br 14 zn22 [] [] .fin .fin) .fin) .fin) .fin) .fin) .fin) .fin)) (.br 5 [] zn37 [] (.br 3 [2] [0,1,4,7] [] (.br 6 [5,4,3,2] [0,1,7] [] (.br 8 [] zn37 [] (.br 9 zn33 zn0 [10] (.br 11 zn34 zn0 [] (.br 12 zn10 [] [13] (.br 14 zn22 [] [] .fin .fin) .fin) .fin) .fin) .fin) (.br 8 [] zn37 [] (.br 6 [5,4,3,2] [0,1,7] [] (.br 9 zn33 zn0 [10] (.br 11 zn34 zn0 [] (.br 12 zn10 [] [13] (.br 14 zn22 [] [] .fin .fin) .fin) .fin) .fin) .fin) .fin)) (.br 8 [] zn37 [] (.br 3 [2] [0,1,4,7] [] (.br 6 [5,4,3,2] [0,1,7] [] (.br 9 zn33 zn0 [10] (.br 11 zn34 zn0 [] (.br 12 zn10 [] [13] (.br 14 zn22 [] [] .fin .fin) .fin) .fin) .fin) .fin) .fin) .fin)) (.br 8 [] zn37 [] (.br 3 [2] [0,1,4,7] [] (.br 5 [] zn37 [] (.br 6 [5,4,3,2] [0,1,7] [] (.br 9 zn33 zn0 [10] (.br 11 zn34 zn0 [] (.br 12 zn10 [] [13] (.br 14 zn22 [] [] .fin .fin) .fin) .fin) .fin) .fin) .fin) (.br 5 [] zn37 [] (.br 3 [2] [0,1,4,7] [] (.br 6 [5,4,3,2] [0,1,7] [] (.br 9 zn33 zn0 [10] (.br 11 zn34 zn0 [] (.br 12 zn10 [] [13] (.br 14 zn22 [] [] .fin .fin) .fin) .fin) .fin) .fin) .fin) .fin)) .fin))))else bif id==21 then([0,1,2,4,6,9,11],(.br 3 [2] [0,1,4,6,9,11] [] (.br 5 [4,3,2] [0,1,6,9,11] [] (.br 7 [] [0,1,2,4,6,9,11] [] (.br 8 [7,6,5,4,3,2] [0,1,9,11] [] (.br 10 [9,8,7,6,5,4,3,2] [0,1,11] [] (.br 12 [11,10,9,8,7,6,5,4,3,2] zn0 [13] (.br 14 zn38 zn0 [] (.br 15 zn32 [] [16] (.br 17 zn23 [] [] .fin .fin) .fin) .fin) .fin) .fin) .fin) .fin) (.br 7 [] [0,1,2,4,6,9,11] [] (.br 5 [4,3,2] [0,1,6,9,11] [] (.br 8 [7,6,5,4,3,2] [0,1,9,11] [] (.br 10 [9,8,7,6,5,4,3,2] [0,1,11] [] (.br 12 [11,10,9,8,7,6,5,4,3,2] zn0 [13] (.br 14 zn38 zn0 [] (.br 15 zn32 [] [16] (.br 17 zn23 [] [] .fin .fin) .fin) .fin) .fin) .fin) .fin) .fin) .fin)) (.br 7 [] [0,1,2,4,6,9,11] [] (.br 3 [2] [0,1,4,6,9,11] [] (.br 5 [4,3,2] [0,1,6,9,11] [] (.br 8 [7,6,5,4,3,2] [0,1,9,11] [] (.br 10 [9,8,7,6,5,4,3,2] [0,1,11] [] (.br 12 [11,10,9,8,7,6,5,4,3,2] zn0 [13] (.br 14 zn38 zn0 [] (.br 15 zn32 [] [16] (.br 17 zn23 [] [] .fin .fin) .fin) .fin) .fin) .fin) .fin) .fin) .fin) .fin)))else([],.fin)
def F50:zBy×Int→Option ( Cls×zBy×Int):=fun(a,b)=>zAA (F56 (a,b)) fun((a,b,c,d,e,f,g),h,i)=>cndO (decide ((a.length:Int)=0)) (some (((a,b,c,d,e,f,g),h,i))) (zAA (F51 ((a.length:Int),h,i)) fun(h,i,j)=>zAA (F51 (16,i,j)) fun(i,j,k)=>bindE (Y :=  Cls×Cls×zBy×Int) (cndO (decide (i=0)) (seqU (seqU (grdO (decide (h=h)) (some ())) (some ())) (zAA (F105 ([(0:Int),(1:Int),(a.length:Int),wrap .i64 ((a.length:Int)+1),(65536:Int),(-1:Int)],j,k)) fun(i,j,k)=>seqU (seqU (grdO (decide (h=h)) (some ())) (some ())) (grdO (decide (0≤h)&&decide (h<(a.length:Int))) (atO a h.toNat fun l=>some (inl (([],(0:Int),(0:Int),(0:Int),[],[],[]),(List.set a h.toNat (l.1,l.2.1,i,l.2.2.2),b,c,d,e,f,g),j,k)))))) (cndO (decide (i=1)) (zAA (F51 (8,j,k)) fun(i,j,k)=>seqU (seqU (grdO (decide (h=h)) (some ())) (some ())) (grdO (decide (0≤h)&&decide (h<(a.length:Int))) (atO a h.toNat fun l=>some (inl (([],(0:Int),(0:Int),(0:Int),[],[],[]),(List.set a h.toNat (i,l.2.1,l.2.2.1,l.2.2.2),b,c,d,e,f,g),j,k))))) (cndO (decide (i=2)) (seqU (seqU (grdO (decide (h=h)) (some ())) (some ())) (zAA (F119 ([[],[(65:UInt8)],[(73:UInt8)],[(40:UInt8),41,86],[(49:UInt8)],[(76:UInt8),65,59]],j,k)) fun(i,j,k)=>seqU (seqU (grdO (decide (h=h)) (some ())) (some ())) (grdO (decide (0≤h)&&decide (h<(a.length:Int))) (atO a h.toNat fun l=>some (inl (([],(0:Int),(0:Int),(0:Int),[],[],[]),(List.set a h.toNat (l.1,i,l.2.2.1,l.2.2.2),b,c,d,e,f,g),j,k)))))) (cndO (decide (i=3)) (zAA (F51 (9,j,k)) fun(b,h,i)=>some (inl (([],(0:Int),(0:Int),(0:Int),[],[],[]),(a,b,c,d,e,f,g),h,i))) (cndO (decide (i=4)) (zAA (F105 ([(0:Int),c,1,(2:Int)],j,k)) fun(d,h,i)=>some (inl (([],(0:Int),(0:Int),(0:Int),[],[],[]),(a,b,c,d,e,f,g),h,i))) (cndO (decide (i=5)) (zAA (F105 ([c,d,0,(1:Int)],j,k)) fun(h,i,j)=>grdO (decide (e.length+1≤9223372036854775807)&&decide ((e.length+1)*8≤140737488355328)) (some (inl (([],(0:Int),(0:Int),(0:Int),[],[],[]),(a,b,c,d,e++[h],f,g),i,j)))) (cndO (decide (i=6)) (let a:=fun(h:Int) (i:zBy) (j:Int)=>zAA (F105 ([(1:Int),2,(5:Int)],i,j)) fun(i,j,k)=>zAA (F105 ([(1:Int),6,(8:Int)],j,k)) fun(j,k,l)=>grdO (decide (f.length+1≤9223372036854775807)&&decide ((f.length+1)*24≤140737488355328)) (some (inl (([],(0:Int),(0:Int),(0:Int),[],[],[]),(a,b,c,d,e,f++[(h,i,j)],g),k,l)));zBK (zAA (F51 (5,j,k)) fun(b,c,d)=>zBK (zBK (a b c d) (a b c d)) (a b c d)) (zBK (zBK (zAA (F51 (5,j,k)) fun(b,c,d)=>zBK (a b c d) (a b c d)) (zAA (F51 (5,j,k)) fun(b,c,d)=>a b c d)) (zBK (zAA (F51 (5,j,k)) fun(b,c,d)=>a b c d) (zAA (F51 (5,j,k)) fun(b,c,d)=>a b c d)))) (cndO (decide (i=7)) (let a:=fun(h:Int) (i:zBy) (j:Int)=>zAA (F51 (20,i,j)) fun(i,j,k)=>zAA (F119 ([[],[(32:UInt8)],[(0:UInt8)]],j,k)) fun(j,k,l)=>zAA (F51 (10,k,l)) fun(k,l,m)=>zAA (F51 (10,l,m)) fun(l,m,n)=>grdO (decide (g.length+1≤9223372036854775807)&&decide ((g.length+1)*104≤140737488355328)) (some (inl (([],(0:Int),(0:Int),(0:Int),[],[],[]),(a,b,c,d,e,f,g++[(h,(1:Int),i,k,l,j,[],[])]),m,n)));zBK (zAA (F51 (17,j,k)) fun(b,c,d)=>zBK (a b c d) (a b c d)) (zAA (F51 (17,j,k)) fun(b,c,d)=>a b c d)) (some (inl (([],(0:Int),(0:Int),(0:Int),[],[],[]),(a,b,c,d,e,f,g),j,k))))))))))) fun((_,_,_,_,_,_,_),(a,b,c,d,e,f,g),h,i)=>zAA (F120 ((b,c,d),(h,i),a,e,f,g)) fun((a,b,c),(d,e),f,g,h,i)=>some (((f,a,b,c,g,h,i),d,e)))
def tb50:=insT 50 (mkE 50 false [(0,[])] ti138 to56 F50 [.cell 2 34] 120 [100000]) tb120
def ok50:zTb tb50:=okI ok120 tp50 tv50 func50 rfl call50
abbrev ts192_3:SPat:=⟨[(3,.own tg89 true),(5,.i .i64)],[]⟩
def tv192:Nat→Option SPat:=fun k=>bif k==3 then some ts192_3 else bif k==2000000 then some zCA else none
def F192:Mth→Option Bool:=fun(_,_,_,_,_,a,_,_)=>
 zAA (F193 a) fun(a,_)=>
 bindE (zAE (fun(a,b)=>
 cndO (decide (b<(a.length:Int)))
 (grdO (decide (0≤b)&&decide (b<(a.length:Int))) (atO a b.toNat fun c=>zAA (F107 (c.2.1,14,18)) fun c=>
 cndO (c)
 (some (inr (inr true)))
 (some (inl (a,wrap .i64 (b+1))))))
 (some (inr (inl ())))) ((a,(0:Int)))) fun _=>
 some (false)
def tb192:=insT 192 (mkE 192 true [] zWC zEL F192 [.tmp 2] 24 []) tb50
def ok192:zTb tb192:=okI ok50 noPl tv192 func192 rfl call192
abbrev zVm:SPat:=⟨[(0,.ptr 100000 0),(2,.ptr 2 0),(3,.ptr 3 0),(4,.i .i64)],zo19⟩
abbrev zNQ:SPat:=⟨[(0,.ptr 100000 0),(2,.ptr 2 0),(3,.ptr 3 0),(4,.i .i64),(5,.ptr 5 0),(47,.b)],[.box 2 (pl plD),.box 3 (pl [.own tg27 true,.i .i64,.i .i64,.i .i64,.own (.int .i64) true,.own tg89 true,.ar 7014]),.box 5 (pl zo20),.opn 7014 tg53 (.all true) (pl zo20),.arr 7023 zFQ true,.arr 8023 zBd true,.box 100000 (pl plR)]⟩
abbrev zNP:SPat:=⟨[(2,.ptr 2 0),(3,.ptr 3 0)],zo19⟩
def tv102:Nat→Option SPat:=fun k=>bif k==3 then some zVm else bif k==1000007 then some zNQ else bif k==2000000 then some zNP else bif k==2000001 then some zVm else none
def tp102:Nat→List Nat×Plan:=fun id=>bif id==3000009 then([61],.fin)else bif id==3000005 then([7000000],.fin)else bif id==12 then([0,1,2,3],(.br 4 [3] [0,1,2] [5,6] (.br 7 zn13 [] [] .fin .fin) .fin))else([],.fin)
def F102:zBy×Int→Option ( Cls×zBy×Int):=fun(a,b)=>zAA (F56 (a,b)) fun((a,b,c,d,e,f,g),h,i)=>bindE (Y :=  Cls×Cls×zBy×Int) (zAE (fun(a,(b,c,d,e,f,g,h),(i,j,k,l,m,n,o),p,q)=>cndO (decide (a<(o.length:Int))) (bindE (Y:=Int×Cls×Cls×zBy×Int) (grdO (decide (0≤a)&&decide (a<(o.length:Int))) (atO o a.toNat fun r=>grdO (decide (Int.toNat a=Int.toNat a)&&decide (Int.toNat a<o.length)) (grdO (decide (Int.toNat a=Int.toNat a)&&decide (Int.toNat a<o.length)) (grdO (decide (Int.toNat a=Int.toNat a)&&decide (Int.toNat a<o.length)) (grdO (decide (Int.toNat a=Int.toNat a)&&decide (Int.toNat a<o.length)) (grdO (decide (Int.toNat a=Int.toNat a)&&decide (Int.toNat a<o.length)) (grdO (decide (Int.toNat a=Int.toNat a)&&decide (Int.toNat a<o.length)) (grdO (decide (Int.toNat a=Int.toNat a)&&decide (Int.toNat a<o.length)) (grdO (decide (Int.toNat a=Int.toNat a)&&decide (Int.toNat a<o.length)) (grdO (decide (Int.toNat a=Int.toNat a)&&decide (Int.toNat a<o.length)) (grdO (decide (Int.toNat a=Int.toNat a)&&decide (Int.toNat a<o.length)) (grdO (decide (Int.toNat a=Int.toNat a)&&decide (Int.toNat a<o.length)) (bindE (Y:=Int×Bool×Cls×(List Cst×Int×Int×Int×List Int×List Fld)×(Int×Int×Int×Int×Int×zBy)×(List Mth×Nat×Int×Int×Int×Int×Int×zBy)×List Trp×List Frm×zBy×Int) (let s:=grdO (decide (Int.toNat a=Int.toNat a)&&decide (Int.toNat a<o.length)) (grdO (decide (Int.toNat a=Int.toNat a)&&decide (Int.toNat a<o.length)) (some (inl (a,false,(b,c,d,e,f,g,h),(i,j,k,l,m,n),(r.1,r.2.1,r.2.2.1,r.2.2.2.1,r.2.2.2.2.1,r.2.2.2.2.2.1),(o,Int.toNat a,r.1,r.2.1,r.2.2.1,r.2.2.2.1,r.2.2.2.2.1,r.2.2.2.2.2.1),r.2.2.2.2.2.2.1,r.2.2.2.2.2.2.2,p,q))));cndO (decide (0<(r.2.2.2.2.2.1.length:Int))) (cndO (decide (wrap .i64 ((r.2.2.2.2.2.2.2.length:Int)+(r.2.2.2.2.2.2.1.length:Int))=0)) (zAA (F51 (2,p,q)) fun(p,q,s)=>cndO (decide (p=0)) (zAA (F192 (r.1,r.2.1,r.2.2.1,r.2.2.2.1,r.2.2.2.2.1,r.2.2.2.2.2.1,r.2.2.2.2.2.2.1,r.2.2.2.2.2.2.2)) fun p=>grdO (decide (Int.toNat a=Int.toNat a)&&decide (Int.toNat a<o.length)) (grdO (decide (Int.toNat a=Int.toNat a)&&decide (Int.toNat a<o.length)) (some (inl (a,!p,(b,c,d,e,f,g,h),(i,j,k,l,m,n),(r.1,r.2.1,r.2.2.1,r.2.2.2.1,r.2.2.2.2.1,r.2.2.2.2.2.1),(o,Int.toNat a,r.1,r.2.1,r.2.2.1,r.2.2.2.1,r.2.2.2.2.1,r.2.2.2.2.2.1),r.2.2.2.2.2.2.1,r.2.2.2.2.2.2.2,q,s))))) (grdO (decide (Int.toNat a=Int.toNat a)&&decide (Int.toNat a<o.length)) (grdO (decide (Int.toNat a=Int.toNat a)&&decide (Int.toNat a<o.length)) (some (inl (a,false,(b,c,d,e,f,g,h),(i,j,k,l,m,n),(r.1,r.2.1,r.2.2.1,r.2.2.2.1,r.2.2.2.2.1,r.2.2.2.2.2.1),(o,Int.toNat a,r.1,r.2.1,r.2.2.1,r.2.2.2.1,r.2.2.2.2.1,r.2.2.2.2.2.1),r.2.2.2.2.2.2.1,r.2.2.2.2.2.2.2,q,s)))))) s) s) fun(a,b,(c,d,e,f,g,h,i),(j,k,l,m,n,o),(_,_,_,_,_,p),(q,r,s,t,u,v,w,x),y,z,A,B)=>cndO b (zAA (F193 p) fun(b,_)=>zAA (F51 ((b.length:Int),A,B)) fun(p,x,A)=>grdO (decide (0≤p)&&decide (p≤(b.length:Int))) (grdO (decide (List.length (List.drop (0:Nat) (List.take p.toNat b))≤9223372036854775807)&&decide (List.length (List.drop (0:Nat) (List.take p.toNat b))*24≤140737488355328)) (grdO (decide (List.length (List.drop (0:Nat) (List.take p.toNat b))+2≤9223372036854775807)&&decide ((List.length (List.drop (0:Nat) (List.take p.toNat b))+2)*24≤140737488355328)) (grdO (decide (0≤p)&&decide (p≤(b.length:Int))&&decide ((b.length:Int)≤(b.length:Int))) (grdO (decide (List.length (List.drop (0:Nat) (List.take p.toNat b)++[((0:Int),(0:Int),(0:Int)),((0:Int),(0:Int),(0:Int))])+List.length (List.drop p.toNat (List.take (Int.toNat (b.length:Int)) b))≤9223372036854775807)&&decide ((List.length (List.drop (0:Nat) (List.take p.toNat b)++[((0:Int),(0:Int),(0:Int)),((0:Int),(0:Int),(0:Int))])+List.length (List.drop p.toNat (List.take (Int.toNat (b.length:Int)) b)))*24≤140737488355328)) (zAA (F194 (List.drop (0:Nat) (List.take p.toNat b)++[((0:Int),(0:Int),(0:Int)),((0:Int),(0:Int),(0:Int))]++List.drop p.toNat (List.take (Int.toNat (b.length:Int)) b))) fun b=>seqU (seqU (grdO (decide (a=a)) (some ())) (some ())) (grdO (decide (0≤a)&&decide (a<(q.length:Int))) (grdO (decide (Int.toNat a=r)&&decide (r<q.length)) (grdO (decide (r<q.length)) (grdO (decide (r=r)&&decide (r<q.length)) (grdO (decide (r<q.length)) (grdO (decide (r=r)&&decide (r<q.length)) (grdO (decide (r<q.length)) (some (inl (a,(c,d,e,f,g,h,i),(j,k,l,m,n,o,List.set q r (s,t,u,v,w,b,y,z)),x,A)))))))))))))))) (grdO (decide (r<q.length)) (grdO (decide (r=r)&&decide (r<q.length)) (grdO (decide (r<q.length)) (grdO (decide (r=r)&&decide (r<q.length)) (grdO (decide (r<q.length)) (some (inl (a,(c,d,e,f,g,h,i),(j,k,l,m,n,o,List.set q r (s,t,u,v,w,x,y,z)),A,B))))))))))))))))))))) fun(a,(b,c,d,e,f,g,h),(i,j,k,l,m,n,o),p,q)=>some (inl (wrap .i64 (a+1),(b,c,d,e,f,g,h),(i,j,k,l,m,n,o),p,q))) (some (inr (inl ((b,c,d,e,f,g,h),(i,j,k,l,m,n,o),p,q))))) (((0:Int),([],(0:Int),(0:Int),(0:Int),[],[],[]),(a,b,c,d,e,f,g),h,i))) fun((_,_,_,_,_,_,_),(a,b,c,d,e,f,g),h,i)=>some (((a,b,c,d,e,f,g),h,i))
def tb102:=insT 102 (mkE 102 false [(0,[])] ti138 to56 F102 [.cell 2 34] 81 [100000]) tb192
def ok102:zTb tb102:=okI ok192 tp102 tv102 func102 rfl call102
abbrev to37:SPat:=⟨[(2,.ptr 2 0)],[.box 2 (pl plD)]⟩
def F37:zBy→Option Cls:=fun a=>
 zAA (F49 a) fun(a,b)=>
 zAA (F51 (4,a,b)) fun(a,b,c)=>
 cndO (decide (a=0))
 (zAA (F50 (b,c)) fun((a,b,c,d,e,f,g),_,_)=>
 some ((a,b,c,d,e,f,g)))
 (zAA (F102 (b,c)) fun((a,b,c,d,e,f,g),_,_)=>
 some ((a,b,c,d,e,f,g)))
def tb37:=insT 37 (mkE 37 true [] ti49 to37 F37 [.cell 2 34] 13 []) tb102
def ok37:zTb tb37:=okI ok102 noPl noIv func37 rfl call37
abbrev ts66_4:SPat:=⟨[(1,.ptr 1 0),(32,.sl tg27),(33,.i .i64),(34,.i .i64)],zo11⟩
abbrev zQt:SPat:=⟨[(44,.sl tg53),(45,.i .i64),(46,.i .i64)],[]⟩
abbrev zVL:SPat:=⟨[(44,.sl tg53),(45,.i .i64),(46,.i .i64),(67,.sl zBd),(68,.i .i64),(69,.i .i64)],[]⟩
abbrev zCN:SPat:=⟨[(1,.ptr 1 0)],zo11⟩
abbrev zOt:SPat:=⟨[(6,.ptr 6 0),(44,.sl tg53),(45,.i .i64),(46,.i .i64)],[.box 6 (pl plM)]⟩
def tv66:Nat→Option SPat:=fun k=>bif k==4 then some ts66_4 else bif k==10 then some zQt else bif k==15 then some zVL else bif k==1000003 then some zCN else bif k==1000014 then some zOt else bif k==2000000 then some zCN else bif k==2000002 then some zCA else bif k==2000003 then some zQt else bif k==2000004 then some zQt else bif k==2000005 then some zVL else none
def F66:Cls→Option Bool:=fun(a,b,c,d,e,f,g)=>
 bindE (Y:=Cls) (cndO (decide (60<(a.length:Int)))
 (some (inr false))
 (cndO (decide (3<(e.length:Int)))
 (some (inr false))
 (cndO (decide (5<(f.length:Int)))
 (some (inr false))
 (cndO (decide (6<(g.length:Int)))
 (some (inr false))
 (some (inl (a,b,c,d,e,f,g))))))) fun(a,b,c,d,e,f,g)=>
 bindE (Y:=Cls) (zAE (fun(a,b,c,d,e,f,g,h,i,j)=>
 cndO (decide (c<b))
 (grdO (decide (0≤c)) (atO a c.toNat fun k=>cndO (decide (255<(k.2.1.length:Int)))
 (some (inr (inr false)))
 (some (inl (a,b,wrap .i64 (c+1),d,e,f,g,h,i,j)))))
 (some (inr (inl (d,e,f,g,h,i,j))))) ((a,(a.length:Int),(0:Int),a,b,c,d,e,f,g))) fun(_,_,_,_,_,_,a)=>
 bindE (zAE (fun(a,b,c)=>
 cndO (decide (c<b))
 (bindE (Y:=List Mth×Int×Int) (grdO (decide (0≤c)) (atO a c.toNat fun d=>bindE (Y:=List Mth×Int×Int×Mth) (cndO (decide (120<(d.2.2.2.2.2.1.length:Int)))
 (some (inr (inr (inr (inr false)))))
 (cndO (decide (3<(d.2.2.2.2.2.2.1.length:Int)))
 (some (inr (inr (inr (inr false)))))
 (cndO (decide (8<(d.2.2.2.2.2.2.2.length:Int)))
 (some (inr (inr (inr (inr false)))))
 (some (inl (a,b,c,d.1,d.2.1,d.2.2.1,d.2.2.2.1,d.2.2.2.2.1,d.2.2.2.2.2.1,d.2.2.2.2.2.2.1,d.2.2.2.2.2.2.2)))))) fun(a,b,c,_,_,_,_,_,_,_,d)=>
 bindE (Y:=List Mth×Int×Int) (zAE (fun(a,b,c,d,e,f)=>
 cndO (decide (f<e))
 (bindE (Y:=List Mth×Int×Int×List Frm×Int×Int) (grdO (decide (0≤f)) (atO d f.toNat fun g=>cndO (decide (8<(g.2.1.length:Int)))
 (some (inr (inr (inr (inr (inr (inr false)))))))
 (cndO (decide (8<(g.2.2.length:Int)))
 (some (inr (inr (inr (inr (inr (inr false)))))))
 (some (inl (a,b,c,d,e,f)))))) fun(a,b,c,d,e,f)=>
 some (inl (a,b,c,d,e,wrap .i64 (f+1))))
 (some (inr (inl (a,b,c))))) ((a,b,c,d,(d.length:Int),(0:Int)))) fun(a,b,c)=>
 some (inl (a,b,c)))) fun(a,b,c)=>
 some (inl (a,b,wrap .i64 (c+1))))
 (some (inr (inl ())))) ((a,(a.length:Int),(0:Int)))) fun _=>
 some (true)
def tb66:=insT 66 (mkE 66 true [] ti69 zEL F66 [.tmp 2] 85 []) tb37
def ok66:zTb tb66:=okI ok37 noPl tv66 func66 rfl call66
def F144:Int→Option zBy:=fun a=>
 grdO (decide (0≤wrap .u8 a)&&decide (wrap .u8 a≤255)) (some ([UInt8.ofNat (Int.toNat (wrap .u8 a))]))
def tb144:=insT 144 (mkE 144 true [] zGT zEU F144 [.tmp 2] 7 []) tb66
def ok144:zTb tb144:=okI ok66 noPl noIv func144 rfl call144
def F145:Int→Option zBy:=fun a=>
 zAA (F144 (Int.fdiv a 256)) fun b=>
 zAA (F144 a) fun a=>
 grdO (decide (b.length+a.length≤9223372036854775807)) (some (b++a))
def tb145:=insT 145 (mkE 145 true [] zGT zEU F145 [.tmp 2] 9 []) tb144
def ok145:zTb tb145:=okI ok144 noPl noIv func145 rfl call145
def F86:Int→Option Bool:=fun a=>
 some (!decide (andI IntKind.i64 a (8:Int)=0))
def tb86:=insT 86 (mkE 86 true [] zGT zEL F86 [.tmp 2] 6 []) tb145
def ok86:zTb tb86:=okI ok145 noPl noIv func86 rfl call86
abbrev zVi:SPat:=⟨[(3,.s),(9,.sl zBv),(10,.i .i64),(11,.i .i64)],[]⟩
def tv146:Nat→Option SPat:=fun k=>bif k==3 then some zVi else bif k==2000000 then some zBr else bif k==2000001 then some zVi else none
def F146:List Knd→Option zBy:=fun a=>
 zAA (F144 a.length) fun b=>
 bindE (Y:=zBy) (zAE (fun(a,b,c,d)=>
 cndO (decide (d<c))
 (bindE (Y:=zBy×List Knd×Int×Int) (grdO (decide (0≤d)) (atO b d.toNat fun e=>zAA (F144 e.1) fun f=>
 grdO (decide (a.length+f.length≤9223372036854775807)) (cndO (decide (e.1=3))
 (zAA (F145 e.2) fun e=>
 grdO (decide (List.length (a++f)+e.length≤9223372036854775807)) (some (inl (a++f++e,b,c,d))))
 (some (inl (a++f,b,c,d)))))) fun(a,b,c,d)=>
 some (inl (a,b,c,wrap .i64 (d+1))))
 (some (inr (inl a)))) ((b,a,(a.length:Int),(0:Int)))) fun a=>
 some (a)
def tb146:=insT 146 (mkE 146 true [] ti216 zEU F146 [.tmp 2] 30 []) tb86
def ok146:zTb tb146:=okI ok86 noPl tv146 func146 rfl call146
abbrev ts67_3:SPat:=⟨[(1,.ptr 1 0),(3,.s),(22,.sl tg27),(23,.i .i64),(24,.i .i64)],zo11⟩
abbrev ts67_15:SPat:=⟨[(1,.ptr 1 0),(3,.s),(82,.sl (.int .i64)),(83,.i .i64),(84,.i .i64)],zo11⟩
abbrev ts67_21:SPat:=⟨[(1,.ptr 1 0),(3,.s),(100,.sl tg89),(101,.i .i64),(102,.i .i64)],zo11⟩
abbrev zQs:SPat:=⟨[(3,.s),(127,.sl tg53),(128,.i .i64),(129,.i .i64)],[]⟩
abbrev ts67_33:SPat:=⟨[(3,.s),(11,.ptr 11 0),(127,.sl tg53),(128,.i .i64),(129,.i .i64),(172,.sl zFQ),(173,.i .i64),(174,.i .i64)],[.box 11 (pl plM)]⟩
abbrev ts67_39:SPat:=⟨[(3,.s),(127,.sl tg53),(128,.i .i64),(129,.i .i64),(203,.sl zBd),(204,.i .i64),(205,.i .i64)],[]⟩
abbrev zOs:SPat:=⟨[(3,.s),(11,.ptr 11 0),(127,.sl tg53),(128,.i .i64),(129,.i .i64)],[.box 11 (pl plM)]⟩
def tv67:Nat→Option SPat:=fun k=>bif k==3 then some ts67_3 else bif k==15 then some ts67_15 else bif k==21 then some ts67_21 else bif k==27 then some zQs else bif k==33 then some ts67_33 else bif k==39 then some ts67_39 else bif k==2000000 then some zBO else bif k==2000002 then some ts67_3 else bif k==2000003 then some zBO else bif k==2000005 then some zBO else bif k==2000007 then some zBr else bif k==2000008 then some zQs else bif k==2000009 then some zOs else bif k==2000011 then some zQs else none
def tp67:Nat→List Nat×Plan:=fun id=>bif id==9 then([0,1,2,3,5,6],(.br 4 [3,2,1] [0,5,6] [7,8] (.br 9 zn20 [] [] .fin .fin) .fin))else bif id==7 then([0,1,2,4,5],(.br 3 [2,1] [0,4,5] [] (.br 6 zn39 [0] [7,8] (.br 9 zn20 [] [] .fin .fin) .fin) .fin))else bif id==13 then([0,1,2,4,5,8,9,12,13,14],(.br 3 [2,1] [0,4,5,8,9,12,13,14] [] (.br 6 zn39 [0,8,9,12,13,14] [7] (.br 10 zn40 [0,12,13,14,7] [11] (.br 15 [14,13,12,10,9,8,6,5,4,3,2,1] [0,7,11] [16,17] (.br 18 zn6 [] [] .fin .fin) .fin) .fin) .fin) .fin))else bif id==23 then([0,1,2,4,5,8,9],(.br 3 [2,1] [0,4,5,8,9] [] (.br 6 zn39 [0,8,9] [7] (.br 10 zn40 [0,7] [11,12] (.br 13 zn12 [] [] .fin .fin) .fin) .fin) .fin))else bif id==29 then([0,1,2,4,5,8,9],(.br 3 [2,1] [0,4,5,8,9] [] (.br 6 zn39 [0,8,9] [7] (.br 10 zn40 [0,7] [11,12] (.br 13 zn12 [] [] .fin .fin) .fin) .fin) .fin))else bif id==31 then([0,1,2,4,5,8,9,10,13,14,16,17,18],(.br 3 [2,1] [0,4,5,8,9,10,13,14,16,17,18] [] (.br 6 zn39 [0,8,9,10,13,14,16,17,18] [7] (.br 11 [10,9,8,6,5,4,3,2,1] [0,13,14,16,17,18,7] [12,15] (.br 19 [18,17,16,11,10,9,8,6,5,4,3,2,1] [0,13,14,7,12,15] [20,21] (.br 22 zn28 [] [] .fin .fin) .fin) .fin) .fin) .fin))else bif id==35 then([0,1,2,4,5,8,9,12,13],(.br 3 [2,1] [0,4,5,8,9,12,13] [] (.br 6 zn39 [0,8,9,12,13] [7] (.br 10 zn40 [0,12,13,7] [11] (.br 14 [13,12,10,9,8,6,5,4,3,2,1] [0,7,11] [15,16] (.br 17 zn23 [] [] .fin .fin) .fin) .fin) .fin) .fin))else bif id==41 then([0,1,2,4,5,8,9],(.br 3 [2,1] [0,4,5,8,9] [] (.br 6 zn39 [0,8,9] [7] (.br 10 zn40 [0,7] [11,12] (.br 13 zn12 [] [] .fin .fin) .fin) .fin) .fin))else([],.fin)
def F67:Cls→Option zBy:=fun(a,b,c,d,e,f,g)=>
 zAA (F144 a.length) fun h=>
 grdO (decide ((4:Nat)+h.length≤9223372036854775807)) (bindE (Y:=zBy×Cls) (zAE (fun(a,b,c,d,e,f,g,h,i,j,k)=>
 cndO (decide (d<c))
 (grdO (decide (0≤d)) (atO b d.toNat fun l=>zAA (F144 l.1) fun m=>
 grdO (decide (a.length+m.length≤9223372036854775807)) (bindE (Y:=zBy×List Cst×Int×Int×Cls) (cndO (decide (l.1=1))
 (zAA (F144 l.2.1.length) fun n=>
 seqU (seqU (grdO (decide (a++m=a++m)) (some ())) (seqU (grdO (decide (l.2.1=l.2.1)) (some ())) (some ()))) (grdO (decide (n.length+l.2.1.length≤9223372036854775807)) (grdO (decide (List.length (a++m)+List.length (n++l.2.1)≤9223372036854775807)) (some (inl (a++m++(n++l.2.1),b,c,d,e,f,g,h,i,j,k))))))
 (cndO (decide (l.1=2))
 (zAA (F145 l.2.2.1) fun l=>
 grdO (decide (List.length (a++m)+l.length≤9223372036854775807)) (some (inl (a++m++l,b,c,d,e,f,g,h,i,j,k))))
 (zAA (F145 l.2.2.1) fun n=>
 seqU (seqU (grdO (decide (a++m=a++m)) (some ())) (seqU (grdO (decide (l.2.2.2=l.2.2.2)) (some ())) (some ()))) (zAA (F145 l.2.2.2) fun l=>
 seqU (seqU (grdO (decide (a++m=a++m)) (some ())) (some ())) (grdO (decide (n.length+l.length≤9223372036854775807)) (grdO (decide (List.length (a++m)+List.length (n++l)≤9223372036854775807)) (some (inl (a++m++(n++l),b,c,d,e,f,g,h,i,j,k))))))))) fun(a,b,c,d,e,f,g,h,i,j,k)=>
 some (inl (a,b,c,wrap .i64 (d+1),e,f,g,h,i,j,k)))))
 (some (inr (inl (a,e,f,g,h,i,j,k))))) (([(83:UInt8),84,79,87]++h,a,(a.length:Int),(0:Int),a,b,c,d,e,f,g))) fun(a,b,c,d,e,f,g,h)=>
 zAA (F144 c) fun i=>
 seqU (seqU (grdO (decide (a=a)) (some ())) (seqU (grdO (decide (d=d)) (some ())) (seqU (grdO (decide (e=e)) (some ())) (seqU (grdO (decide (f=f)) (some ())) (seqU (grdO (decide ((f.length:Int)=(f.length:Int))) (some ())) (some ())))))) (zAA (F145 d) fun j=>
 seqU (seqU (grdO (decide (a=a)) (some ())) (seqU (grdO (decide (e=e)) (some ())) (seqU (grdO (decide (f=f)) (some ())) (seqU (grdO (decide ((f.length:Int)=(f.length:Int))) (some ())) (some ()))))) (grdO (decide (i.length+j.length≤9223372036854775807)) (zAA (F145 e) fun k=>
 seqU (seqU (grdO (decide (a=a)) (some ())) (seqU (grdO (decide (f=f)) (some ())) (seqU (grdO (decide ((f.length:Int)=(f.length:Int))) (some ())) (seqU (grdO (decide (i.length+j.length≤9223372036854775807)) (grdO (decide (i++j=i++j)) (some ()))) (some ()))))) (grdO (decide (List.length (i++j)+k.length≤9223372036854775807)) (zAA (F144 f.length) fun l=>
 seqU (seqU (grdO (decide (a=a)) (some ())) (seqU (grdO (decide (i.length+j.length≤9223372036854775807)) (grdO (decide (i++j=i++j)) (some ()))) (seqU (grdO (decide (List.length (i++j)+k.length≤9223372036854775807)) (grdO (decide (i++j++k=i++j++k)) (some ()))) (some ())))) (grdO (decide (List.length (i++j++k)+l.length≤9223372036854775807)) (grdO (decide (a.length+List.length (i++j++k++l)≤9223372036854775807)) (bindE (Y:=zBy×Cls) (zAE (fun(a,b,c,d,e,f,g,h,i,j,k)=>
 cndO (decide (d<c))
 (grdO (decide (0≤d)) (atO b d.toNat fun l=>zAA (F145 l) fun l=>
 grdO (decide (a.length+l.length≤9223372036854775807)) (some (inl (a++l,b,c,wrap .i64 (d+1),e,f,g,h,i,j,k)))))
 (some (inr (inl (a,e,f,g,h,i,j,k))))) ((a++(i++j++k++l),f,(f.length:Int),(0:Int),b,c,d,e,f,g,h))) fun(a,b,c,d,e,f,g,h)=>
 zAA (F144 g.length) fun i=>
 grdO (decide (a.length+i.length≤9223372036854775807)) (bindE (Y:=zBy×Cls) (zAE (fun(a,b,c,d,e,f,g,h,i,j,k)=>
 cndO (decide (d<c))
 (grdO (decide (0≤d)) (atO b d.toNat fun l=>zAA (F144 l.1) fun m=>
 seqU (seqU (grdO (decide (a=a)) (some ())) (seqU (grdO (decide (l.2.1=l.2.1)) (some ())) (seqU (grdO (decide (l.2.2=l.2.2)) (some ())) (some ())))) (zAA (F145 l.2.1) fun n=>
 seqU (seqU (grdO (decide (a=a)) (some ())) (seqU (grdO (decide (l.2.2=l.2.2)) (some ())) (some ()))) (grdO (decide (m.length+n.length≤9223372036854775807)) (zAA (F145 l.2.2) fun l=>
 seqU (seqU (grdO (decide (a=a)) (some ())) (seqU (grdO (decide (m.length+n.length≤9223372036854775807)) (grdO (decide (m++n=m++n)) (some ()))) (some ()))) (grdO (decide (List.length (m++n)+l.length≤9223372036854775807)) (grdO (decide (a.length+List.length (m++n++l)≤9223372036854775807)) (some (inl (a++(m++n++l),b,c,wrap .i64 (d+1),e,f,g,h,i,j,k))))))))))
 (some (inr (inl (a,e,f,g,h,i,j,k))))) ((a++i,g,(g.length:Int),(0:Int),b,c,d,e,f,g,h))) fun(a,_,_,_,_,_,_,b)=>
 zAA (F144 b.length) fun c=>
 grdO (decide (a.length+c.length≤9223372036854775807)) (bindE (Y:=zBy) (zAE (fun(a,b,c,d)=>
 cndO (decide (d<c))
 (bindE (Y:=zBy×List Mth×Int×Int) (grdO (decide (0≤d)) (atO b d.toNat fun e=>zAA (F144 e.1) fun f=>
 seqU (seqU (grdO (decide (a=a)) (some ())) (seqU (grdO (decide (e.2.1=e.2.1)) (some ())) (seqU (grdO (decide (e.2.2.1=e.2.2.1)) (some ())) (some ())))) (zAA (F145 e.2.1) fun g=>
 seqU (seqU (grdO (decide (a=a)) (some ())) (seqU (grdO (decide (e.2.2.1=e.2.2.1)) (some ())) (some ()))) (grdO (decide (f.length+g.length≤9223372036854775807)) (zAA (F145 e.2.2.1) fun h=>
 seqU (seqU (grdO (decide (a=a)) (some ())) (seqU (grdO (decide (f.length+g.length≤9223372036854775807)) (grdO (decide (f++g=f++g)) (some ()))) (some ()))) (grdO (decide (List.length (f++g)+h.length≤9223372036854775807)) (grdO (decide (a.length+List.length (f++g++h)≤9223372036854775807)) (zAA (F86 e.1) fun i=>
 cndO (i)
 (some (inl (a++(f++g++h),b,c,d)))
 (zAA (F144 e.2.2.2.1) fun i=>
 seqU (seqU (grdO (decide (a++(f++g++h)=a++(f++g++h))) (some ())) (seqU (grdO (decide (e.2.2.2.2.1=e.2.2.2.2.1)) (some ())) (seqU (grdO (decide (e.2.2.2.2.2.1=e.2.2.2.2.2.1)) (some ())) (seqU (grdO (decide ((e.2.2.2.2.2.1.length:Int)=(e.2.2.2.2.2.1.length:Int))) (some ())) (seqU (grdO (decide (e.2.2.2.2.2.1=e.2.2.2.2.2.1)) (some ())) (seqU (grdO (decide (e.2.2.2.2.2.2.1=e.2.2.2.2.2.2.1)) (some ())) (seqU (grdO (decide ((e.2.2.2.2.2.2.1.length:Int)=(e.2.2.2.2.2.2.1.length:Int))) (some ())) (some ())))))))) (zAA (F144 e.2.2.2.2.1) fun j=>
 seqU (seqU (grdO (decide (a++(f++g++h)=a++(f++g++h))) (some ())) (seqU (grdO (decide (e.2.2.2.2.2.1=e.2.2.2.2.2.1)) (some ())) (seqU (grdO (decide ((e.2.2.2.2.2.1.length:Int)=(e.2.2.2.2.2.1.length:Int))) (some ())) (seqU (grdO (decide (e.2.2.2.2.2.1=e.2.2.2.2.2.1)) (some ())) (seqU (grdO (decide (e.2.2.2.2.2.2.1=e.2.2.2.2.2.2.1)) (some ())) (seqU (grdO (decide ((e.2.2.2.2.2.2.1.length:Int)=(e.2.2.2.2.2.2.1.length:Int))) (some ())) (some ()))))))) (grdO (decide (i.length+j.length≤9223372036854775807)) (zAA (F145 e.2.2.2.2.2.1.length) fun k=>
 seqU (seqU (grdO (decide (a++(f++g++h)=a++(f++g++h))) (some ())) (seqU (grdO (decide (e.2.2.2.2.2.1=e.2.2.2.2.2.1)) (some ())) (seqU (grdO (decide (e.2.2.2.2.2.2.1=e.2.2.2.2.2.2.1)) (some ())) (seqU (grdO (decide ((e.2.2.2.2.2.2.1.length:Int)=(e.2.2.2.2.2.2.1.length:Int))) (some ())) (seqU (grdO (decide (i.length+j.length≤9223372036854775807)) (grdO (decide (i++j=i++j)) (some ()))) (some ())))))) (grdO (decide (List.length (i++j)+k.length≤9223372036854775807)) (grdO (decide (List.length (i++j++k)+e.2.2.2.2.2.1.length≤9223372036854775807)) (zAA (F144 e.2.2.2.2.2.2.1.length) fun l=>
 seqU (seqU (grdO (decide (a++(f++g++h)=a++(f++g++h))) (some ())) (seqU (grdO (decide (e.2.2.2.2.2.1=e.2.2.2.2.2.1)) (some ())) (seqU (grdO (decide (i.length+j.length≤9223372036854775807)) (grdO (decide (i++j=i++j)) (some ()))) (seqU (grdO (decide (List.length (i++j)+k.length≤9223372036854775807)) (grdO (decide (i++j++k=i++j++k)) (some ()))) (seqU (grdO (decide (List.length (i++j++k)+e.2.2.2.2.2.1.length≤9223372036854775807)) (grdO (decide (i++j++k++e.2.2.2.2.2.1=i++j++k++e.2.2.2.2.2.1)) (some ()))) (some ())))))) (grdO (decide (List.length (i++j++k++e.2.2.2.2.2.1)+l.length≤9223372036854775807)) (grdO (decide (List.length (a++(f++g++h))+List.length (i++j++k++e.2.2.2.2.2.1++l)≤9223372036854775807)) (bindE (Y:=zBy×List Mth×Int×Int×Mth) (zAE (fun(a,b,c,d,e,f,g,h,i,j,k,l,m,n,o)=>
 cndO (decide (g<f))
 (grdO (decide (0≤g)) (atO e g.toNat fun p=>zAA (F145 p.1) fun q=>
 seqU (seqU (grdO (decide (a=a)) (some ())) (seqU (grdO (decide (p.2.1=p.2.1)) (some ())) (seqU (grdO (decide (p.2.2.1=p.2.2.1)) (some ())) (seqU (grdO (decide (p.2.2.2=p.2.2.2)) (some ())) (some ()))))) (zAA (F145 p.2.1) fun r=>
 seqU (seqU (grdO (decide (a=a)) (some ())) (seqU (grdO (decide (p.2.2.1=p.2.2.1)) (some ())) (seqU (grdO (decide (p.2.2.2=p.2.2.2)) (some ())) (some ())))) (grdO (decide (q.length+r.length≤9223372036854775807)) (zAA (F145 p.2.2.1) fun s=>
 seqU (seqU (grdO (decide (a=a)) (some ())) (seqU (grdO (decide (p.2.2.2=p.2.2.2)) (some ())) (seqU (grdO (decide (q.length+r.length≤9223372036854775807)) (grdO (decide (q++r=q++r)) (some ()))) (some ())))) (grdO (decide (List.length (q++r)+s.length≤9223372036854775807)) (zAA (F145 p.2.2.2) fun p=>
 seqU (seqU (grdO (decide (a=a)) (some ())) (seqU (grdO (decide (q.length+r.length≤9223372036854775807)) (grdO (decide (q++r=q++r)) (some ()))) (seqU (grdO (decide (List.length (q++r)+s.length≤9223372036854775807)) (grdO (decide (q++r++s=q++r++s)) (some ()))) (some ())))) (grdO (decide (List.length (q++r++s)+p.length≤9223372036854775807)) (grdO (decide (a.length+List.length (q++r++s++p)≤9223372036854775807)) (some (inl (a++(q++r++s++p),b,c,d,e,f,wrap .i64 (g+1),h,i,j,k,l,m,n,o))))))))))))
 (some (inr (inl (a,b,c,d,h,i,j,k,l,m,n,o))))) ((a++(f++g++h)++(i++j++k++e.2.2.2.2.2.1++l),b,c,d,e.2.2.2.2.2.2.1,(e.2.2.2.2.2.2.1.length:Int),(0:Int),e.1,e.2.1,e.2.2.1,e.2.2.2.1,e.2.2.2.2.1,e.2.2.2.2.2.1,e.2.2.2.2.2.2.1,e.2.2.2.2.2.2.2))) fun(a,b,c,d,_,_,_,_,_,_,_,e)=>
 zAA (F144 e.length) fun f=>
 grdO (decide (a.length+f.length≤9223372036854775807)) (bindE (Y:=zBy×List Mth×Int×Int) (zAE (fun(a,b,c,d,e,f,g)=>
 cndO (decide (g<f))
 (grdO (decide (0≤g)) (atO e g.toNat fun h=>zAA (F145 h.1) fun i=>
 seqU (seqU (grdO (decide (a=a)) (some ())) (seqU (grdO (decide (h.2.1=h.2.1)) (some ())) (seqU (grdO (decide (h.2.2=h.2.2)) (some ())) (some ())))) (zAA (F146 h.2.1) fun j=>
 seqU (seqU (grdO (decide (a=a)) (some ())) (seqU (grdO (decide (h.2.2=h.2.2)) (some ())) (some ()))) (grdO (decide (i.length+j.length≤9223372036854775807)) (zAA (F146 h.2.2) fun h=>
 seqU (seqU (grdO (decide (a=a)) (some ())) (seqU (grdO (decide (i.length+j.length≤9223372036854775807)) (grdO (decide (i++j=i++j)) (some ()))) (some ()))) (grdO (decide (List.length (i++j)+h.length≤9223372036854775807)) (grdO (decide (a.length+List.length (i++j++h)≤9223372036854775807)) (some (inl (a++(i++j++h),b,c,d,e,f,wrap .i64 (g+1)))))))))))
 (some (inr (inl (a,b,c,d))))) ((a++f,b,c,d,e,(e.length:Int),(0:Int)))) fun(a,b,c,d)=>
 some (inl (a,b,c,d))))))))))))))))))))) fun(a,b,c,d)=>
 some (inl (a,b,c,wrap .i64 (d+1))))
 (some (inr (inl a)))) ((a++c,b,(b.length:Int),(0:Int)))) fun a=>
 some a)))))))))))
def tb67:=insT 67 (mkE 67 true [] ti69 zEU F67 [.tmp 2] 225 []) tb146
def ok67:zTb tb67:=okI ok146 tp67 tv67 func67 rfl call67
abbrev ti57:SPat:=⟨[(0,.ptr 100000 0),(1,.i .i64)],[.box 100000 (pl zo21)]⟩
abbrev to57:SPat:=⟨[(4,.s)],[.box 100000 (pl zo21)]⟩
abbrev zOy:SPat:=⟨[(0,.ptr 100000 0),(1,.i .i64),(18,.b)],[.box 100000 (pl zo21)]⟩
def tv57:Nat→Option SPat:=fun k=>bif k==1000002 then some zOy else none
def F57:Int×zBy×Bool→Option (zBy×zBy×Bool):=fun(a,b,c)=>
 bindE (Y:=Int×Bool×zBy×Bool) (cndO (c)
 (some (inl (a,true,b,c)))
 (some (inl (a,decide ((b.length:Int)<a),b,c)))) fun(a,b,c,d)=>
 cndO (b)
 (some (([],c,true)))
 (grdO (decide (0≤a)&&decide (a≤(c.length:Int))) (grdO (decide (0≤a)&&decide (a≤(c.length:Int))&&decide ((c.length:Int)≤(c.length:Int))) (some ((List.drop (0:Nat) (List.take a.toNat c),List.drop a.toNat (List.take (Int.toNat (c.length:Int)) c),d)))))
def tb57:=insT 57 (mkE 57 false [(0,[])] ti57 to57 F57 [.tmp 4] 38 [100000]) tb67
def ok57:zTb tb57:=okI ok67 noPl tv57 func57 rfl call57
abbrev ti59:SPat:=⟨[(0,.ptr 100000 0)],[.box 100000 (pl zo21)]⟩
abbrev to59:SPat:=⟨[(2,.i .i64)],[.box 100000 (pl zo21)]⟩
def F59:zBy×Bool→Option (Int×zBy×Bool):=fun(a,b)=>
 zAA (F57 (1,a,b)) fun(a,b,c)=>
 cndO (c)
 (some (((0:Int),b,c)))
 (atO a 0 fun a=>some ((wrap .i64 (a.toNat:Int),b,c)))
def tb59:=insT 59 (mkE 59 false [(0,[])] ti59 to59 F59 [.tmp 2] 13 [100000]) tb57
def ok59:zTb tb59:=okI ok57 noPl noIv func59 rfl call59
abbrev ti58:SPat:=⟨[(0,.ptr 100000 0),(1,.i .i64),(2,.i .i64)],[.box 100000 (pl zo21)]⟩
abbrev to58:SPat:=⟨[(6,.i .i64)],[.box 100000 (pl zo21)]⟩
def F58:Int×Int×zBy×Bool→Option (Int×zBy×Bool):=fun(a,b,c,d)=>
 cndO (decide (b<a))
 (some (((0:Int),c,true)))
 (some ((a,c,d)))
def tb58:=insT 58 (mkE 58 false [(0,[])] ti58 to58 F58 [.tmp 6] 14 [100000]) tb59
def ok58:zTb tb58:=okI ok59 noPl noIv func58 rfl call58
def F61:zBy×Bool→Option (Int×zBy×Bool):=fun(a,b)=>
 zAA (F59 (a,b)) fun(a,b,c)=>
 zAA (F59 (b,c)) fun(b,c,d)=>
 some ((wrap .i64 (wrap .i64 ((256:Int)*a)+b),c,d))
def tb61:=insT 61 (mkE 61 false [(0,[])] ti59 to59 F61 [.tmp 2] 11 [100000]) tb58
def ok61:zTb tb61:=okI ok58 noPl noIv func61 rfl call61
abbrev to60:SPat:=⟨[(2,.ptr 2 0)],[.box 2 (pl zo4),.box 100000 (pl zo21)]⟩
abbrev zOx:SPat:=⟨[(0,.ptr 100000 0),(2,.ptr 2 0),(3,.ptr 3 0),(24,.b)],[.box 2 (pl zo4),.box 3 (pl zo4),.box 100000 (pl zo21)]⟩
abbrev zOw:SPat:=⟨[(2,.ptr 2 0),(3,.ptr 3 0)],[.box 2 (pl zo4),.box 3 (pl zo4),.box 100000 (pl zo21)]⟩
def tv60:Nat→Option SPat:=fun k=>bif k==1000012 then some zOx else bif k==2000000 then some zOw else none
def F60:zBy×Bool→Option ( Cst×zBy×Bool):=fun(a,b)=>
 zAA (F59 (a,b)) fun(a,b,c)=>
 bindE (Y :=  Cst×Cst×zBy×Bool) (cndO (decide (a=1))
 (zAA (F59 (b,c)) fun(b,c,d)=>
 zAA (F57 (b,c,d)) fun(b,c,d)=>
 some (inl (((0:Int),[],(0:Int),(0:Int)),(a,b,(0:Int),(0:Int)),c,d)))
 (cndO (decide (a=2))
 (zAA (F61 (b,c)) fun(b,c,d)=>
 some (inl (((0:Int),[],(0:Int),(0:Int)),(a,[],b,(0:Int)),c,d)))
 (bindE (Y:=Bool×Cst×Cst×zBy×Bool) (cndO (decide (a=3))
 (some (inl (true,((0:Int),[],(0:Int),(0:Int)),(a,[],(0:Int),(0:Int)),b,c)))
 (cndO (decide (a=4))
 (some (inl (true,((0:Int),[],(0:Int),(0:Int)),(a,[],(0:Int),(0:Int)),b,c)))
 (cndO (decide (a=5))
 (some (inl (true,((0:Int),[],(0:Int),(0:Int)),(a,[],(0:Int),(0:Int)),b,c)))
 (some (inl (decide (a=6),((0:Int),[],(0:Int),(0:Int)),(a,[],(0:Int),(0:Int)),b,c)))))) fun(a,(b,c,d,e),(f,g,h,i),j,k)=>
 cndO (a)
 (zAA (F61 (j,k)) fun(a,h,i)=>
 zAA (F61 (h,i)) fun(h,i,j)=>
 some (inl ((b,c,d,e),(f,g,a,h),i,j)))
 (some (inl ((b,c,d,e),(f,g,h,i),j,true)))))) fun((_,_,_,_),(a,b,c,d),e,f)=>
 some (((a,b,c,d),e,f))
def tb60:=insT 60 (mkE 60 false [(0,[])] ti59 to60 F60 [.cell 2 27] 36 [100000]) tb61
def ok60:zTb tb60:=okI ok61 noPl tv60 func60 rfl call60
abbrev to141:SPat:=⟨[(2,.own zBv true)],[.box 100000 (pl zo21)]⟩
abbrev zRA:SPat:=⟨[(0,.ptr 100000 0),(3,.own zBv true),(4,.i .i64)],[.box 100000 (pl zo21)]⟩
abbrev zNC:SPat:=⟨[(3,.own zBv true)],[.box 100000 (pl zo21)]⟩
def tv141:Nat→Option SPat:=fun k=>bif k==3 then some zRA else bif k==1000005 then some zRA else bif k==2000000 then some zNC else bif k==2000001 then some zRA else none
def F141:zBy×Bool→Option (List Knd×zBy×Bool):=fun(a,b)=>
 zAA (F59 (a,b)) fun(a,b,c)=>
 zAA (F58 (a,8,b,c)) fun(a,b,c)=>
 bindE (Y:=List Knd×zBy×Bool) (zAE (fun(a,b,c,d)=>
 bindE (Y:=List Knd×Int×zBy×Bool) (cndO (decide (0<b))
 (cndO (!d)
 (some (inl (a,b,c,d)))
 (some (inr (inr (inl (a,c,d))))))
 (some (inr (inr (inl (a,c,d)))))) fun(a,b,c,d)=>
 bindE (Y:=List Knd×Int×zBy×Bool) (zAA (F59 (c,d)) fun(c,d,e)=>
 zAA (F58 (c,3,d,e)) fun(c,d,e)=>
 cndO (decide (c=3))
 (zAA (F61 (d,e)) fun(d,e,f)=>
 grdO (decide (a.length+1≤9223372036854775807)&&decide ((a.length+1)*16≤140737488355328)) (some (inl (a++[(c,d)],b,e,f))))
 (grdO (decide (a.length+1≤9223372036854775807)&&decide ((a.length+1)*16≤140737488355328)) (some (inl (a++[(c,(0:Int))],b,d,e))))) fun(a,b,c,d)=>
 some (inl (a,wrap .i64 (b-1),c,d))) (([],a,b,c))) fun(a,b,c)=>
 some ((a,b,c))
def tb141:=insT 141 (mkE 141 false [(0,[])] ti59 to141 F141 [.tmp 2] 37 [100000]) tb60
def ok141:zTb tb141:=okI ok60 noPl tv141 func141 rfl call141
abbrev to62:SPat:=⟨[(2,.ptr 2 0)],[.box 2 (pl plN),.box 100000 (pl zo21)]⟩
abbrev zVN:SPat:=⟨[(0,.ptr 100000 0),(2,.ptr 2 0),(3,.ptr 3 0),(4,.i .i64)],[.box 2 (pl plN),.box 3 (pl plN),.box 100000 (pl zo21)]⟩
abbrev zVM:SPat:=⟨[(0,.ptr 100000 0),(2,.ptr 2 0),(3,.ptr 3 0),(6,.i .i64)],[.box 2 (pl plN),.box 3 (pl plN),.box 100000 (pl zo21)]⟩
abbrev zOv:SPat:=⟨[(0,.ptr 100000 0),(2,.ptr 2 0),(3,.ptr 3 0)],[.box 2 (pl plN),.box 3 (pl plN),.box 100000 (pl zo21)]⟩
abbrev zOu:SPat:=⟨[(2,.ptr 2 0),(3,.ptr 3 0)],[.box 2 (pl plN),.box 3 (pl plN),.box 100000 (pl zo21)]⟩
def tv62:Nat→Option SPat:=fun k=>bif k==10 then some zVN else bif k==18 then some zVM else bif k==1000012 then some zVN else bif k==1000020 then some zVM else bif k==2000000 then some zOv else bif k==2000002 then some zOu else none
def F62:zBy×Bool→Option ( Mth×zBy×Bool):=fun(a,b)=>
 zAA (F59 (a,b)) fun(a,b,c)=>
 zAA (F61 (b,c)) fun(b,c,d)=>
 zAA (F61 (c,d)) fun(c,d,e)=>
 zAA (F86 a) fun f=>
 cndO (f)
 (some (((a,b,c,(0:Int),(0:Int),[],[],[]),d,e)))
 (zAA (F59 (d,e)) fun(d,e,f)=>
 zAA (F59 (e,f)) fun(e,f,g)=>
 zAA (F61 (f,g)) fun(f,g,h)=>
 zAA (F58 (f,120,g,h)) fun(f,g,h)=>
 zAA (F57 (f,g,h)) fun(f,g,h)=>
 zAA (F59 (g,h)) fun(g,h,i)=>
 zAA (F58 (g,3,h,i)) fun(g,h,i)=>
 bindE (Y :=  Mth×Mth×zBy×Bool) (zAE (fun(a,(b,c,d,e,f,g,h,i),(j,k,l,m,n,o,p,q),r,s)=>
 bindE (Y:=Int×Mth×Mth×zBy×Bool) (cndO (decide (0<a))
 (cndO (!s)
 (some (inl (a,(b,c,d,e,f,g,h,i),(j,k,l,m,n,o,p,q),r,s)))
 (some (inr (inr (inl ((b,c,d,e,f,g,h,i),(j,k,l,m,n,o,p,q),r,s))))))
 (some (inr (inr (inl ((b,c,d,e,f,g,h,i),(j,k,l,m,n,o,p,q),r,s)))))) fun(a,(b,c,d,e,f,g,h,i),(j,k,l,m,n,o,p,q),r,s)=>
 zAA (F61 (r,s)) fun(r,s,t)=>
 zAA (F61 (s,t)) fun(s,t,u)=>
 zAA (F61 (t,u)) fun(t,u,v)=>
 zAA (F61 (u,v)) fun(u,v,w)=>
 grdO (decide (p.length+1≤9223372036854775807)&&decide ((p.length+1)*32≤140737488355328)) (some (inl (wrap .i64 (a-1),(b,c,d,e,f,g,h,i),(j,k,l,m,n,o,p++[(r,s,t,u)],q),v,w)))) ((g,((0:Int),(0:Int),(0:Int),(0:Int),(0:Int),[],[],[]),(a,b,c,d,e,f,[],[]),h,i))) fun((a,b,c,d,e,f,g,h),(i,j,k,l,m,n,o,p),q,r)=>
 zAA (F59 (q,r)) fun(q,r,s)=>
 zAA (F58 (q,8,r,s)) fun(q,r,s)=>
 bindE (Y :=  Mth×Mth×zBy×Bool) (zAE (fun(a,(b,c,d,e,f,g,h,i),(j,k,l,m,n,o,p,q),r,s)=>
 bindE (Y:=Int×Mth×Mth×zBy×Bool) (cndO (decide (0<a))
 (cndO (!s)
 (some (inl (a,(b,c,d,e,f,g,h,i),(j,k,l,m,n,o,p,q),r,s)))
 (some (inr (inr (inl ((b,c,d,e,f,g,h,i),(j,k,l,m,n,o,p,q),r,s))))))
 (some (inr (inr (inl ((b,c,d,e,f,g,h,i),(j,k,l,m,n,o,p,q),r,s)))))) fun(a,(b,c,d,e,f,g,h,i),(j,k,l,m,n,o,p,q),r,s)=>
 zAA (F61 (r,s)) fun(r,s,t)=>
 zAA (F141 (s,t)) fun(s,t,u)=>
 zAA (F141 (t,u)) fun(t,u,v)=>
 grdO (decide (q.length+1≤9223372036854775807)&&decide ((q.length+1)*56≤140737488355328)) (some (inl (wrap .i64 (a-1),(b,c,d,e,f,g,h,i),(j,k,l,m,n,o,p,q++[(r,s,t)]),u,v)))) ((q,(a,b,c,d,e,f,g,h),(i,j,k,l,m,n,o,p),r,s))) fun((_,_,_,_,_,_,_,_),(a,b,c,d,e,f,g,h),i,j)=>
 some (((a,b,c,d,e,f,g,h),i,j)))
def tb62:=insT 62 (mkE 62 false [(0,[])] ti59 to62 F62 [.cell 2 53] 98 [100000]) tb141
def ok62:zTb tb62:=okI ok141 noPl tv62 func62 rfl call62
abbrev ts17_8:SPat:=⟨[(2,.ptr 2 0),(4,.ptr 17 0),(5,.ptr 5 0),(6,.i .i64)],[.box 2 (pl plD),.box 5 (pl plD),.box 17 (pl zo21)]⟩
abbrev zVd:SPat:=⟨[(2,.ptr 2 0),(4,.ptr 17 0),(5,.ptr 5 0),(7,.i .i64)],[.box 2 (pl plD),.box 5 (pl plD),.box 17 (pl zo21)]⟩
abbrev zVc:SPat:=⟨[(2,.ptr 2 0),(4,.ptr 17 0),(5,.ptr 5 0),(8,.i .i64)],[.box 2 (pl plD),.box 5 (pl plD),.box 17 (pl zo21)]⟩
abbrev zVb:SPat:=⟨[(2,.ptr 2 0),(4,.ptr 17 0),(5,.ptr 5 0),(10,.i .i64)],[.box 2 (pl plD),.box 5 (pl plD),.box 17 (pl zo21)]⟩
abbrev zDw:SPat:=⟨[(2,.ptr 2 0),(4,.ptr 17 0),(5,.ptr 5 0)],[.box 2 (pl plD),.box 5 (pl plD),.box 17 (pl zo21)]⟩
def tv17:Nat→Option SPat:=fun k=>bif k==8 then some ts17_8 else bif k==15 then some zVd else bif k==19 then some zVc else bif k==26 then some zVb else bif k==1000010 then some ts17_8 else bif k==1000017 then some zVd else bif k==1000021 then some zVc else bif k==1000028 then some zVb else bif k==2000000 then some zDw else bif k==2000002 then some zDw else bif k==2000004 then some zDw else bif k==2000006 then some zDw else none
def tp17:Nat→List Nat×Plan:=fun id=>bif id==10 then([0,1,2],(.br 3 [2] zn0 [] (.br 4 [3,2] zn0 [] (.br 5 zn27 [] [6] (.br 7 zn13 [] [] .fin .fin) .fin) .fin) .fin))else bif id==17 then([0,1,2],(.br 3 [2] zn0 [] (.br 4 [3,2] zn0 [] (.br 5 zn27 [] [6] (.br 7 zn13 [] [] .fin .fin) .fin) .fin) .fin))else bif id==28 then([0,1,2],(.br 3 [2] zn0 [] (.br 4 [3,2] zn0 [] (.br 5 zn27 [] [6] (.br 7 zn13 [] [] .fin .fin) .fin) .fin) .fin))else([],.fin)
def F17:zBy→Option (Bool×Cls):=fun a=>
 cndO (decide (900<(a.length:Int)))
 (some ((false,[],(0:Int),(0:Int),(0:Int),[],[],[])))
 (zAA (F57 (4,a,false)) fun(a,b,c)=>
 cndO (!decide (a=[(83:UInt8),84,79,87]))
 (some ((false,[],(0:Int),(0:Int),(0:Int),[],[],[])))
 (zAA (F59 (b,c)) fun(a,b,c)=>
 zAA (F58 (a,60,b,c)) fun(a,b,c)=>
 bindE (Y :=  Cls×Cls×zBy×Bool) (zAE (fun(a,(b,c,d,e,f,g,h),(i,j,k,l,m,n,o),p,q)=>
 bindE (Y:=Int×Cls×Cls×zBy×Bool) (cndO (decide (0<a))
 (cndO (!q)
 (some (inl (a,(b,c,d,e,f,g,h),(i,j,k,l,m,n,o),p,q)))
 (some (inr (inr (inl ((b,c,d,e,f,g,h),(i,j,k,l,m,n,o),p,q))))))
 (some (inr (inr (inl ((b,c,d,e,f,g,h),(i,j,k,l,m,n,o),p,q)))))) fun(a,(b,c,d,e,f,g,h),(i,j,k,l,m,n,o),p,q)=>
 zAA (F60 (p,q)) fun((p,q,r,s),t,u)=>
 grdO (decide (i.length+1≤9223372036854775807)&&decide ((i.length+1)*40≤140737488355328)) (some (inl (wrap .i64 (a-1),(b,c,d,e,f,g,h),(i++[(p,q,r,s)],j,k,l,m,n,o),t,u)))) ((a,([],(0:Int),(0:Int),(0:Int),[],[],[]),([],(0:Int),(0:Int),(0:Int),[],[],[]),b,c))) fun((a,b,c,d,e,f,g),(h,_,_,_,i,j,k),l,m)=>
 zAA (F59 (l,m)) fun(l,m,n)=>
 zAA (F61 (m,n)) fun(m,n,o)=>
 zAA (F61 (n,o)) fun(n,o,p)=>
 zAA (F59 (o,p)) fun(o,p,q)=>
 zAA (F58 (o,3,p,q)) fun(o,p,q)=>
 bindE (Y :=  Cls×Cls×zBy×Bool) (zAE (fun(a,(b,c,d,e,f,g,h),(i,j,k,l,m,n,o),p,q)=>
 bindE (Y:=Int×Cls×Cls×zBy×Bool) (cndO (decide (0<a))
 (cndO (!q)
 (some (inl (a,(b,c,d,e,f,g,h),(i,j,k,l,m,n,o),p,q)))
 (some (inr (inr (inl ((b,c,d,e,f,g,h),(i,j,k,l,m,n,o),p,q))))))
 (some (inr (inr (inl ((b,c,d,e,f,g,h),(i,j,k,l,m,n,o),p,q)))))) fun(a,(b,c,d,e,f,g,h),(i,j,k,l,m,n,o),p,q)=>
 zAA (F61 (p,q)) fun(p,q,r)=>
 grdO (decide (m.length+1≤9223372036854775807)&&decide ((m.length+1)*8≤140737488355328)) (some (inl (wrap .i64 (a-1),(b,c,d,e,f,g,h),(i,j,k,l,m++[p],n,o),q,r)))) ((o,(a,b,c,d,e,f,g),(h,l,m,n,i,j,k),p,q))) fun((a,b,c,d,e,f,g),(h,i,j,k,l,m,n),o,p)=>
 zAA (F59 (o,p)) fun(o,p,q)=>
 zAA (F58 (o,5,p,q)) fun(o,p,q)=>
 bindE (Y :=  Cls×Cls×zBy×Bool) (zAE (fun(a,(b,c,d,e,f,g,h),(i,j,k,l,m,n,o),p,q)=>
 bindE (Y:=Int×Cls×Cls×zBy×Bool) (cndO (decide (0<a))
 (cndO (!q)
 (some (inl (a,(b,c,d,e,f,g,h),(i,j,k,l,m,n,o),p,q)))
 (some (inr (inr (inl ((b,c,d,e,f,g,h),(i,j,k,l,m,n,o),p,q))))))
 (some (inr (inr (inl ((b,c,d,e,f,g,h),(i,j,k,l,m,n,o),p,q)))))) fun(a,(b,c,d,e,f,g,h),(i,j,k,l,m,n,o),p,q)=>
 zAA (F59 (p,q)) fun(p,q,r)=>
 zAA (F61 (q,r)) fun(q,r,s)=>
 zAA (F61 (r,s)) fun(r,s,t)=>
 grdO (decide (n.length+1≤9223372036854775807)&&decide ((n.length+1)*24≤140737488355328)) (some (inl (wrap .i64 (a-1),(b,c,d,e,f,g,h),(i,j,k,l,m,n++[(p,q,r)],o),s,t)))) ((o,(a,b,c,d,e,f,g),(h,i,j,k,l,m,n),p,q))) fun((a,b,c,d,e,f,g),(h,i,j,k,l,m,n),o,p)=>
 zAA (F59 (o,p)) fun(o,p,q)=>
 zAA (F58 (o,6,p,q)) fun(o,p,q)=>
 bindE (Y :=  Cls×Cls×zBy×Bool) (zAE (fun(a,(b,c,d,e,f,g,h),(i,j,k,l,m,n,o),p,q)=>
 bindE (Y:=Int×Cls×Cls×zBy×Bool) (cndO (decide (0<a))
 (cndO (!q)
 (some (inl (a,(b,c,d,e,f,g,h),(i,j,k,l,m,n,o),p,q)))
 (some (inr (inr (inl ((b,c,d,e,f,g,h),(i,j,k,l,m,n,o),p,q))))))
 (some (inr (inr (inl ((b,c,d,e,f,g,h),(i,j,k,l,m,n,o),p,q)))))) fun(a,(b,c,d,e,f,g,h),(i,j,k,l,m,n,o),p,q)=>
 zAA (F62 (p,q)) fun((p,q,r,s,t,u,v,w),x,y)=>
 grdO (decide (o.length+1≤9223372036854775807)&&decide ((o.length+1)*104≤140737488355328)) (some (inl (wrap .i64 (a-1),(b,c,d,e,f,g,h),(i,j,k,l,m,n,o++[(p,q,r,s,t,u,v,w)]),x,y)))) ((o,(a,b,c,d,e,f,g),(h,i,j,k,l,m,n),p,q))) fun((_,_,_,_,_,_,_),(a,b,c,d,e,f,g),h,i)=>
 cndO (i)
 (some ((false,[],(0:Int),(0:Int),(0:Int),[],[],[])))
 (cndO (!decide (h=[]))
 (some ((false,[],(0:Int),(0:Int),(0:Int),[],[],[])))
 (some ((true,a,b,c,d,e,f,g))))))
def tb17:=insT 17 (mkE 17 true [] zEV to63 F17 [.cell 2 34,.tmp 3] 140 []) tb62
def ok17:zTb tb17:=okI ok62 tp17 tv17 func17 rfl call17
abbrev ts147_4:SPat:=⟨[(0,.sl tg27),(1,.sl tg27),(12,.i .i64),(13,.i .i64)],[]⟩
def tv147:Nat→Option SPat:=fun k=>bif k==4 then some ts147_4 else bif k==2000000 then some zCA else none
def tp147:Nat→List Nat×Plan:=fun id=>bif id==6 then(zn35,.fin)else([],.fin)
def F147:List Cst×List Cst→Option Bool:=fun(a,b)=>
 cndO (!decide ((a.length:Int)=(b.length:Int)))
 (some false)
 (bindE (zAE (fun(a,b,c,d)=>
 cndO (decide (d<c))
 (grdO (decide (0≤d)) (atO a d.toNat fun e=>grdO (decide (0≤d)) (atO b d.toNat fun f=>cndO (!(decide (e.1=f.1)&&(decide (e.2.1=f.2.1)&&(decide (e.2.2.1=f.2.2.1)&&(decide (e.2.2.2=f.2.2.2)&&true)))))
 (some (inr (inr false)))
 (some (inl (a,b,c,wrap .i64 (d+1)))))))
 (some (inr (inl ())))) ((a,b,(a.length:Int),(0:Int)))) fun _=>
 some true)
def tb147:=insT 147 (mkE 147 true [] ti152 zBu F147 [.tmp 4] 26 []) tb17
def ok147:zTb tb147:=okI ok17 tp147 tv147 func147 rfl call147
abbrev ti148:SPat:=⟨[(0,.sl (.int .i64)),(1,.sl (.int .i64))],[]⟩
abbrev ts148_4:SPat:=⟨[(0,.sl (.int .i64)),(1,.sl (.int .i64)),(12,.i .i64),(13,.i .i64)],[]⟩
def tv148:Nat→Option SPat:=fun k=>bif k==4 then some ts148_4 else bif k==2000000 then some zCA else none
def tp148:Nat→List Nat×Plan:=fun id=>bif id==6 then(zn35,.fin)else([],.fin)
def F148:List Int×List Int→Option Bool:=fun(a,b)=>
 cndO (!decide ((a.length:Int)=(b.length:Int)))
 (some false)
 (bindE (zAE (fun(a,b,c,d)=>
 cndO (decide (d<c))
 (grdO (decide (0≤d)) (atO a d.toNat fun e=>grdO (decide (0≤d)) (atO b d.toNat fun f=>cndO (!decide (e=f))
 (some (inr (inr false)))
 (some (inl (a,b,c,wrap .i64 (d+1)))))))
 (some (inr (inl ())))) ((a,b,(a.length:Int),(0:Int)))) fun _=>
 some true)
def tb148:=insT 148 (mkE 148 true [] ti148 zBu F148 [.tmp 4] 26 []) tb147
def ok148:zTb tb148:=okI ok147 tp148 tv148 func148 rfl call148
abbrev ti149:SPat:=⟨[(0,.sl tg89),(1,.sl tg89)],[]⟩
abbrev zVh:SPat:=⟨[(0,.sl tg89),(1,.sl tg89),(12,.i .i64),(13,.i .i64)],[]⟩
def tv149:Nat→Option SPat:=fun k=>bif k==4 then some zVh else bif k==2000000 then some zCA else none
def tp149:Nat→List Nat×Plan:=fun id=>bif id==6 then(zn35,.fin)else([],.fin)
def F149:List Fld×List Fld→Option Bool:=fun(a,b)=>
 cndO (!decide ((a.length:Int)=(b.length:Int)))
 (some false)
 (bindE (zAE (fun(a,b,c,d)=>
 cndO (decide (d<c))
 (grdO (decide (0≤d)) (atO a d.toNat fun e=>grdO (decide (0≤d)) (atO b d.toNat fun f=>cndO (!(decide (e.1=f.1)&&(decide (e.2.1=f.2.1)&&(decide (e.2.2=f.2.2)&&true))))
 (some (inr (inr false)))
 (some (inl (a,b,c,wrap .i64 (d+1)))))))
 (some (inr (inl ())))) ((a,b,(a.length:Int),(0:Int)))) fun _=>
 some true)
def tb149:=insT 149 (mkE 149 true [] ti149 zBu F149 [.tmp 4] 26 []) tb148
def ok149:zTb tb149:=okI ok148 tp149 tv149 func149 rfl call149
abbrev ti224:SPat:=⟨[(0,.sl zFQ),(1,.sl zFQ)],[]⟩
abbrev ts224_4:SPat:=⟨[(0,.sl zFQ),(1,.sl zFQ),(12,.i .i64),(13,.i .i64)],[]⟩
def tv224:Nat→Option SPat:=fun k=>bif k==4 then some ts224_4 else bif k==2000000 then some zCA else none
def tp224:Nat→List Nat×Plan:=fun id=>bif id==6 then(zn35,.fin)else([],.fin)
def F224:List Trp×List Trp→Option Bool:=fun(a,b)=>
 cndO (!decide ((a.length:Int)=(b.length:Int)))
 (some false)
 (bindE (zAE (fun(a,b,c,d)=>
 cndO (decide (d<c))
 (grdO (decide (0≤d)) (atO a d.toNat fun e=>grdO (decide (0≤d)) (atO b d.toNat fun f=>cndO (!(decide (e.1=f.1)&&(decide (e.2.1=f.2.1)&&(decide (e.2.2.1=f.2.2.1)&&(decide (e.2.2.2=f.2.2.2)&&true)))))
 (some (inr (inr false)))
 (some (inl (a,b,c,wrap .i64 (d+1)))))))
 (some (inr (inl ())))) ((a,b,(a.length:Int),(0:Int)))) fun _=>
 some true)
def tb224:=insT 224 (mkE 224 true [] ti224 zBu F224 [.tmp 4] 26 []) tb149
def ok224:zTb tb224:=okI ok149 tp224 tv224 func224 rfl call224
abbrev ts227_4:SPat:=⟨[(0,.sl zBv),(1,.sl zBv),(12,.i .i64),(13,.i .i64)],[]⟩
def tv227:Nat→Option SPat:=fun k=>bif k==4 then some ts227_4 else bif k==2000000 then some zCA else none
def tp227:Nat→List Nat×Plan:=fun id=>bif id==6 then(zn35,.fin)else([],.fin)
def F227:List Knd×List Knd→Option Bool:=fun(a,b)=>
 cndO (!decide ((a.length:Int)=(b.length:Int)))
 (some false)
 (bindE (zAE (fun(a,b,c,d)=>
 cndO (decide (d<c))
 (grdO (decide (0≤d)) (atO a d.toNat fun e=>grdO (decide (0≤d)) (atO b d.toNat fun f=>cndO (!(decide (e.1=f.1)&&(decide (e.2=f.2)&&true)))
 (some (inr (inr false)))
 (some (inl (a,b,c,wrap .i64 (d+1)))))))
 (some (inr (inl ())))) ((a,b,(a.length:Int),(0:Int)))) fun _=>
 some true)
def tb227:=insT 227 (mkE 227 true [] ti282 zBu F227 [.tmp 4] 26 []) tb224
def ok227:zTb tb227:=okI ok224 tp227 tv227 func227 rfl call227
abbrev ti226:SPat:=⟨[(0,.agg (pl zo22)),(1,.agg (pl zo22))],[]⟩
def F226 :  Frm×Frm→Option Bool:=fun((a,b,c),d,e,f)=>
 cndO (decide (a=d))
 (zAA (F227 (b,e)) fun a=>
 cndO (a)
 (zAA (F227 (c,f)) fun a=>
 some a)
 (some false))
 (some false)
def tb226:=insT 226 (mkE 226 true [] ti226 zBu F226 [.tmp 4] 24 []) tb227
def ok226:zTb tb226:=okI ok227 noPl noIv func226 rfl call226
abbrev ti227225:SPat:=⟨[(0,.sl zBd),(1,.sl zBd),(2,.fn 226 (pl []))],[]⟩
abbrev zUN:SPat:=⟨[(1,.sl zBd),(2,.fn 226 (pl [])),(15,.sl zBd),(16,.i .i64),(17,.i .i64)],[]⟩
def tv227225:Nat→Option SPat:=fun k=>bif k==4 then some zUN else bif k==2000000 then some zCA else none
def F227225:List Frm×List Frm→Option Bool:=fun(a,b)=>
 cndO (!decide ((a.length:Int)=(b.length:Int)))
 (some false)
 (bindE (zAE (fun(a,b,c,d)=>
 cndO (decide (d<c))
 (grdO (decide (0≤d)) (atO b d.toNat fun e=>grdO (decide (0≤d)) (atO a d.toNat fun f=>zAA (F226 ((e.1,e.2.1,e.2.2),f.1,f.2.1,f.2.2)) fun e=>
 cndO (!e)
 (some (inr (inr false)))
 (some (inl (a,b,c,wrap .i64 (d+1)))))))
 (some (inr (inl ())))) ((b,a,(a.length:Int),(0:Int)))) fun _=>
 some true)
def zSm:=insT 227225 (mkE 225 true [] ti227225 zKj F227225 [.tmp 6] 32 []) tb226
def ok227225:zTb zSm:=okI ok226 noPl tv227225 func225 rfl call225
def F151 :  Mth×Mth→Option Bool:=fun((a,b,c,d,e,f,g,h),i,j,k,l,m,n,o,p)=>
 cndO (decide (a=i))
 (cndO (decide (b=j))
 (cndO (decide (c=k))
 (cndO (decide (d=l))
 (cndO (decide (e=m))
 (cndO (decide (f=n))
 (zAA (F224 (g,o)) fun a=>
 cndO (a)
 (zAA (F227225 (h,p)) fun a=>
 some a)
 (some false))
 (some false))
 (some false))
 (some false))
 (some false))
 (some false))
 (some false)
def tb151:=insT 151 (mkE 151 true [] ti153 zBu F151 [.tmp 4] 59 []) zSm
def ok151:zTb tb151:=okI ok227225 noPl noIv func151 rfl call151
abbrev ti152150:SPat:=⟨[(0,.sl tg53),(1,.sl tg53),(2,.fn 151 (pl []))],[]⟩
abbrev zUR:SPat:=⟨[(1,.sl tg53),(2,.fn 151 (pl [])),(15,.sl tg53),(16,.i .i64),(17,.i .i64)],[]⟩
def tv152150:Nat→Option SPat:=fun k=>bif k==4 then some zUR else bif k==2000000 then some zCA else none
def F152150:List Mth×List Mth→Option Bool:=fun(a,b)=>
 cndO (!decide ((a.length:Int)=(b.length:Int)))
 (some false)
 (bindE (zAE (fun(a,b,c,d)=>
 cndO (decide (d<c))
 (grdO (decide (0≤d)) (atO b d.toNat fun e=>grdO (decide (0≤d)) (atO a d.toNat fun f=>zAA (F151 ((e.1,e.2.1,e.2.2.1,e.2.2.2.1,e.2.2.2.2.1,e.2.2.2.2.2.1,e.2.2.2.2.2.2.1,e.2.2.2.2.2.2.2),f.1,f.2.1,f.2.2.1,f.2.2.2.1,f.2.2.2.2.1,f.2.2.2.2.2.1,f.2.2.2.2.2.2.1,f.2.2.2.2.2.2.2)) fun e=>
 cndO (!e)
 (some (inr (inr false)))
 (some (inl (a,b,c,wrap .i64 (d+1)))))))
 (some (inr (inl ())))) ((b,a,(a.length:Int),(0:Int)))) fun _=>
 some true)
def zSt:=insT 152150 (mkE 150 true [] ti152150 zKj F152150 [.tmp 6] 32 []) tb151
def ok152150:zTb zSt:=okI ok151 noPl tv152150 func150 rfl call150
def F68 :  Cls×Cls→Option Bool:=fun((a,b,c,d,e,f,g),h,i,j,k,l,m,n)=>
 zAA (F147 (a,h)) fun a=>
 cndO (a)
 (cndO (decide (b=i))
 (cndO (decide (c=j))
 (cndO (decide (d=k))
 (zAA (F148 (e,l)) fun a=>
 cndO (a)
 (zAA (F149 (f,m)) fun a=>
 cndO (a)
 (zAA (F152150 (g,n)) fun a=>
 some a)
 (some false))
 (some false))
 (some false))
 (some false))
 (some false))
 (some false)
def tb68:=insT 68 (mkE 68 true [] ti70 zBu F68 [.tmp 4] 52 []) zSt
def ok68:zTb tb68:=okI ok152150 noPl noIv func68 rfl call68
def F20:Cls→Option zBy:=fun(a,b,c,d,e,f,g)=>
 zAA (F66 (a,b,c,d,e,f,g)) fun h=>
 cndO (!h)
 (some ([]))
 (zAA (F67 (a,b,c,d,e,f,g)) fun h=>
 zAA (F17 h) fun(i,j,k,l,m,n,o,p)=>
 cndO (!i)
 (some ([]))
 (zAA (F68 ((a,b,c,d,e,f,g),j,k,l,m,n,o,p)) fun a=>
 cndO (!a)
 (some ([]))
 (some h)))
def tb20:=insT 20 (mkE 20 true [] ti69 zEU F20 [.tmp 2] 25 []) tb68
def ok20:zTb tb20:=okI ok68 noPl noIv func20 rfl call20
def F89:Int×Int×Int→Option Bool:=fun(a,b,c)=>
 cndO (decide (b≤a))
 (some (decide (a≤c)))
 (some false)
def tb89:=insT 89 (mkE 89 true [] ti107 zKj F89 [.tmp 6] 15 []) tb20
def ok89:zTb tb89:=okI ok20 noPl noIv func89 rfl call89
abbrev ts48_4:SPat:=⟨[(0,.s),(20,.i .i64),(21,.i .i64)],[]⟩
def tv48:Nat→Option SPat:=fun k=>bif k==4 then some ts48_4 else bif k==1000003 then some zEV else bif k==2000000 then some zCA else bif k==2000001 then some ts48_4 else none
def F48:zBy→Option Bool:=fun a=>
 bindE (Y:=zBy) (zAA (F89 ((a.length:Int),1,8)) fun b=>
 cndO (!b)
 (some (inr false))
 (atO a 0 fun b=>cndO (decide (48≤(b.toNat:Int)))
 (atO a 0 fun b=>cndO (decide ((b.toNat:Int)≤57))
 (some (inr false))
 (some (inl a)))
 (some (inl a)))) fun a=>
 bindE (zAE (fun(a,b,c)=>
 cndO (decide (c<b))
 (bindE (Y:=zBy×Int×Int) (grdO (decide (0≤c)) (atO a c.toNat fun d=>cndO (decide (97≤(d.toNat:Int)))
 (cndO (decide ((d.toNat:Int)≤122))
 (some (inl (a,b,c)))
 (cndO (decide (65≤(d.toNat:Int)))
 (cndO (decide ((d.toNat:Int)≤90))
 (some (inl (a,b,c)))
 (cndO (decide (48≤(d.toNat:Int)))
 (cndO (!decide ((d.toNat:Int)≤57))
 (some (inr (inr (inr false))))
 (some (inl (a,b,c))))
 (some (inr (inr (inr false))))))
 (cndO (decide (48≤(d.toNat:Int)))
 (cndO (!decide ((d.toNat:Int)≤57))
 (some (inr (inr (inr false))))
 (some (inl (a,b,c))))
 (some (inr (inr (inr false)))))))
 (cndO (decide (65≤(d.toNat:Int)))
 (cndO (decide ((d.toNat:Int)≤90))
 (some (inl (a,b,c)))
 (cndO (decide (48≤(d.toNat:Int)))
 (cndO (!decide ((d.toNat:Int)≤57))
 (some (inr (inr (inr false))))
 (some (inl (a,b,c))))
 (some (inr (inr (inr false))))))
 (cndO (decide (48≤(d.toNat:Int)))
 (cndO (!decide ((d.toNat:Int)≤57))
 (some (inr (inr (inr false))))
 (some (inl (a,b,c))))
 (some (inr (inr (inr false)))))))) fun(a,b,c)=>
 some (inl (a,b,wrap .i64 (c+1))))
 (some (inr (inl ())))) ((a,(a.length:Int),(0:Int)))) fun _=>
 some (true)
def tb48:=insT 48 (mkE 48 true [] zEV zEL F48 [.tmp 2] 51 []) tb89
def ok48:zTb tb48:=okI ok89 noPl tv48 func48 rfl call48
abbrev zUW:SPat:=⟨[(0,.s),(1,.s)],[]⟩
def F293:zBy×zBy→Option Bool:=fun(a,b)=>
 cndO (decide ((b.length:Int)≤(a.length:Int)))
 (grdO (decide (0≤(b.length:Int))&&decide ((b.length:Int)≤(a.length:Int))) (some (decide (List.drop (0:Nat) (List.take (Int.toNat (b.length:Int)) a)=b))))
 (some false)
def tb293:=insT 293 (mkE 293 true [] zUW zBu F293 [.tmp 4] 18 []) tb48
def ok293:zTb tb293:=okI ok48 noPl noIv func293 rfl call293
abbrev to259:SPat:=⟨[(4,.s),(5,.b)],[]⟩
def F259:zBy×zBy→Option (zBy×Bool):=fun(a,b)=>
 zAA (F293 (a,b)) fun c=>
 cndO (!c)
 (some ((a,false)))
 (grdO (decide (0≤(b.length:Int))&&decide ((b.length:Int)≤(a.length:Int))&&decide ((a.length:Int)≤(a.length:Int))) (some ((List.drop (Int.toNat (b.length:Int)) (List.take (Int.toNat (a.length:Int)) a),true))))
def tb259:=insT 259 (mkE 259 true [] zUW to259 F259 [.tmp 4,.tmp 5] 15 []) tb293
def ok259:zTb tb259:=okI ok293 noPl noIv func259 rfl call259
def F204:zBy×zBy→Option (zBy×Bool):=fun(a,b)=>
 zAA (F259 (a,b)) fun(a,b)=>
 some ((a,b))
def tb204:=insT 204 (mkE 204 true [] zUW to259 F204 [.tmp 4,.tmp 5] 11 []) tb259
def ok204:zTb tb204:=okI ok259 noPl noIv func204 rfl call204
def F294:zBy×zBy→Option Bool:=fun(a,b)=>
 cndO (decide ((b.length:Int)≤(a.length:Int)))
 (grdO (decide (0≤wrap .i64 ((a.length:Int)-(b.length:Int)))&&decide (wrap .i64 ((a.length:Int)-(b.length:Int))≤(a.length:Int))&&decide ((a.length:Int)≤(a.length:Int))) (some (decide (List.drop (Int.toNat (wrap .i64 ((a.length:Int)-(b.length:Int)))) (List.take (Int.toNat (a.length:Int)) a)=b))))
 (some false)
def tb294:=insT 294 (mkE 294 true [] zUW zBu F294 [.tmp 4] 21 []) tb204
def ok294:zTb tb294:=okI ok204 noPl noIv func294 rfl call294
def F260:zBy×zBy→Option (zBy×Bool):=fun(a,b)=>
 zAA (F294 (a,b)) fun c=>
 cndO (!c)
 (some ((a,false)))
 (grdO (decide (0≤wrap .i64 ((a.length:Int)-(b.length:Int)))&&decide (wrap .i64 ((a.length:Int)-(b.length:Int))≤(a.length:Int))) (some ((List.drop (0:Nat) (List.take (Int.toNat (wrap .i64 ((a.length:Int)-(b.length:Int)))) a),true))))
def tb260:=insT 260 (mkE 260 true [] zUW to259 F260 [.tmp 4,.tmp 5] 18 []) tb294
def ok260:zTb tb260:=okI ok294 noPl noIv func260 rfl call260
end
end Go.Proofs.YtdpapeledldifaaGreat
