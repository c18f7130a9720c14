/- Part 29 of the proof of FnDeep; no condition. -/
import Derived.Test.YtdpapeledldifaaGreatX27
open Option renaming some -> U
open Decidable renaming decide -> aa
open Bool renaming true -> ad
open Bool renaming false -> ag
open Option renaming none -> aj
open Sum renaming inl -> an
open Sum renaming inr -> ao
open List renaming length -> au
open Int renaming toNat -> aH
open List renaming drop -> kZ
open List renaming take -> nY
set_option autoImplicit true
set_option relaxedAutoImplicit true
set_option linter.all false
namespace Go.Proofs.YtdpapeledldifaaGreat
noncomputable section
open Go Go.AM Go.TM
open Go.Proofs.Tryz
open Sum (inl inr)
open Go.IntKind (wrap)
set_option maxRecDepth 100000
set_option maxHeartbeats 4000000
def df :  Cls×Int->Option zBy:=fun((a,_,_,_,_,_,_),b)=>
 ai (gv (a,b)) fun(b,c,d,_)=>
 ah (aa (b=2))
 (ai (gv (a,d)) fun(_,a,_,_)=>
 U a)
 (U c)
def tb111:=ax 111 (az 111 ad [] pa Cf df [.tmp 4] 20 []) tb162
def Xs:zTb tb111:=aB Xr aL aU func111 rfl call111
abbrev Xt:SPat:=⟨[(0,.i .i64),(1,.ptr 100000 0),(2,.ptr 100001 0)],[.box 100000 (pl bX),.box 100001 (pl kc)]⟩
abbrev I1:SPat:=⟨[(4,.b)],[.box 100000 (pl bX),.box 100001 (pl kc)]⟩
def Xu:Nat->List Nat×bc:=fun id=>bif id==1 then([0,1,3,4],(.br 2 [1,0] [3,4] [] (.br 5 j_ [] [6] (.br 7 dw [] [] .fin .fin) .fin) .fin))else([],.fin)
def tL:Int×Cls×Int->Option (Bool×Cls×Int):=fun(a,(b,c,d,e,f,g,h),i)=>
 ai (df ((b,c,d,e,f,g,h),a)) fun a=>
 ak (ak (af (aa (b=b)&&(aa (c=c)&&(aa (d=d)&&(aa (e=e)&&(aa (f=f)&&(aa (g=g)&&(aa (h=h)&&ad))))))) (U ())) (ak (af (aa (i=i)) (U ())) (U ()))) (ai (df ((b,c,d,e,f,g,h),i)) fun j=>
 U ((aa (a=j),(b,c,d,e,f,g,h),i)))
def tb164:=ax 164 (az 164 ag [(1,[]),(2,[])] Xt I1 tL [.tmp 4] 12 [100000,100001]) tb111
def Xv:zTb tb164:=aB Xs Xu aU func164 rfl call164
abbrev I2:SPat:=⟨[(0,.sl (.int .i64)),(1,.fn 164 (pl wA))],[.box 100000 (pl bX),.box 100001 (pl kc)]⟩
abbrev Xw:SPat:=⟨[(4,.i .i64)],[.box 100000 (pl bX),.box 100001 (pl kc)]⟩
abbrev Xx:SPat:=⟨[(0,.sl (.int .i64)),(1,.fn 164 (pl wA)),(7,.i .i64),(8,.i .i64)],[.box 100000 (pl bX),.box 100001 (pl kc)]⟩
abbrev Xy:SPat:=⟨[],[.box 100000 (pl bX),.box 100001 (pl kc)]⟩
def Xz:Nat->Option SPat:=fun k=>bif k==2 then U Xx else bif k==2000000 then U Xy else aj
def Ct:List Int×Cls×Int->Option (Int×Cls×Int):=fun(a,(b,c,d,e,f,g,h),i)=>
 bindE (Y :=  Cls×Int) (aD (fun(a,b,c,(d,e,f,g,h,i,j),k)=>
 ah (aa (c<b))
 (af (aa (0<=c)) (aq a c.toNat fun l=>ai (tL (l,(d,e,f,g,h,i,j),k)) fun(d,(e,f,g,h,i,j,k),l)=>
 ah (d)
 (U (ao (ao (c,(e,f,g,h,i,j,k),l))))
 (U (an (a,b,wrap .i64 (c+1),(e,f,g,h,i,j,k),l)))))
 (U (ao (an ((d,e,f,g,h,i,j),k))))) ((a,(a.length:Int),(0:Int),(b,c,d,e,f,g,h),i))) fun((a,b,c,d,e,f,g),h)=>
 U (((-1:Int),(a,b,c,d,e,f,g),h))
def zTO:=ax 165235 (az 235 ag [(1,[0]),(1,[1])] I2 Xw Ct [.tmp 4] 19 [100000,100001]) tb164
def XA:zTb zTO:=aB Xv aL Xz func235 rfl call235
def ya:List Int×Cls×Int->Option (Bool×Cls×Int):=fun(a,(b,c,d,e,f,g,h),i)=>
 ai (Ct (a,(b,c,d,e,f,g,h),i)) fun(a,(b,c,d,e,f,g,h),i)=>
 U ((aa (0<=a),(b,c,d,e,f,g,h),i))
def zTP:=ax 165163 (az 163 ag [(1,[0]),(1,[1])] I2 I1 ya [.tmp 4] 9 [100000,100001]) zTO
def XB:zTb zTP:=aB XA aL aU func163 rfl call163
def pb:Cls->Option Bool:=fun(_,a,_,_,_,_,_)=>
 U (!aa (dA IntKind.i64 a (1:Int)=0))
def tb165:=ax 165 (az 165 ad [] iz eZ pb [.tmp 2] 7 []) zTP
def XC:zTb tb165:=aB XB aL aU func165 rfl call165
abbrev I3:SPat:=⟨[(1,.ptr 1 0),(31,.sl (.int .i64)),(32,.i .i64),(33,.i .i64)],iy⟩
def XD:Nat->Option SPat:=fun k=>bif k==4 then U I3 else bif k==1000003 then U qH else bif k==2000000 then U qH else bif k==2000001 then U I3 else aj
def XE:Nat->List Nat×bc:=fun id=>bif id==1 then([0,1,2],(.br 3 fW [] [4,5,6,7,8] (.br 9 gR [] [10,11,12,13,14,15,17,18,19] (.br 16 sL [17,18,19] [] (.br 20 HU [] [21,22] .fin .fin) .fin) .fin) .fin))else bif id==9 then([0,1,2,3,4,5,6,7],(.br 8 [3,2,1,0] [4,5,6,7] [] (.br 9 gR [] [] .fin .fin) .fin))else([],.fin)
def yb:Cls->Option Bool:=fun(a,b,c,d,e,f,g)=>bindE (Y:=Cls) (ai (kP ((a,b,c,d,e,f,g),c)) fun h=>ah (!h) (U (ao ag)) (ai (kP ((a,b,c,d,e,f,g),d)) fun h=>ah (!h) (U (ao ag)) (ai (df ((a,b,c,d,e,f,g),d)) fun h=>ak (ak (af (aa (a=a)&&(aa (b=b)&&(aa (c=c)&&(aa (d=d)&&(aa (e=e)&&(aa (f=f)&&(aa (g=g)&&ad))))))) (U ())) (ak (af (aa (c=c)) (U ())) (U ()))) (ai (df ((a,b,c,d,e,f,g),c)) fun i=>ah (aa (h=i)) (U (ao ag)) (U (an (a,b,c,d,e,f,g))))))) fun(a,b,c,d,e,f,g)=>bindE (Y:=Cls) (aD (fun(a,b,c,d,e,f,g,h,i,j)=>ah (aa (c<b)) (bindE (Y:=List Int×Int×Int×Cls) (af (aa (0<=c)) (aq a c.toNat fun k=>ai (kP ((d,e,f,g,h,i,j),k)) fun l=>ah (!l) (U (ao (ao (ao ag)))) (af (aa (0<=c)&&aa (c<=(h.length:Int))) (ai (ya (kZ (0:Nat) (nY c.toNat h),(d,e,f,g,h,i,j),k)) fun(d,(e,f,g,h,i,j,k),_)=>ah d (U (ao (ao (ao ag)))) (U (an (a,b,c,e,f,g,h,i,j,k))))))) fun(a,b,c,d,e,f,g,h,i,j)=>U (an (a,b,wrap .i64 (c+1),d,e,f,g,h,i,j))) (U (ao (an (d,e,f,g,h,i,j))))) ((e,(e.length:Int),(0:Int),a,b,c,d,e,f,g))) fun(a,b,c,d,e,f,g)=>ak (ak (af (aa (b=b)) (U ())) (ak (af (aa (dA IntKind.i64 b (4:Int)=dA IntKind.i64 b (4:Int))) (U ())) (ak (af (aa ((!aa (dA IntKind.i64 b (4:Int)=0)) = !aa (dA IntKind.i64 b (4:Int)=0))) (U ())) (U ())))) (ai (fJ (b,0,7)) fun h=>ah h (let a:=ai (pb (a,b,c,d,e,f,g)) fun h=>ah (!h) (U ad) (ah (!aa (dA IntKind.i64 b (4:Int)=0)) (ai (df ((a,b,c,d,e,f,g),d)) fun a=>U (aa (a=[(79:UInt8),98,106]))) (U ag));ah (!aa (dA IntKind.i64 b (2:Int)=0)) (ah (!!aa (dA IntKind.i64 b (4:Int)=0)) a (U ag)) a) (U ag))
def tb83:=ax 83 (az 83 ad [] iz eZ yb [.tmp 2] 84 []) tb165
def XF:zTb tb83:=aB XC XE XD func83 rfl call83
abbrev XG:SPat:=⟨[(0,.agg (pl cG)),(1,.ptr 100000 0),(2,.ptr 100001 0)],[.box 100000 (pl bX),.box 100001 (pl cG)]⟩
abbrev I4:SPat:=⟨[(4,.b)],[.box 100000 (pl bX),.box 100001 (pl cG)]⟩
def XH:Nat->List Nat×bc:=fun id=>bif id==1 then(fF,(.br 3 fW gu [] (.br 7 dw [] [8] (.br 9 gR [] [] .fin .fin) .fin) .fin))else([],.fin)
def tM:(Int×Int×Int)×Cls×Int×Int×Int->Option (Bool×Cls×Int×Int×Int):=fun((_,a,_),(b,c,d,e,f,g,h),i,j,k)=>
 ai (df ((b,c,d,e,f,g,h),a)) fun a=>
 ak (ak (af (aa (b=b)&&(aa (c=c)&&(aa (d=d)&&(aa (e=e)&&(aa (f=f)&&(aa (g=g)&&(aa (h=h)&&ad))))))) (U ())) (ak (af (aa (j=j)) (U ())) (U ()))) (ai (df ((b,c,d,e,f,g,h),j)) fun l=>
 U ((aa (a=l),(b,c,d,e,f,g,h),i,j,k)))
def tb167:=ax 167 (az 167 ag [(1,[]),(2,[])] XG I4 tM [.tmp 4] 14 [100000,100001]) tb83
def XI:zTb tb167:=aB XF XH aU func167 rfl call167
abbrev I5:SPat:=⟨[(0,.sl bu),(1,.fn 167 (pl wA))],[.box 100000 (pl bX),.box 100001 (pl cG)]⟩
abbrev XJ:SPat:=⟨[(4,.i .i64)],[.box 100000 (pl bX),.box 100001 (pl cG)]⟩
abbrev XK:SPat:=⟨[(0,.sl bu),(1,.fn 167 (pl wA)),(7,.i .i64),(8,.i .i64)],[.box 100000 (pl bX),.box 100001 (pl cG)]⟩
abbrev XL:SPat:=⟨[],[.box 100000 (pl bX),.box 100001 (pl cG)]⟩
def XM:Nat->Option SPat:=fun k=>bif k==2 then U XK else bif k==2000000 then U XL else aj
def Cu:List Fld×Cls×Int×Int×Int->Option (Int×Cls×Int×Int×Int):=fun(a,(b,c,d,e,f,g,h),i,j,k)=>
 bindE (Y :=  Cls×Int×Int×Int) (aD (fun(a,b,c,(d,e,f,g,h,i,j),k,l,m)=>
 ah (aa (c<b))
 (af (aa (0<=c)) (aq a c.toNat fun n=>ai (tM ((n.1,n.2.1,n.2.2),(d,e,f,g,h,i,j),k,l,m)) fun(d,(e,f,g,h,i,j,k),l,m,n)=>
 ah (d)
 (U (ao (ao (c,(e,f,g,h,i,j,k),l,m,n))))
 (U (an (a,b,wrap .i64 (c+1),(e,f,g,h,i,j,k),l,m,n)))))
 (U (ao (an ((d,e,f,g,h,i,j),k,l,m))))) ((a,(a.length:Int),(0:Int),(b,c,d,e,f,g,h),i,j,k))) fun((a,b,c,d,e,f,g),h,i,j)=>
 U (((-1:Int),(a,b,c,d,e,f,g),h,i,j))
def zTM:=ax 168236 (az 236 ag [(1,[0]),(1,[1])] I5 XJ Cu [.tmp 4] 19 [100000,100001]) tb167
def XN:zTb zTM:=aB XI aL XM func236 rfl call236
def yc:List Fld×Cls×Int×Int×Int->Option (Bool×Cls×Int×Int×Int):=fun(a,(b,c,d,e,f,g,h),i,j,k)=>
 ai (Cu (a,(b,c,d,e,f,g,h),i,j,k)) fun(a,(b,c,d,e,f,g,h),i,j,k)=>
 U ((aa (0<=a),(b,c,d,e,f,g,h),i,j,k))
def zTN:=ax 168166 (az 166 ag [(1,[0]),(1,[1])] I5 I4 yc [.tmp 4] 9 [100000,100001]) zTM
def XO:zTb zTN:=aB XN aL aU func166 rfl call166
abbrev XP:SPat:=⟨[(1,.i .i64),(2,.ptr 2 0),(5,.ptr 5 0)],[.box 2 (pl bX),.box 5 (pl cG)]⟩
def XQ:Nat->Option SPat:=fun k=>bif k==1000004 then U XP else aj
def yd :  Cls×Int->Option Bool:=fun((a,b,c,d,e,f,g),h)=>
 af (aa (0<=h)) (aq f h.toNat fun i=>bindE (Y:=Int×Cls×Int×Int×Int) (ai (nK (a,i.2.1)) fun j=>
 ah (!j)
 (U (ao ag))
 (ai (tG (a,i.2.2)) fun j=>
 ah (!j)
 (U (ao ag))
 (ai (fJ (i.1,0,3)) fun j=>
 ah (!j)
 (U (ao ag))
 (ai (pb (a,b,c,d,e,f,g)) fun j=>
 ah (j)
 (ah (!aa (i.1=1))
 (U (ao ag))
 (U (an (h,(a,b,c,d,e,f,g),i.1,i.2.1,i.2.2))))
 (U (an (h,(a,b,c,d,e,f,g),i.1,i.2.1,i.2.2))))))) fun(a,(b,c,d,e,f,g,h),i,j,k)=>
 af (aa (0<=a)&&aa (a<=(g.length:Int))) (ai (yc (kZ (0:Nat) (nY a.toNat g),(b,c,d,e,f,g,h),i,j,k)) fun(a,(_,_,_,_,_,_,_),_,_,_)=>
 U (!a)))
def tb84:=ax 84 (az 84 ad [] pa dx yd [.tmp 4] 47 []) zTN
def XR:zTb tb84:=aB XO aL XQ func84 rfl call84
abbrev XS:SPat:=⟨[(0,.agg (pl cB)),(1,.ptr 100000 0),(2,.ptr 100001 0),(3,.ptr 100002 0)],[.box 100000 (pl bX),.box 100001 (pl [.s]),.box 100002 (pl [.s])]⟩
abbrev XT:SPat:=⟨[(5,.b)],[.box 100000 (pl bX),.box 100001 (pl [.s]),.box 100002 (pl [.s])]⟩
def XU:Nat->List Nat×bc:=fun id=>bif id==1 then([0,1,2,4],(.br 3 fW [4] [5,6,7,8,9,11] (.br 10 fu [11] [12,13] (.br 14 eK [] [] .fin .fin) .fin) .fin))else([],.fin)
def tN :  Mth×Cls×zBy×zBy->Option (Bool×Cls×zBy×zBy):=fun((_,a,b,_,_,_,_,_),(c,d,e,f,g,h,i),j,k)=>
 ai (df ((c,d,e,f,g,h,i),a)) fun a=>
 ak (ak (af (aa (j=j)) (U ())) (U ())) (ah (aa (a=j))
 (ai (df ((c,d,e,f,g,h,i),b)) fun a=>
 ak (ak (af (aa (k=k)) (U ())) (U ())) (U ((aa (a=k),(c,d,e,f,g,h,i),j,k))))
 (U ((ag,(c,d,e,f,g,h,i),j,k))))
def tb169:=ax 169 (az 169 ag [(1,[]),(2,[]),(3,[])] XS XT tN [.tmp 5] 20 [100000,100001,100002]) tb84
def XV:zTb tb169:=aB XR XU aU func169 rfl call169
abbrev I6:SPat:=⟨[(0,.sl cv),(1,.fn 169 (pl [.ptr 100000 0,.ptr 100001 0,.ptr 100002 0]))],[.box 100000 (pl bX),.box 100001 (pl [.s]),.box 100002 (pl [.s])]⟩
abbrev XW:SPat:=⟨[(4,.i .i64)],[.box 100000 (pl bX),.box 100001 (pl [.s]),.box 100002 (pl [.s])]⟩
abbrev XX:SPat:=⟨[(0,.sl cv),(1,.fn 169 (pl [.ptr 100000 0,.ptr 100001 0,.ptr 100002 0])),(7,.i .i64),(8,.i .i64)],[.box 100000 (pl bX),.box 100001 (pl [.s]),.box 100002 (pl [.s])]⟩
abbrev XY:SPat:=⟨[],[.box 100000 (pl bX),.box 100001 (pl [.s]),.box 100002 (pl [.s])]⟩
def XZ:Nat->Option SPat:=fun k=>bif k==2 then U XX else bif k==2000000 then U XY else aj
def Cv:List Mth×Cls×zBy×zBy->Option (Int×Cls×zBy×zBy):=fun(a,(b,c,d,e,f,g,h),i,j)=>
 bindE (Y :=  Cls×zBy×zBy) (aD (fun(a,b,c,(d,e,f,g,h,i,j),k,l)=>
 ah (aa (c<b))
 (af (aa (0<=c)) (aq a c.toNat fun m=>ai (tN ((m.1,m.2.1,m.2.2.1,m.2.2.2.1,m.2.2.2.2.1,m.2.2.2.2.2.1,m.2.2.2.2.2.2.1,m.2.2.2.2.2.2.2),(d,e,f,g,h,i,j),k,l)) fun(d,(e,f,g,h,i,j,k),l,m)=>
 ah (d)
 (U (ao (ao (c,(e,f,g,h,i,j,k),l,m))))
 (U (an (a,b,wrap .i64 (c+1),(e,f,g,h,i,j,k),l,m)))))
 (U (ao (an ((d,e,f,g,h,i,j),k,l))))) ((a,(a.length:Int),(0:Int),(b,c,d,e,f,g,h),i,j))) fun((a,b,c,d,e,f,g),h,i)=>
 U (((-1:Int),(a,b,c,d,e,f,g),h,i))
def zTK:=ax 170237 (az 237 ag [(1,[0]),(1,[1]),(1,[2])] I6 XW Cv [.tmp 4] 19 [100000,100001,100002]) tb169
def X0:zTb zTK:=aB XV aL XZ func237 rfl call237
abbrev X1:SPat:=⟨[(4,.b)],[.box 100000 (pl bX),.box 100001 (pl [.s]),.box 100002 (pl [.s])]⟩
def ye:List Mth×Cls×zBy×zBy->Option (Bool×Cls×zBy×zBy):=fun(a,(b,c,d,e,f,g,h),i,j)=>
 ai (Cv (a,(b,c,d,e,f,g,h),i,j)) fun(a,(b,c,d,e,f,g,h),i,j)=>
 U ((aa (0<=a),(b,c,d,e,f,g,h),i,j))
def zTL:=ax 170168 (az 168 ag [(1,[0]),(1,[1]),(1,[2])] I6 X1 ye [.tmp 4] 9 [100000,100001,100002]) zTK
def X2:zTb zTL:=aB X0 aL aU func168 rfl call168
abbrev X3:SPat:=⟨[(1,.i .i64),(2,.ptr 2 0),(5,.ptr 5 0)],[.box 2 (pl bX),.box 5 (pl cB)]⟩
abbrev X4:SPat:=⟨[(1,.i .i64),(2,.ptr 2 0),(5,.ptr 5 0),(6,.ptr 6 0),(7,.ptr 7 0),(41,.b)],[.box 2 (pl bX),.box 5 (pl cB),.box 6 (pl [.s]),.box 7 (pl [.s])]⟩
abbrev X5:SPat:=⟨[(1,.i .i64),(2,.ptr 2 0),(5,.ptr 5 0),(6,.ptr 6 0),(7,.ptr 7 0),(56,.b)],[.box 2 (pl bX),.box 5 (pl cB),.box 6 (pl [.s]),.box 7 (pl [.s])]⟩
abbrev X6:SPat:=⟨[(1,.i .i64),(2,.ptr 2 0),(6,.ptr 6 0),(7,.ptr 7 0)],[.box 2 (pl bX),.box 6 (pl [.s]),.box 7 (pl [.s])]⟩
def X7:Nat->Option SPat:=fun k=>bif k==1000004 then U X3 else bif k==1000006 then U X4 else bif k==1000008 then U X5 else bif k==2000000 then U X6 else aj
def X8:Nat->List Nat×bc:=fun id=>bif id==4 then(fF,(.br 3 fW gu [] (.br 7 dw [] [] (.br 8 [] fF [] (.br 9 [] fF [] (.br 10 fu [] [] (.br 11 fw [] [] .fin .fin) .fin) .fin) (.br 9 [] fF [] (.br 8 [] fF [] (.br 10 fu [] [] (.br 11 fw [] [] .fin .fin) .fin) .fin) .fin)) (.br 8 [] fF [] (.br 7 dw [] [] (.br 9 [] fF [] (.br 10 fu [] [] (.br 11 fw [] [] .fin .fin) .fin) .fin) (.br 9 [] fF [] (.br 7 dw [] [] (.br 10 fu [] [] (.br 11 fw [] [] .fin .fin) .fin) .fin) .fin)) (.br 9 [] fF [] (.br 7 dw [] [] (.br 8 [] fF [] (.br 10 fu [] [] (.br 11 fw [] [] .fin .fin) .fin) .fin) (.br 8 [] fF [] (.br 7 dw [] [] (.br 10 fu [] [] (.br 11 fw [] [] .fin .fin) .fin) .fin) .fin)) .fin))) (.br 8 [] fF [] (.br 3 fW gu [] (.br 7 dw [] [] (.br 9 [] fF [] (.br 10 fu [] [] (.br 11 fw [] [] .fin .fin) .fin) .fin) (.br 9 [] fF [] (.br 7 dw [] [] (.br 10 fu [] [] (.br 11 fw [] [] .fin .fin) .fin) .fin) .fin)) (.br 9 [] fF [] (.br 3 fW gu [] (.br 7 dw [] [] (.br 10 fu [] [] (.br 11 fw [] [] .fin .fin) .fin) .fin) .fin) .fin)) (.br 9 [] fF [] (.br 3 fW gu [] (.br 7 dw [] [] (.br 8 [] fF [] (.br 10 fu [] [] (.br 11 fw [] [] .fin .fin) .fin) .fin) (.br 8 [] fF [] (.br 7 dw [] [] (.br 10 fu [] [] (.br 11 fw [] [] .fin .fin) .fin) .fin) .fin)) (.br 8 [] fF [] (.br 3 fW gu [] (.br 7 dw [] [] (.br 10 fu [] [] (.br 11 fw [] [] .fin .fin) .fin) .fin) .fin) .fin)) .fin))))else([],.fin)
def yf :  Cls×Int->Option Bool:=fun((a,b,c,d,e,f,g),h)=>af (aa (0<=h)) (aq g h.toNat fun i=>bindE (Y:=Int×Cls×Mth) (ai (nK (a,i.2.1)) fun j=>ah (!j) (U (ao ag)) (ai (tH (a,i.2.2.1)) fun j=>ah (!j) (U (ao ag)) (ai (fJ (i.1,0,15)) fun j=>ah (!j) (U (ao ag)) (U (an (h,(a,b,c,d,e,f,g),i.1,i.2.1,i.2.2.1,i.2.2.2.1,i.2.2.2.2.1,i.2.2.2.2.2.1,i.2.2.2.2.2.2.1,i.2.2.2.2.2.2.2)))))) fun(a,(b,c,d,e,f,g,h),i,j,k,l,m,n,o,p)=>let a:=fun(q:zBy) (r:zBy)=>bindE (Y:=Int×Cls×zBy×zBy) (bindE (Y:=Int×Bool×Cls×Mth×zBy×zBy) (ai (kf i) fun s=>ah s (ah (!aa (i=8)) (U (an (a,ad,(b,c,d,e,f,g,h),(i,j,k,l,m,n,o,p),q,r))) (U (an (a,aa (dA IntKind.i64 c (4:Int)=0),(b,c,d,e,f,g,h),(i,j,k,l,m,n,o,p),q,r)))) (U (an (a,ag,(b,c,d,e,f,g,h),(i,j,k,l,m,n,o,p),q,r)))) fun(a,b,(c,d,e,f,g,h,i),(j,k,l,m,n,o,p,q),r,s)=>ah b (U (ao ag)) (bindE (Y:=Int×Bool×Cls×Mth×zBy×zBy) (ai (kf j) fun b=>ah (!b) (ai (pb (c,d,e,f,g,h,i)) fun b=>ah b (U (an (a,!aa (j=1),(c,d,e,f,g,h,i),(j,k,l,m,n,o,p,q),r,s))) (U (an (a,ag,(c,d,e,f,g,h,i),(j,k,l,m,n,o,p,q),r,s)))) (U (an (a,ag,(c,d,e,f,g,h,i),(j,k,l,m,n,o,p,q),r,s)))) fun(a,b,(c,d,e,f,g,h,i),(j,_,_,_,_,_,_,_),k,l)=>ah b (U (ao ag)) (ah (aa (k=[(98:UInt8),101,103,105,110])) (ah (!aa (j=1)) (U (ao ag)) (ah (!aa (l=[(40:UInt8),41,86])) (U (ao ag)) (U (an (a,(c,d,e,f,g,h,i),k,l))))) (U (an (a,(c,d,e,f,g,h,i),k,l)))))) fun(a,(b,c,d,e,f,g,h),i,j)=>af (aa (0<=a)&&aa (a<=(h.length:Int))) (ai (ye (kZ (0:Nat) (nY a.toNat h),(b,c,d,e,f,g,h),i,j)) fun(a,(_,_,_,_,_,_,_),_,_)=>U (!a));let i:=ak (af (aa (b=b)&&(aa (c=c)&&(aa (d=d)&&(aa (e=e)&&(aa (f=f)&&(aa (g=g)&&(aa (h=h)&&ad))))))) (U ())) (ak (af (aa (k=k)) (U ())) (U ()));let l:=ak (af (aa (b=b)&&(aa (c=c)&&(aa (d=d)&&(aa (e=e)&&(aa (f=f)&&(aa (g=g)&&(aa (h=h)&&ad))))))) (U ())) (ak (af (aa (j=j)) (U ())) i);cm (ai (df ((b,c,d,e,f,g,h),j)) fun j=>ak i (cm (ai (df ((b,c,d,e,f,g,h),k)) fun b=>cm (ak l (ak l (a j b))) (ak l (ak l (a j b)))) (cm (ak l (cm (ai (df ((b,c,d,e,f,g,h),k)) fun b=>ak l (a j b)) (ak l (ai (df ((b,c,d,e,f,g,h),k)) fun b=>a j b)))) (ak l (cm (ai (df ((b,c,d,e,f,g,h),k)) fun b=>ak l (a j b)) (ak l (ai (df ((b,c,d,e,f,g,h),k)) fun b=>a j b))))))) (let a:=ak l (cm (ai (df ((b,c,d,e,f,g,h),j)) fun j=>ak i (cm (ai (df ((b,c,d,e,f,g,h),k)) fun b=>ak l (a j b)) (ak l (ai (df ((b,c,d,e,f,g,h),k)) fun b=>a j b)))) (ak l (ai (df ((b,c,d,e,f,g,h),j)) fun j=>ak i (ai (df ((b,c,d,e,f,g,h),k)) fun b=>a j b))));cm a a))
def tb85:=ax 85 (az 85 ad [] pa dx yf [.tmp 4] 89 []) zTL
def X9:zTb tb85:=aB X2 X8 X7 func85 rfl call85
abbrev X_:SPat:=⟨[(0,.i .i64),(6,.b)],[]⟩
def Ya:Nat->Option SPat:=fun k=>bif k==1000004 then U X_ else aj
def qL:Int->Option Int:=fun a=>
 ai (fJ (a,3,6)) fun b=>
 ah (b)
 (U ((1:Int)))
 (bindE (ah (aa (a=1))
 (U (an (a,ad)))
 (ai (fJ (a,14,29)) fun b=>
 U (an (a,b)))) fun(a,b)=>
 ah (b)
 (U ((2:Int)))
 (ai (fJ (a,0,34)) fun a=>
 ah (a)
 (U ((0:Int)))
 (U ((-1:Int)))))
def tb90:=ax 90 (az 90 ad [] gU kM qL [.tmp 2] 16 []) tb85
def Yb:zTb tb90:=aB X9 aL Ya func90 rfl call90
abbrev Yc:SPat:=⟨[(0,.s),(4,.own bu ad),(5,.i .i64),(6,.ptr 6 0),(7,.i .i64),(45,.sl .byte),(46,.i .i64),(47,.i .i64)],[.box 6 (pl cG)]⟩
abbrev Cw:SPat:=⟨[(0,.s),(4,.own bu ad),(5,.i .i64),(6,.ptr 6 0),(7,.i .i64)],[.box 6 (pl cG)]⟩
abbrev Yd:SPat:=⟨[(0,.s),(4,.own bu ad),(5,.i .i64),(6,.ptr 6 0),(7,.i .i64),(66,.b)],[.box 6 (pl cG)]⟩
def Ye:Nat->Option SPat:=fun k=>bif k==5 then U Cg else bif k==11 then U Yc else bif k==1000010 then U Cw else bif k==1000016 then U Yd else bif k==1000017 then U Cw else bif k==2000000 then U IA else bif k==2000001 then U Cg else bif k==2000002 then U Cw else aj
def nL:zBy->Option (List Fld×Bool):=fun a=>
 ai (fJ ((a.length:Int),1,120)) fun b=>
 ah (!b)
 (U (([],ag)))
 (bindE (Y:=List Fld) (aD (fun(a,b,c)=>
 ah (aa (c<(a.length:Int)))
 (bindE (Y:=zBy×List Fld×Int) (af (aa (0<=c)) (aq a c.toNat fun d=>ai (qL (wrap .i64 (d.toNat:Int))) fun e=>
 bindE (Y:=zBy×List Fld×Int×Int×Int×Int×Int) (ah (aa (e<0))
 (U (ao (ao (ao (ao ([],ag))))))
 (ah (aa (wrap .i64 ((a.length:Int)-c)<=e))
 (U (ao (ao (ao (ao ([],ag))))))
 (U (an (a,b,c,e,c,wrap .i64 (d.toNat:Int),0))))) fun(a,b,c,d,e,f,g)=>
 af (aa (0<=wrap .i64 (c+1))&&aa (wrap .i64 (c+1)<=wrap .i64 (wrap .i64 (c+1)+d))&&aa (wrap .i64 (wrap .i64 (c+1)+d)<=(a.length:Int))) (bindE (Y:=zBy×List Fld×Int×Int×Int×Int×Int) (aD (fun(a,b,c,d,e,f,g,h,i,j)=>
 ah (aa (g<f))
 (af (aa (0<=g)) (aq e g.toNat fun k=>U (an (a,b,c,d,e,f,wrap .i64 (g+1),h,i,wrap .i64 (wrap .i64 ((256:Int)*j)+wrap .i64 (k.toNat:Int))))))
 (U (ao (an (a,b,c,d,h,i,j))))) ((a,b,c,d,kZ (aH (wrap .i64 (c+1))) (nY (aH (wrap .i64 (wrap .i64 (c+1)+d))) a),(↑(au (kZ (aH (wrap .i64 (c+1))) (nY (aH (wrap .i64 (wrap .i64 (c+1)+d))) a))):Int),(0:Int),e,f,g))) fun(a,b,c,d,e,f,g)=>
 bindE (Y:=zBy×List Fld×Int×Int×Int×Int×Int) (bindE (Y:=zBy×List Fld×Int×Int×Bool×Int×Int×Int) (ah (aa (f=1))
 (U (an (a,b,c,d,aa (32767<g),e,f,g)))
 (U (an (a,b,c,d,ag,e,f,g)))) fun(a,b,c,d,e,f,g,h)=>
 ah (e)
 (U (an (a,b,c,d,f,g,wrap .i64 (h-65536))))
 (U (an (a,b,c,d,f,g,h)))) fun(a,b,c,d,e,f,g)=>
 af (aa (b.length+1<=9223372036854775807)&&aa ((b.length+1)*24<=140737488355328)) (U (an (a,b++[(e,f,g)],wrap .i64 (c+wrap .i64 ((1:Int)+d)))))))) fun(a,b,c)=>
 U (an (a,b,c)))
 (U (ao (an b)))) ((a,[],(0:Int)))) fun a=>
 U ((a,ad)))
def tb31:=ax 31 (az 31 ad [] fH Iz nL [.tmp 2,.tmp 3] 80 []) tb90
def Yf:zTb tb31:=aB Yb aL Ye func31 rfl call31
abbrev Yg:SPat:=⟨[(0,.i .i64),(3,.b)],[]⟩
def Yh:Nat->Option SPat:=fun k=>bif k==1000002 then U Yg else aj
def yg:Int->Option Int:=fun a=>
 bindE (ah (aa (a=19))
 (U (an (a,ad)))
 (ah (aa (a=28))
 (U (an (a,ad)))
 (U (an (a,aa (a=29)))))) fun(a,b)=>
 ah (b)
 (U ((2:Int)))
 (ai (fJ (a,20,23)) fun b=>
 ah (b)
 (U ((4:Int)))
 (ai (fJ (a,24,26)) fun b=>
 ah (b)
 (U ((5:Int)))
 (ah (aa (a=27))
 (U ((6:Int)))
 (U ((0:Int))))))
def tb171:=ax 171 (az 171 ad [] gU kM yg [.tmp 2] 23 []) tb31
def Yi:zTb tb171:=aB Yf aL Yh func171 rfl call171
def pc:Int->Option Bool:=fun a=>
 ai (fJ (a,14,18)) fun a=>
 U (a)
def tb172:=ax 172 (az 172 ad [] gU eZ pc [.tmp 2] 5 []) tb171
def Yj:zTb tb172:=aB Yi aL aU func172 rfl call172
abbrev Yk:SPat:=⟨[(0,.agg (pl cG)),(1,.ptr 100000 0)],[.box 100000 (pl kc)]⟩
abbrev Yl:SPat:=⟨[(3,.b)],[.box 100000 (pl kc)]⟩
def Cx:(Int×Int×Int)×Int->Option (Bool×Int):=fun((a,_,_),b)=>
 U ((aa (a=b),b))
def tb241:=ax 241 (az 241 ag [(1,[])] Yk Yl Cx [.tmp 3] 8 [100000]) tb172
def Ym:zTb tb241:=aB Yj aL aU func241 rfl call241
abbrev Yn:SPat:=⟨[(0,.sl bu),(1,.fn 241 (pl [.ptr 100000 0]))],[.box 100000 (pl kc)]⟩
abbrev Yo:SPat:=⟨[(4,.i .i64)],[.box 100000 (pl kc)]⟩
abbrev Yp:SPat:=⟨[(0,.sl bu),(1,.fn 241 (pl [.ptr 100000 0])),(7,.i .i64),(8,.i .i64)],[.box 100000 (pl kc)]⟩
abbrev Yq:SPat:=⟨[],[.box 100000 (pl kc)]⟩
def Yr:Nat->Option SPat:=fun k=>bif k==2 then U Yp else bif k==2000000 then U Yq else aj
def yh:List Fld×Int->Option (Int×Int):=fun(a,b)=>
 bindE (aD (fun(a,b,c,d)=>
 ah (aa (c<b))
 (af (aa (0<=c)) (aq a c.toNat fun e=>ai (Cx ((e.1,e.2.1,e.2.2),d)) fun(d,e)=>
 ah (d)
 (U (ao (ao (c,e))))
 (U (an (a,b,wrap .i64 (c+1),e)))))
 (U (ao (an d)))) ((a,(a.length:Int),(0:Int),b))) fun a=>
 U (((-1:Int),a))
def zTI:=ax 242240 (az 240 ag [(1,[0])] Yn Yo yh [.tmp 4] 19 [100000]) tb241
def Ys:zTb zTI:=aB Ym aL Yr func240 rfl call240
def my:List Fld×Int->Option Int:=fun(a,b)=>
 ai (yh (a,b)) fun(a,_)=>
 U (a)
def tb173:=ax 173 (az 173 ad [] IB mm my [.tmp 4] 8 []) zTI
def Yt:zTb tb173:=aB Ys aL aU func173 rfl call173
abbrev Yu:SPat:=⟨[(0,.agg (pl [.i .i64,.i .i64])),(1,.ptr 100000 0)],oT⟩
abbrev Yv:SPat:=⟨[(3,.b)],oT⟩
def tO:(Int×Int)×Cls->Option (Bool×Cls):=fun((a,b),c,d,e,f,g,h,i)=>
 ah (aa (a=3))
 (ai (kP ((c,d,e,f,g,h,i),b)) fun j=>
 ah (!j)
 (U ((ad,c,d,e,f,g,h,i)))
 (ah (!aa (a=3))
 (U ((!aa (b=0),c,d,e,f,g,h,i)))
 (U ((ag,c,d,e,f,g,h,i)))))
 (ah (!aa (a=3))
 (U ((!aa (b=0),c,d,e,f,g,h,i)))
 (U ((ag,c,d,e,f,g,h,i))))
def tb243:=ax 243 (az 243 ag [(1,[])] Yu Yv tO [.tmp 3] 24 [100000]) tb173
def Yw:zTb tb243:=aB Yt aL aU func243 rfl call243
abbrev I7:SPat:=⟨[(0,.sl dc),(1,.fn 243 (pl [.ptr 100000 0]))],oT⟩
abbrev Yx:SPat:=⟨[(4,.i .i64)],oT⟩
abbrev Yy:SPat:=⟨[(0,.sl dc),(1,.fn 243 (pl [.ptr 100000 0])),(7,.i .i64),(8,.i .i64)],oT⟩
abbrev Yz:SPat:=⟨[],oT⟩
def YA:Nat->Option SPat:=fun k=>bif k==2 then U Yy else bif k==2000000 then U Yz else aj
def Cy:List Knd×Cls->Option (Int×Cls):=fun(a,b,c,d,e,f,g,h)=>
 bindE (Y:=Cls) (aD (fun(a,b,c,d,e,f,g,h,i,j)=>
 ah (aa (c<b))
 (af (aa (0<=c)) (aq a c.toNat fun k=>ai (tO ((k.1,k.2),d,e,f,g,h,i,j)) fun(d,e,f,g,h,i,j,k)=>
 ah (d)
 (U (ao (ao (c,e,f,g,h,i,j,k))))
 (U (an (a,b,wrap .i64 (c+1),e,f,g,h,i,j,k)))))
 (U (ao (an (d,e,f,g,h,i,j))))) ((a,(a.length:Int),(0:Int),b,c,d,e,f,g,h))) fun(a,b,c,d,e,f,g)=>
 U (((-1:Int),a,b,c,d,e,f,g))
def zTG:=ax 244290 (az 290 ag [(1,[0])] I7 Yx Cy [.tmp 4] 19 [100000]) tb243
def YB:zTb zTG:=aB Yw aL YA func290 rfl call290
abbrev YC:SPat:=⟨[(4,.b)],oT⟩
def Cz:List Knd×Cls->Option (Bool×Cls):=fun(a,b,c,d,e,f,g,h)=>
 ai (Cy (a,b,c,d,e,f,g,h)) fun(a,b,c,d,e,f,g,h)=>
 U ((aa (0<=a),b,c,d,e,f,g,h))
def zTH:=ax 244242 (az 242 ag [(1,[0])] I7 YC Cz [.tmp 4] 9 [100000]) zTG
def YD:zTb zTH:=aB YB aL aU func242 rfl call242
def pd :  Cls×List Knd->Option Bool:=fun((a,b,c,d,e,f,g),h)=>
 ai (Cz (h,a,b,c,d,e,f,g)) fun(a,_,_,_,_,_,_,_)=>
 U (!a)
def tb174:=ax 174 (az 174 ad [] ID dx pd [.tmp 4] 9 []) zTH
def YE:zTb tb174:=aB YD aL aU func174 rfl call174
abbrev I8:SPat:=⟨[(2,.ptr 2 0),(3,.ptr 3 0),(5,.ar 5),(56,.ar 5),(57,.i .i64),(58,.i .i64)],[.box 2 (pl bX),.box 3 (pl cB),.arr 5 bu ad]⟩
abbrev I9:SPat:=⟨[(2,.ptr 2 0),(3,.ptr 3 0),(5,.own bu ad),(100,.sl gO),(101,.i .i64),(102,.i .i64)],kb⟩
abbrev I_:SPat:=⟨[(2,.ptr 2 0),(3,.ptr 3 0),(5,.own bu ad),(16,.i .i64),(154,.sl de),(155,.i .i64),(156,.i .i64)],kb⟩
abbrev YF:SPat:=⟨[(2,.ptr 2 0),(3,.ptr 3 0),(5,.own bu ad),(6,.b),(10,.i .i64)],kb⟩
def YG:Nat->Option SPat:=fun k=>bif k==9 then U I8 else bif k==18 then U I9 else bif k==25 then U I_ else bif k==1000006 then U YF else bif k==1000008 then U qG else bif k==2000000 then U qG else bif k==2000002 then U I8 else bif k==2000003 then U qG else bif k==2000004 then U I9 else bif k==2000005 then U dD else bif k==2000006 then U I_ else aj
def tP :  Cls×Mth->Option Bool:=fun((a,b,c,d,e,f,g),h,i,j,k,l,m,n,o)=>ai (nL m) fun(p,q)=>ai (df ((a,b,c,d,e,f,g),j)) fun r=>ai (qK r) fun(r,_,_)=>bindE (Y:=List Fld×Bool×Int×Cls×Mth) (ah (aa (dA IntKind.i64 h (1:Int)=0)) (U (an (p,q,wrap .i64 ((r.length:Int)+1),(a,b,c,d,e,f,g),h,i,j,k,l,m,n,o))) (U (an (p,q,(r.length:Int),(a,b,c,d,e,f,g),h,i,j,k,l,m,n,o)))) fun(a,b,c,(d,e,f,g,h,i,j),k,l,m,n,o,p,q,r)=>bindE (Y:=List Fld×Cls×Mth) (ah (!b) (U (ao ag)) (ah (aa (8<n)) (U (ao ag)) (ai (fJ (o,c,8)) fun b=>ah (!b) (U (ao ag)) (U (an (a,(d,e,f,g,h,i,j),k,l,m,n,o,p,q,r)))))) fun(a,(b,c,d,e,f,g,h),i,j,k,l,m,n,o,p)=>bindE (Y:=List Fld×Cls×Mth) (aD (fun(a,b,(c,d,e,f,g,h,i),(j,k,l,m,n,o,p,q),r)=>ah (aa (b<a)) (af (aa (0<=b)&&aa (b<(r.length:Int))) (aq r b.toNat fun s=>ai (yg s.2.1) fun t=>bindE (Y:=Int×Int×Cls×Mth×List Fld) (ai (fJ (s.2.1,3,6)) fun u=>let a:=ai (pc s.2.1) fun u=>ah u (ai (my (r,s.2.2)) fun u=>ah (aa (u<0)) (U (ao (ao (ao ag)))) (ah (!aa (t=0)) (ai (gv (c,s.2.2)) fun(s,_,_,_)=>ah (!aa (s=t)) (U (ao (ao (ao ag)))) (U (an (a,b,(c,d,e,f,g,h,i),(j,k,l,m,n,o,p,q),r)))) (U (an (a,b,(c,d,e,f,g,h,i),(j,k,l,m,n,o,p,q),r))))) (ah (!aa (t=0)) (ai (gv (c,s.2.2)) fun(s,_,_,_)=>ah (!aa (s=t)) (U (ao (ao (ao ag)))) (U (an (a,b,(c,d,e,f,g,h,i),(j,k,l,m,n,o,p,q),r)))) (U (an (a,b,(c,d,e,f,g,h,i),(j,k,l,m,n,o,p,q),r))));ah u (ah (aa (n<=s.2.2)) (U (ao (ao (ao ag)))) a) a) fun(a,b,(c,d,e,f,g,h,i),(j,k,l,m,n,o,p,q),r)=>U (an (a,wrap .i64 (b+1),(c,d,e,f,g,h,i),(j,k,l,m,n,o,p,q),r)))) (U (ao (an (r,(c,d,e,f,g,h,i),j,k,l,m,n,o,p,q))))) (((a.length:Int),(0:Int),(b,c,d,e,f,g,h),(i,j,k,l,m,n,o,p),a))) fun(a,(b,c,d,e,f,g,h),i,j,k,l,m,n,o,p)=>bindE (Y:=List Fld×Cls×Mth) (aD (fun(a,b,c,d,(e,f,g,h,i,j,k),l,m,n,o,p,q,r,s)=>ah (aa (d<c)) (bindE (Y:=List Fld×List Trp×Int×Int×Cls×Mth) (af (aa (0<=d)) (aq b d.toNat fun t=>ah (aa (t.2.1<=t.1)) (U (ao (ao (ao ag)))) (ai (my (a,t.1)) fun u=>ah (aa (u<0)) (U (ao (ao (ao ag)))) (ai (my (a,t.2.2.1)) fun u=>ah (aa (u<0)) (U (ao (ao (ao ag)))) (ai (my (a,t.2.1)) fun u=>let a:=ah (!aa (t.2.2.2=0)) (ai (kP ((e,f,g,h,i,j,k),t.2.2.2)) fun t=>ah (!t) (U (ao (ao (ao ag)))) (U (an (a,b,c,d,(e,f,g,h,i,j,k),l,m,n,o,p,q,r,s)))) (U (an (a,b,c,d,(e,f,g,h,i,j,k),l,m,n,o,p,q,r,s)));ah (aa (u<0)) (ah (!aa (t.2.1=(q.length:Int))) (U (ao (ao (ao ag)))) a) a))))) fun(a,b,c,d,(e,f,g,h,i,j,k),l,m,n,o,p,q,r,s)=>U (an (a,b,c,wrap .i64 (d+1),(e,f,g,h,i,j,k),l,m,n,o,p,q,r,s))) (U (ao (an (a,(e,f,g,h,i,j,k),l,m,n,o,p,q,r,s))))) ((a,o,(o.length:Int),(0:Int),(b,c,d,e,f,g,h),i,j,k,l,m,n,o,p))) fun(a,(b,c,d,e,f,g,h),i,j,k,l,m,n,o,p)=>bindE (aD (fun(a,b,c,d,e,(f,g,h,i,j,k,l),m,n,o,p,q,r,s,t)=>ah (aa (e<d)) (bindE (Y:=List Fld×Int×List Frm×Int×Int×Cls×Mth) (af (aa (0<=e)) (aq c e.toNat fun u=>ai (my (a,u.1)) fun v=>ah (aa (v<0)) (U (ao (ao (ao ag)))) (ah (aa (u.1<=b)) (U (ao (ao (ao ag)))) (ah (!aa ((u.2.1.length:Int)=q)) (U (ao (ao (ao ag)))) (ah (aa (p<(u.2.2.length:Int))) (U (ao (ao (ao ag)))) (ai (pd ((f,g,h,i,j,k,l),u.2.1)) fun b=>ah (!b) (U (ao (ao (ao ag)))) (ai (pd ((f,g,h,i,j,k,l),u.2.2)) fun b=>ah (!b) (U (ao (ao (ao ag)))) (U (an (a,u.1,c,d,e,(f,g,h,i,j,k,l),m,n,o,p,q,r,s,t)))))))))) fun(a,b,c,d,e,(f,g,h,i,j,k,l),m,n,o,p,q,r,s,t)=>U (an (a,b,c,d,wrap .i64 (e+1),(f,g,h,i,j,k,l),m,n,o,p,q,r,s,t))) (U (ao (an ())))) ((a,(-1:Int),p,(p.length:Int),(0:Int),(b,c,d,e,f,g,h),i,j,k,l,m,n,o,p))) fun _=>U (ad)
def tb87:=ax 87 (az 87 ad [] tf dx tP [.tmp 4] 204 []) tb174
def YH:zTb tb87:=aB YE aL YG func87 rfl call87
abbrev YI:SPat:=⟨[(1,.ptr 1 0),(22,.i .i64),(23,.i .i64)],iy⟩
abbrev YJ:SPat:=⟨[(1,.ptr 1 0),(33,.i .i64),(34,.i .i64)],iy⟩
abbrev Ja:SPat:=⟨[(1,.ptr 1 0),(43,.sl cv),(44,.i .i64),(45,.i .i64)],iy⟩
def YK:Nat->Option SPat:=fun k=>bif k==8 then U YI else bif k==14 then U YJ else bif k==20 then U Ja else bif k==2000001 then U qH else bif k==2000003 then U qH else bif k==2000005 then U dD else bif k==2000006 then U Ja else aj
def qM:Cls->Option Int:=fun(a,b,c,d,e,f,g)=>
 ai (xS (a,b,c,d,e,f,g)) fun h=>
 ah (aa (h=[]))
 (U ((1:Int)))
 (ai (x_ a) fun h=>
 ah (!aa (h=0))
 (U ((2:Int)))
 (ai (yb (a,b,c,d,e,f,g)) fun h=>
 ah (!h)
 (U ((3:Int)))
 (bindE (Y:=Cls) (aD (fun(a,b,c,d,e,f,g,h,i)=>
 ah (aa (b<a))
 (ai (yd ((c,d,e,f,g,h,i),b)) fun j=>
 ah (!j)
 (U (ao (ao (4:Int))))
 (U (an (a,wrap .i64 (b+1),c,d,e,f,g,h,i))))
 (U (ao (an (c,d,e,f,g,h,i))))) (((f.length:Int),(0:Int),a,b,c,d,e,f,g))) fun(a,b,c,d,e,f,g)=>
 bindE (Y:=Cls) (aD (fun(a,b,c,d,e,f,g,h,i)=>
 ah (aa (b<a))
 (ai (yf ((c,d,e,f,g,h,i),b)) fun j=>
 ah (!j)
 (U (ao (ao (5:Int))))
 (U (an (a,wrap .i64 (b+1),c,d,e,f,g,h,i))))
 (U (ao (an (c,d,e,f,g,h,i))))) (((g.length:Int),(0:Int),a,b,c,d,e,f,g))) fun(a,b,c,d,e,f,g)=>
 bindE (aD (fun(a,b,c,d,e,f,g,h,i,j)=>
 ah (aa (c<b))
 (bindE (Y:=List Mth×Int×Int×Cls) (af (aa (0<=c)) (aq a c.toNat fun k=>ai (kf k.1) fun l=>
 ah (!l)
 (ai (tP ((d,e,f,g,h,i,j),k.1,k.2.1,k.2.2.1,k.2.2.2.1,k.2.2.2.2.1,k.2.2.2.2.2.1,k.2.2.2.2.2.2.1,k.2.2.2.2.2.2.2)) fun k=>
 ah (!k)
 (U (ao (ao (ao (6:Int)))))
 (U (an (a,b,c,d,e,f,g,h,i,j))))
 (U (an (a,b,c,d,e,f,g,h,i,j))))) fun(a,b,c,d,e,f,g,h,i,j)=>
 U (an (a,b,wrap .i64 (c+1),d,e,f,g,h,i,j)))
 (U (ao (an ())))) ((g,(g.length:Int),(0:Int),a,b,c,d,e,f,g))) fun _=>
 U ((0:Int)))))
def tb29:=ax 29 (az 29 ad [] iz kM qM [.tmp 2] 60 []) tb87
def YL:zTb tb29:=aB YH aL YK func29 rfl call29
def YM:Nat->List Nat×bc:=fun id=>bif id==3 then([0,1,2,4,5,6,8,9,10],(.br 3 fW [4,5,6,8,9,10] [] (.br 7 dw [8,9,10] [] (.br 11 fw [] [] (.br 12 eY [] [] (.br 13 iP [] [] (.br 14 eK [] [] .fin .fin) .fin) .fin) .fin) .fin) .fin))else([],.fin)
def yi :  Cls×Int->Option (zBy×zBy×zBy):=fun((a,b,c,d,e,f,g),h)=>
 ai (gv (a,h)) fun(_,_,h,i)=>
 ai (gv (a,i)) fun(_,_,i,j)=>
 ai (df ((a,b,c,d,e,f,g),h)) fun h=>
 ak (ak (af (aa (a=a)&&(aa (b=b)&&(aa (c=c)&&(aa (d=d)&&(aa (e=e)&&(aa (f=f)&&(aa (g=g)&&ad))))))) (U ())) (ak (af (aa (i=i)) (U ())) (ak (af (aa (a=a)&&(aa (b=b)&&(aa (c=c)&&(aa (d=d)&&(aa (e=e)&&(aa (f=f)&&(aa (g=g)&&ad))))))) (U ())) (ak (af (aa (j=j)) (U ())) (U ()))))) (ai (df ((a,b,c,d,e,f,g),i)) fun i=>
 ak (ak (af (aa (a=a)&&(aa (b=b)&&(aa (c=c)&&(aa (d=d)&&(aa (e=e)&&(aa (f=f)&&(aa (g=g)&&ad))))))) (U ())) (ak (af (aa (j=j)) (U ())) (U ()))) (ai (df ((a,b,c,d,e,f,g),j)) fun a=>
 U ((h,i,a))))
def tb255:=ax 255 (az 255 ad [] pa Iv yi [.tmp 4,.tmp 5,.tmp 6] 30 []) tb29
def YN:zTb tb255:=aB YL YM aU func255 rfl call255
abbrev YO:SPat:=⟨[(0,.agg (pl bX)),(1,.agg (pl cG)),(2,.s)],[]⟩
abbrev YP:SPat:=⟨[(6,.i .i64),(7,.i .i64)],[]⟩
abbrev YQ:SPat:=⟨[(3,.ptr 3 0),(4,.ptr 4 0),(8,.i .i64),(19,.b)],[.box 3 (pl bX),.box 4 (pl cG)]⟩
abbrev YR:SPat:=⟨[(3,.ptr 3 0),(4,.ptr 4 0),(8,.i .i64),(51,.b)],[.box 3 (pl bX),.box 4 (pl cG)]⟩
abbrev YS:SPat:=⟨[(3,.ptr 3 0),(4,.ptr 4 0),(8,.i .i64),(58,.b)],[.box 3 (pl bX),.box 4 (pl cG)]⟩
abbrev YT:SPat:=⟨[(3,.ptr 3 0),(4,.ptr 4 0),(8,.i .i64),(69,.b)],[.box 3 (pl bX),.box 4 (pl cG)]⟩
abbrev YU:SPat:=⟨[(13,.s),(15,.i .i64),(16,.i .i64)],[]⟩
def YV:Nat->Option SPat:=fun k=>bif k==1000003 then U YQ else bif k==1000011 then U YR else bif k==1000013 then U YS else bif k==1000015 then U YT else bif k==1000022 then U YU else aj
def yj :  Cls×(Int×Int×Int)×zBy->Option (Int×Int):=fun((a,b,c,d,e,f,g),(h,i,j),_)=>
 bindE (Y:=Int×Bool×Cls×Int×Int×Int) (ah (aa (i=1))
 (U (an (i,ad,(a,b,c,d,e,f,g),h,i,j)))
 (ah (aa (i=2))
 (U (an (i,ad,(a,b,c,d,e,f,g),h,i,j)))
 (ah (aa (i=3))
 (U (an (i,ad,(a,b,c,d,e,f,g),h,i,j)))
 (ah (aa (i=5))
 (U (an (i,ad,(a,b,c,d,e,f,g),h,i,j)))
 (ah (aa (i=19))
 (U (an (i,ad,(a,b,c,d,e,f,g),h,i,j)))
 (U (an (i,aa (i=22),(a,b,c,d,e,f,g),h,i,j)))))))) fun(a,b,(c,d,e,f,g,h,i),j,k,l)=>
 ah (b)
 (U (((0:Int),(1:Int))))
 (ah (aa (a=8))
 (U (((1:Int),(2:Int))))
 (ah (aa (a=9))
 (U (((2:Int),(2:Int))))
 (ai (fJ (a,10,13)) fun b=>
 ah (b)
 (U (((2:Int),(1:Int))))
 (bindE (Y:=Int×Bool×Cls×Int×Int×Int) (ah (aa (a=17))
 (U (an (a,ad,(c,d,e,f,g,h,i),j,k,l)))
 (U (an (a,aa (a=21),(c,d,e,f,g,h,i),j,k,l)))) fun(a,b,(c,d,e,f,g,h,i),j,k,l)=>
 ah (b)
 (U (((2:Int),(0:Int))))
 (bindE (Y:=Int×Bool×Cls×Int×Int×Int) (ah (aa (a=20))
 (U (an (a,ad,(c,d,e,f,g,h,i),j,k,l)))
 (ah (aa (a=28))
 (U (an (a,ad,(c,d,e,f,g,h,i),j,k,l)))
 (U (an (a,aa (a=29),(c,d,e,f,g,h,i),j,k,l))))) fun(a,b,(c,d,e,f,g,h,i),j,k,l)=>
 ah (b)
 (U (((1:Int),(1:Int))))
 (bindE (Y:=Int×Bool×Cls×Int×Int×Int) (ah (aa (a=0))
 (U (an (a,ad,(c,d,e,f,g,h,i),j,k,l)))
 (ah (aa (a=18))
 (U (an (a,ad,(c,d,e,f,g,h,i),j,k,l)))
 (U (an (a,aa (a=32),(c,d,e,f,g,h,i),j,k,l))))) fun(a,b,(c,d,e,f,g,h,i),_,_,j)=>
 ah (b)
 (U (((0:Int),(0:Int))))
 (ai (fJ (a,24,27)) fun b=>
 ah (b)
 (ai (yi ((c,d,e,f,g,h,i),j)) fun(_,_,b)=>
 ai (qK b) fun(b,c,_)=>
 bindE (Y:=zBy×Int×Int) (ah (!aa (a=26))
 (U (an (c,wrap .i64 ((b.length:Int)+1),1)))
 (U (an (c,(b.length:Int),1)))) fun(a,b,c)=>
 ah (aa (a=[(86:UInt8)]))
 (U ((b,(0:Int))))
 (U ((b,c))))
 (U (((1:Int),(0:Int)))))))))))
def tb200:=ax 200 (az 200 ad [] YO YP yj [.tmp 6,.tmp 7] 107 []) tb255
def YW:zTb tb200:=aB YN aL YV func200 rfl call200
abbrev YX:SPat:=⟨[(0,.agg (pl wv)),(1,.i .i64)],[]⟩
def yk:(Int×Int×Int×Int)×Int->Option Bool:=fun((a,b,_,_),c)=>
 ah (aa (a<=c))
 (U (aa (c<b)))
 (U ag)
def tb201:=ax 201 (az 201 ad [] YX dx yk [.tmp 4] 15 []) tb200
def YY:zTb tb201:=aB YW aL aU func201 rfl call201
def yl:Int->Option Bool:=fun a=>
 ah (aa (a=18))
 (U ad)
 (ai (fJ (a,30,33)) fun a=>
 U a)
def tb202:=ax 202 (az 202 ad [] gU eZ yl [.tmp 2] 9 []) tb201
def Jb:zTb tb202:=aB YY aL aU func202 rfl call202
abbrev ym:SPat:=⟨[(0,.ptr 100000 0),(1,.i .i64),(2,.i .i64)],[.box 100000 (pl kL)]⟩
abbrev tQ:SPat:=⟨[],[.box 100000 (pl kL)]⟩
abbrev Jc:SPat:=⟨[(0,.ptr 100000 0),(2,.i .i64),(6,.i .i64),(7,.ptr 7 0),(8,.i .i64),(9,.i .i64),(111,.sl gO),(112,.i .i64),(113,.i .i64)],[.box 7 (pl cG),.box 100000 (pl kL)]⟩
abbrev YZ:SPat:=⟨[(0,.ptr 100000 0),(2,.i .i64),(6,.i .i64)],[.box 100000 (pl kL)]⟩
abbrev Y0:SPat:=⟨[(0,.ptr 100000 0),(2,.i .i64),(6,.i .i64),(46,.b)],[.box 100000 (pl kL)]⟩
abbrev Jd:SPat:=⟨[(0,.ptr 100000 0),(2,.i .i64),(6,.i .i64),(7,.ptr 7 0),(8,.i .i64),(9,.i .i64)],[.box 7 (pl cG),.box 100000 (pl kL)]⟩
abbrev Y1:SPat:=⟨[(0,.ptr 100000 0),(2,.i .i64),(6,.i .i64),(7,.ptr 7 0)],[.box 7 (pl cG),.box 100000 (pl kL)]⟩
abbrev Y2:SPat:=⟨[(0,.ptr 100000 0),(2,.i .i64),(6,.i .i64),(149,.b)],[.box 100000 (pl kL)]⟩
abbrev Y3:SPat:=⟨[(0,.ptr 100000 0),(2,.i .i64),(12,.i .i64)],[.box 100000 (pl kL)]⟩
def Je:Nat->Option SPat:=fun k=>bif k==11 then U Jc else bif k==1000003 then U YZ else bif k==1000004 then U Y0 else bif k==1000010 then U Jd else bif k==1000019 then U Y1 else bif k==1000020 then U Y2 else bif k==1000023 then U Y3 else bif k==2000000 then U Jd else bif k==2000001 then U Jc else aj
def Jf:Nat->List Nat×bc:=fun id=>bif id==7 then([0,1,2,3,4],(.br 5 j_ [] [6,7,8] (.br 9 mh [8] [] (.br 10 fu [] [] .fin .fin) .fin) .fin))else([],.fin)
def CA (R:ym.Den->Option tQ.Den):TEnt:=⟨106,ag,[(0,[])],ym,tQ.Den,R,sJ T [] 177 tQ [100000]⟩
def qN (R106:Int×Int×List Cst×Int×Int×Int×List Int×List Fld×List Mth×Int×Int×Int×Int×Int×zBy×List Trp×List Frm×List Fld×List Int×Bool->Option (List Cst×Int×Int×Int×List Int×List Fld×List Mth×Int×Int×Int×Int×Int×zBy×List Trp×List Frm×List Fld×List Int×Bool)):Int×Int×List Cst×Int×Int×Int×List Int×List Fld×List Mth×Int×Int×Int×Int×Int×zBy×List Trp×List Frm×List Fld×List Int×Bool->Option (List Cst×Int×Int×Int×List Int×List Fld×List Mth×Int×Int×Int×Int×Int×zBy×List Trp×List Frm×List Fld×List Int×Bool):=fun(a,b,c,d,e,f,g,h,i,j,k,l,m,n,o,p,q,r,s,t)=>
 ai (my (r,a)) fun a=>
 bindE (Y:=Int×Int×List Cst×Int×Int×Int×List Int×List Fld×List Mth×Int×Int×Int×Int×Int×zBy×List Trp×List Frm×List Fld×List Int×Bool) (ah (aa (a<0))
   (U (an (b,a,c,d,e,f,g,h,i,j,k,l,m,n,o,p,q,r,s,ad)))
   (ah (aa (m<b))
    (U (an (b,a,c,d,e,f,g,h,i,j,k,l,m,n,o,p,q,r,s,ad)))
    (U (an (b,a,c,d,e,f,g,h,i,j,k,l,m,n,o,p,q,r,s,t))))) fun(a,b,c,d,e,f,g,h,i,j,k,l,m,n,o,p,q,r,s,t)=>
 bindE (Y:=Int×Int×Bool×List Cst×Int×Int×Int×List Int×List Fld×List Mth×Int×Int×Int×Int×Int×zBy×List Trp×List Frm×List Fld×List Int×Bool) (ah (t)
   (U (an (a,b,ad,c,d,e,f,g,h,i,j,k,l,m,n,o,p,q,r,s,t)))
   (af (aa (0<=b)&&aa (b<(s.length:Int))) (aq s b.toNat fun u=>U (an (a,b,aa (0<=u),c,d,e,f,g,h,i,j,k,l,m,n,o,p,q,r,s,t))))) fun(a,b,c,d,e,f,g,h,i,j,k,l,m,n,o,p,q,r,s,t,u)=>
 ah (c)
  (ah (u)
   (U ((d,e,f,g,h,i,j,k,l,m,n,o,p,q,r,s,t,ad)))
   (af (aa (0<=b)&&aa (b<(t.length:Int))) (aq t b.toNat fun b=>U ((d,e,f,g,h,i,j,k,l,m,n,o,p,q,r,s,t,!aa (b=a))))))
  (af (aa (0<=b)&&aa (b<(t.length:Int))) (aq t b.toNat fun _=>af (aa (0<=b)&&aa (b<(s.length:Int))) (aq s b.toNat fun c=>ai (yj ((d,e,f,g,h,i,j),(c.1,c.2.1,c.2.2),[])) fun(v,w)=>
  ak (ak (af (aa (w=w)) (U ())) (U ())) (bindE (Y:=Int×Int×Int×Int×(Int×Int×Int)×List Cst×Int×Int×Int×List Int×List Fld×List Mth×Int×Int×Int×Int×Int×zBy×List Trp×List Frm×List Fld×List Int×Bool) (ah (aa (a<v))
    (U (ao (d,e,f,g,h,i,j,k,l,m,n,o,p,q,r,s,List.set t b.toNat a,ad)))
    (ah (aa (n<wrap .i64 (wrap .i64 (a-v)+w)))
     (U (ao (d,e,f,g,h,i,j,k,l,m,n,o,p,q,r,s,List.set t b.toNat a,ad)))
     (U (an (a,b,v,w,(c.1,c.2.1,c.2.2),d,e,f,g,h,i,j,k,l,m,n,o,p,q,r,s,List.set t b.toNat a,u))))) fun(a,b,c,d,(e,f,g),h,i,j,k,l,m,n,o,p,q,r,s,t,u,v,w,x,y)=>
  bindE (Y:=Int×Int×Int×Int×(Int×Int×Int)×List Cst×Int×Int×Int×List Int×List Fld×List Mth×Int×Int×Int×Int×Int×zBy×List Trp×List Frm×List Fld×List Int×Bool) (aD (fun(a,b,c,d,e,f,g,(h,i,j),k,l,m,n,o,p,q,r,s,t,u,v,w,x,y,z,A,B)=>
    ah (aa (g<f))
     (bindE (Y:=Int×Int×Int×Int×List Trp×Int×Int×(Int×Int×Int)×List Cst×Int×Int×Int×List Int×List Fld×List Mth×Int×Int×Int×Int×Int×zBy×List Trp×List Frm×List Fld×List Int×Bool) (af (aa (0<=g)) (aq e g.toNat fun C=>ai (yk ((C.1,C.2.1,C.2.2.1,C.2.2.2),h)) fun D=>
      ah (D)
       (ai (R106 (C.2.2.1,(1:Int),k,l,m,n,o,p,q,r,s,t,u,v,w,x,y,z,A,B)) fun(k,l,m,n,o,p,q,r,s,t,u,v,w,x,y,z,A,B)=>
       U (an (a,b,c,d,e,f,g,(h,i,j),k,l,m,n,o,p,q,r,s,t,u,v,w,x,y,z,A,B)))
       (U (an (a,b,c,d,e,f,g,(h,i,j),k,l,m,n,o,p,q,r,s,t,u,v,w,x,y,z,A,B))))) fun(a,b,c,d,e,f,g,(h,i,j),k,l,m,n,o,p,q,r,s,t,u,v,w,x,y,z,A,B)=>
     U (an (a,b,c,d,e,f,wrap .i64 (g+1),(h,i,j),k,l,m,n,o,p,q,r,s,t,u,v,w,x,y,z,A,B)))
     (U (ao (an (a,b,c,d,(h,i,j),k,l,m,n,o,p,q,r,s,t,u,v,w,x,y,z,A,B))))) ((a,b,c,d,u,(u.length:Int),(0:Int),(e,f,g),h,i,j,k,l,m,n,o,p,q,r,s,t,u,v,w,x,y))) fun(a,b,c,d,(e,f,g),h,i,j,k,l,m,n,o,p,q,r,s,t,u,v,w,x,y)=>
  bindE (Y:=Int×Int×(Int×Int×Int)×List Cst×Int×Int×Int×List Int×List Fld×List Mth×Int×Int×Int×Int×Int×zBy×List Trp×List Frm×List Fld×List Int×Bool) (ai (pc f) fun z=>
   ah (z)
    (ai (R106 (g,wrap .i64 (a+wrap .i64 (d-c)),h,i,j,k,l,m,n,o,p,q,r,s,t,u,v,w,x,y)) fun(h,i,j,k,l,m,n,o,p,q,r,s,t,u,v,w,x,y)=>
    U (an (wrap .i64 (a+wrap .i64 (d-c)),b,(e,f,g),h,i,j,k,l,m,n,o,p,q,r,s,t,u,v,w,x,y)))
    (U (an (wrap .i64 (a+wrap .i64 (d-c)),b,(e,f,g),h,i,j,k,l,m,n,o,p,q,r,s,t,u,v,w,x,y)))) fun(a,b,(_,c,_),d,e,f,g,h,i,j,k,l,m,n,o,p,q,r,s,t,u)=>
  bindE (Y:=Int×Int×Bool×List Cst×Int×Int×Int×List Int×List Fld×List Mth×Int×Int×Int×Int×Int×zBy×List Trp×List Frm×List Fld×List Int×Bool) (ai (yl c) fun c=>
   ah (!c)
    (U (an (a,b,!u,d,e,f,g,h,i,j,k,l,m,n,o,p,q,r,s,t,u)))
    (U (an (a,b,ag,d,e,f,g,h,i,j,k,l,m,n,o,p,q,r,s,t,u)))) fun(a,b,c,d,e,f,g,h,i,j,k,l,m,n,o,p,q,r,s,t,u)=>
  ah (c)
   (bindE (Y:=Int×Int×List Cst×Int×Int×Int×List Int×List Fld×List Mth×Int×Int×Int×Int×Int×zBy×List Trp×List Frm×List Fld×List Int×Bool) (ah (aa (wrap .i64 (b+1)<(s.length:Int)))
     (af (aa (0<=wrap .i64 (b+1))&&aa (wrap .i64 (b+1)<(s.length:Int))) (aq s (aH (wrap .i64 (b+1))) fun b=>U (an (a,b.1,d,e,f,g,h,i,j,k,l,m,n,o,p,q,r,s,t,u))))
     (U (an (a,(p.length:Int),d,e,f,g,h,i,j,k,l,m,n,o,p,q,r,s,t,u)))) fun(a,b,c,d,e,f,g,h,i,j,k,l,m,n,o,p,q,r,s,t)=>
   ai (R106 (b,a,c,d,e,f,g,h,i,j,k,l,m,n,o,p,q,r,s,t)) fun(a,b,c,d,e,f,g,h,i,j,k,l,m,n,o,p,q,r)=>
   U ((a,b,c,d,e,f,g,h,i,j,k,l,m,n,o,p,q,r)))
   (U ((d,e,f,g,h,i,j,k,l,m,n,o,p,q,r,s,t,u)))))))
def Y4 (R106:Int×Int×List Cst×Int×Int×Int×List Int×List (Int×Int×Int)×List Mth×Int×Int×Int×Int×Int×List UInt8×List (Int×Int×Int×Int)×List Frm×List (Int×Int×Int)×List Int×Bool->Option (List Cst×Int×Int×Int×List Int×List (Int×Int×Int)×List Mth×Int×Int×Int×Int×Int×List UInt8×List (Int×Int×Int×Int)×List Frm×List (Int×Int×Int)×List Int×Bool))(x:Int×Int×List Cst×Int×Int×Int×List Int×List (Int×Int×Int)×List Mth×Int×Int×Int×Int×Int×List UInt8×List (Int×Int×Int×Int)×List Frm×List (Int×Int×Int)×List Int×Bool):qs T (ax 106 (CA R106) tb202) Jf 177 Je (BP Tryz.f106) ym tQ x=qN R106 x:=by kernel_rfl
def lE:Nat->Int×Int×List Cst×Int×Int×Int×List Int×List (Int×Int×Int)×List Mth×Int×Int×Int×Int×Int×List UInt8×List (Int×Int×Int×Int)×List Frm×List (Int×Int×Int)×List Int×Bool->Option (List Cst×Int×Int×Int×List Int×List (Int×Int×Int)×List Mth×Int×Int×Int×Int×Int×List UInt8×List (Int×Int×Int×Int)×List Frm×List (Int×Int×Int)×List Int×Bool)
 |0=>fun _=>aj
 |n+1=>qN (lE n)
def Jg:∀n,jC Tryz.prog 106 (CA (lE n)).W
 |0=>fun args ob K ⟨x,y,v,obs,h1,h2,h3,_⟩=>by cases h3
 |n+1=>wm (ir.ins Jb (Jg n)) wo wB ag _ ym tQ [100000] Jf Je func106 rfl results106 ntmps106 (by kernel_rfl) (by kernel_rfl) call106 (lE (n+1)) fun x _ h=>(Y4 (lE n) x).trans h
def CB:Int×Int×List Cst×Int×Int×Int×List Int×List Fld×List Mth×Int×Int×Int×Int×Int×zBy×List Trp×List Frm×List Fld×List Int×Bool->Option (List Cst×Int×Int×Int×List Int×List Fld×List Mth×Int×Int×Int×Int×Int×zBy×List Trp×List Frm×List Fld×List Int×Bool):=lE 200
def Y5:TEnt:=CA CB
def tb106:=ax 106 Y5 tb202
def Y6:zTb tb106:=ir.ins Jb (Jg 200)
abbrev CC:SPat:=⟨[(4,.own (.int .i64) ad)],[]⟩
abbrev Y7:SPat:=⟨[(5,.ptr 34 0),(51,.i .i64),(52,.i .i64)],[.box 34 (pl kL)]⟩
abbrev Jh:SPat:=⟨[(1,.i .i64),(2,.ptr 2 0)],[.box 2 (pl bX)]⟩
abbrev Y8:SPat:=⟨[(5,.ptr 34 0)],[.box 34 (pl kL)]⟩
def Y9:Nat->Option SPat:=fun k=>bif k==6 then U Y7 else bif k==1000003 then U Jh else bif k==2000000 then U Y8 else aj
def Y_:Nat->List Nat×bc:=fun id=>bif id==3 then(mf,(.br 7 dw [] [] (.br 8 mh [] [] .fin .fin) .fin))else([],.fin)
def tR :  Cls×Int->Option (List Int):=fun((a,b,c,d,e,f,g),h)=>
 bindE (Y:=Int×Cls) (ai (qM (a,b,c,d,e,f,g)) fun i=>
 ah (!aa (i=0))
 (U (ao []))
 (ai (fJ (h,(0:Int),wrap .i64 ((g.length:Int)-1))) fun i=>
 ah (!i)
 (U (ao []))
 (af (aa (0<=h)) (aq g h.toNat fun i=>ai (kf i.1) fun i=>
 ah (i)
 (U (ao []))
 (U (an (h,a,b,c,d,e,f,g))))))) fun(a,b,c,d,e,f,g,h)=>
 af (aa (0<=a)) (aq h a.toNat fun a=>ai (nL a.2.2.2.2.2.1) fun(i,_)=>
 bindE (Y:=List Cst×Int×Int×Int×List Int×List Fld×List Mth×Int×Int×Int×Int×Int×zBy×List Trp×List Frm×List Fld×List Int×Bool) (aD (fun(a,b,c,d,e,f,g,h,i,j,k,l,m,n,o,p,q,r,s,t)=>
 ah (aa (b<a))
 (af (aa (s.length+1<=9223372036854775807)&&aa ((s.length+1)*8<=140737488355328)) (U (an (a,wrap .i64 (b+1),c,d,e,f,g,h,i,j,k,l,m,n,o,p,q,r,s++[(-1:Int)],t))))
 (U (ao (an (c,d,e,f,g,h,i,j,k,l,m,n,o,p,q,r,s,t))))) (((i.length:Int),(0:Int),b,c,d,e,f,g,h,a.1,a.2.1,a.2.2.1,a.2.2.2.1,a.2.2.2.2.1,a.2.2.2.2.2.1,a.2.2.2.2.2.2.1,a.2.2.2.2.2.2.2,i,[],ag))) fun(a,b,c,d,e,f,g,h,i,j,k,l,m,n,o,p,q,r)=>
 ai (CB (0,0,a,b,c,d,e,f,g,h,i,j,k,l,m,n,o,p,q,r)) fun(_,_,_,_,_,_,_,_,_,_,_,_,_,_,_,_,a,b)=>
 ah (b)
 (U ([]))
 (U a))
def tb41:=ax 41 (az 41 ad [] pa CC tR [.tmp 4] 74 []) tb106
def Za:zTb tb41:=aB Y6 Y_ Y9 func41 rfl call41
def yo:Cls->Option Int:=fun(a,b,c,d,e,f,g)=>
 ai (s_ (a,b,c,d,e,f,g)) fun h=>
 ah (aa (h=[]))
 (U ((1:Int)))
 (ai (tn (a,b,c,d,e,f,g)) fun a=>
 U a)
def tb30:=ax 30 (az 30 ad [] iz kM yo [.tmp 2] 8 []) tb41
def Zb:zTb tb30:=aB Za aL aU func30 rfl call30
abbrev Zc:SPat:=⟨[(0,.agg (pl bX)),(1,.agg (pl cG))],[]⟩
abbrev Zd:SPat:=⟨[(4,.i .i64),(5,.i .i64)],[]⟩
abbrev Ze:SPat:=⟨[(10,.s),(12,.i .i64)],[]⟩
abbrev Zf:SPat:=⟨[(43,.i .i64),(44,.b)],[]⟩
abbrev Zg:SPat:=⟨[(43,.i .i64),(51,.b)],[]⟩
abbrev Zh:SPat:=⟨[(43,.i .i64),(67,.b)],[]⟩
abbrev Zi:SPat:=⟨[(43,.i .i64),(72,.b)],[]⟩
def Zj:Nat->Option SPat:=fun k=>bif k==1000007 then U Ze else bif k==1000017 then U Zf else bif k==1000029 then U Zg else bif k==1000038 then U Zh else bif k==1000041 then U Zi else bif k==2000000 then U dD else aj
def yp :  Cls×Int×Int×Int->Option (Int×Int):=fun((a,_,_,_,_,_,_),_,b,c)=>
 ai (eN (b,24,27)) fun d=>
 ah (d)
 (ai (ta (a,c)) fun(_,_,a)=>
 ai (qF a) fun(a,c,_)=>
 bindE (Y:=zBy×Int) (ah (!aa (b=26))
 (U (an (c,wrap .i64 ((a.length:Int)+1))))
 (U (an (c,(a.length:Int))))) fun(a,b)=>
 ah (aa (a=[(86:UInt8)]))
 (U ((b,(0:Int))))
 (U ((b,(1:Int)))))
 (bindE (bindE (ah (aa (b=1))
 (U (an (b,ad)))
 (ah (aa (b=2))
 (U (an (b,ad)))
 (ah (aa (b=3))
 (U (an (b,ad)))
 (ah (aa (b=5))
 (U (an (b,ad)))
 (ah (aa (b=19))
 (U (an (b,ad)))
 (U (an (b,aa (b=22))))))))) fun(a,b)=>
 ah (b)
 (U (ao (0,1)))
 (bindE (ah (aa (a=4))
 (U (an (a,ad)))
 (ah (aa (a=6))
 (U (an (a,ad)))
 (ah (aa (a=7))
 (U (an (a,ad)))
 (ah (aa (a=14))
 (U (an (a,ad)))
 (ah (aa (a=15))
 (U (an (a,ad)))
 (ah (aa (a=16))
 (U (an (a,ad)))
 (ah (aa (a=23))
 (U (an (a,ad)))
 (ah (aa (a=30))
 (U (an (a,ad)))
 (ah (aa (a=31))
 (U (an (a,ad)))
 (ah (aa (a=33))
 (U (an (a,ad)))
 (U (an (a,aa (a=34)))))))))))))) fun(a,b)=>
 ah (b)
 (U (ao (1,0)))
 (ah (aa (a=8))
 (U (ao (1,2)))
 (ah (aa (a=9))
 (U (ao (2,2)))
 (bindE (ah (aa (a=10))
 (U (an (a,ad)))
 (ah (aa (a=11))
 (U (an (a,ad)))
 (ah (aa (a=12))
 (U (an (a,ad)))
 (U (an (a,aa (a=13))))))) fun(a,b)=>
 ah (b)
 (U (ao (2,1)))
 (bindE (ah (aa (a=17))
 (U (an (a,ad)))
 (U (an (a,aa (a=21))))) fun(a,b)=>
 ah (b)
 (U (ao (2,0)))
 (ah (aa (a=20))
 (U (ao (1,1)))
 (ah (aa (a=28))
 (U (ao (1,1)))
 (ah (aa (a=29))
 (U (ao (1,1)))
 (U (an ()))))))))))) fun _=>
 U (((0:Int),(0:Int))))
def tb256:=ax 256 (az 256 ad [] Zc Zd yp [.tmp 4,.tmp 5] 79 []) tb30
def Zk:zTb tb256:=aB Zb aL Zj func256 rfl call256
def yq:Int->Option Bool:=fun a=>
 ah (aa (a=18))
 (U ad)
 (ai (eN (a,30,33)) fun a=>
 U a)
def tb257:=ax 257 (az 257 ad [] gU eZ yq [.tmp 2] 9 []) tb256
def Zl:zTb tb257:=aB Zk aL aU func257 rfl call257
abbrev Zm:SPat:=⟨[(0,.sl (.int .i64)),(1,.i .i64),(2,.i .i64)],[]⟩
def qO:List Int×Int×Int->Option Bool:=fun(a,b,c)=>
 af (aa (0<=b)) (aq a b.toNat fun d=>ah (aa (d<0))
 (U ad)
 (af (aa (0<=b)) (aq a b.toNat fun a=>U (aa (a=c)))))
def tb258:=ax 258 (az 258 ad [] Zm kN qO [.tmp 6] 20 []) tb257
def Zn:zTb tb258:=aB Zl aL aU func258 rfl call258
abbrev Zo:SPat:=⟨[(0,.agg (pl bX)),(1,.agg (pl cB)),(2,.sl bu),(3,.ar 100000),(4,.i .i64)],[.arr 100000 (.int .i64) ad]⟩
abbrev Zp:SPat:=⟨[(10,.b)],[.arr 100000 (.int .i64) ad]⟩
abbrev Zq:SPat:=⟨[(2,.sl bu),(3,.ar 100000),(6,.ptr 6 0),(11,.ptr 11 0),(13,.i .i64),(14,.i .i64),(15,.own (.int .i64) ad),(16,.i .i64)],[.box 6 (pl cB),.box 11 (pl cG),.arr 100000 (.int .i64) ad]⟩
abbrev Ji:SPat:=⟨[(2,.sl bu),(3,.ar 100000),(6,.ptr 6 0),(11,.ptr 11 0),(17,.i .i64)],[.box 6 (pl cB),.box 11 (pl cG),.arr 100000 (.int .i64) ad]⟩
abbrev Zr:SPat:=⟨[(2,.sl bu),(3,.ar 100000),(4,.i .i64),(6,.ptr 6 0),(11,.ptr 11 0),(13,.i .i64),(14,.i .i64)],[.box 6 (pl cB),.box 11 (pl cG),.arr 100000 (.int .i64) ad]⟩
abbrev Jj:SPat:=⟨[(2,.sl bu),(3,.ar 100000),(6,.ptr 6 0),(11,.ptr 11 0),(13,.i .i64),(14,.i .i64),(15,.own (.int .i64) ad)],[.box 6 (pl cB),.box 11 (pl cG),.arr 100000 (.int .i64) ad]⟩
abbrev Zs:SPat:=⟨[(2,.sl bu),(3,.ar 100000),(6,.ptr 6 0),(11,.ptr 11 0),(17,.i .i64),(19,.i .i64)],[.box 6 (pl cB),.box 11 (pl cG),.arr 100000 (.int .i64) ad]⟩
abbrev Zt:SPat:=⟨[(2,.sl bu),(3,.ar 100000),(6,.ptr 6 0),(11,.ptr 11 0)],[.box 6 (pl cB),.box 11 (pl cG),.arr 100000 (.int .i64) ad]⟩
abbrev Zu:SPat:=⟨[],[.arr 100000 (.int .i64) ad]⟩
def Zv:Nat->Option SPat:=fun k=>bif k==14 then U Zq else bif k==20 then U Ji else bif k==1000006 then U Zr else bif k==1000011 then U Jj else bif k==1000013 then U Jj else bif k==1000025 then U Zs else bif k==2000000 then U Zt else bif k==2000002 then U Zu else bif k==2000003 then U Ji else aj
def yr :  Cls×Mth×List Fld×Int×List Int->Option (Bool×List Int):=fun((a,b,c,d,e,f,g),(h,i,j,k,l,m,n,o),p,q,r)=>
 af (aa (0<=q)) (aq p q.toNat fun s=>ai (yp ((a,b,c,d,e,f,g),s.1,s.2.1,s.2.2)) fun(a,b)=>
 af (aa (0<=q)&&aa (q<(r.length:Int))) (aq r q.toNat fun c=>bindE (Y:=List Fld×Int×Int×Int×Mth×(Int×Int×Int)×List Int) (ah (aa (wrap .i64 (c-a)<0))
 (U (ao (ag,r)))
 (ah (aa (k<wrap .i64 (wrap .i64 (c-a)+b)))
 (U (ao (ag,r)))
 (U (an (p,q,b,wrap .i64 (c-a),(h,i,j,k,l,m,n,o),(s.1,s.2.1,s.2.2),r))))) fun(a,b,c,d,(e,f,g,h,i,j,k,l),(m,n,o),p)=>
 bindE (Y:=List Fld×Int×Int×List Int×Mth×(Int×Int×Int)×List Int) (ai (yq n) fun q=>
 ah (!q)
 (ah (aa ((a.length:Int)<=wrap .i64 (b+1)))
 (U (ao (ag,p)))
 (af (aa ((0:Nat)+1<=9223372036854775807)&&aa (((0:Nat)+1)*8<=140737488355328)) (U (an (a,c,d,[]++[wrap .i64 (b+1)],(e,f,g,h,i,j,k,l),(m,n,o),p)))))
 (U (an (a,c,d,[],(e,f,g,h,i,j,k,l),(m,n,o),p)))) fun(a,b,c,d,(e,f,g,h,i,j,k,l),(m,n,o),p)=>
 bindE (Y:=List Fld×Int×Int×List Int×Mth×(Int×Int×Int)×List Int) (ai (eN (n,14,18)) fun q=>
 ah (q)
 (ai (kO (a,o)) fun q=>
 af (aa (d.length+1<=9223372036854775807)&&aa ((d.length+1)*8<=140737488355328)) (U (an (a,b,c,d++[q],(e,f,g,h,i,j,k,l),(m,n,o),p))))
 (U (an (a,b,c,d,(e,f,g,h,i,j,k,l),(m,n,o),p)))) fun(a,b,c,d,(e,f,g,h,i,j,k,l),(m,n,o),p)=>
 bindE (Y:=List Fld×Mth×(Int×Int×Int)×List Int) (aD (fun(a,b,c,d,e,(f,g,h,i,j,k,l,m),(n,o,p),q)=>
 ah (aa (e<(d.length:Int)))
 (af (aa (0<=e)&&aa (e<(d.length:Int))) (aq d e.toNat fun r=>ai (qO (q,r,wrap .i64 (c+b))) fun r=>
 ah (!r)
 (U (ao (ao (ag,q))))
 (af (aa (0<=e)&&aa (e<(d.length:Int))) (aq d e.toNat fun r=>af (aa (0<=r)&&aa (r<(q.length:Int))) (aq q r.toNat fun _=>U (an (a,b,c,d,wrap .i64 (e+1),(f,g,h,i,j,k,l,m),(n,o,p),List.set q r.toNat (wrap .i64 (c+b)))))))))
 (U (ao (an (a,(f,g,h,i,j,k,l,m),(n,o,p),q))))) ((a,b,c,d,(0:Int),(e,f,g,h,i,j,k,l),(m,n,o),p))) fun(a,(b,c,d,e,f,g,h,i),(j,k,l),m)=>
 bindE (Y:=List Int) (aD (fun(a,b,(c,d,e,f,g,h,i,j),(k,l,m),n)=>
 ah (aa (b<(i.length:Int)))
 (bindE (Y:=List Fld×Int×Mth×(Int×Int×Int)×List Int) (af (aa (0<=b)) (aq i b.toNat fun o=>ai (kO (a,o.2.2.1)) fun p=>
 bindE (Y:=List Fld×Int×Int×Mth×(Int×Int×Int)×List Int) (ah (aa (k<o.1))
 (U (ao (an (a,b,(c,d,e,f,g,h,i,j),(k,l,m),n))))
 (ah (aa (o.2.1<=k))
 (U (ao (an (a,b,(c,d,e,f,g,h,i,j),(k,l,m),n))))
 (U (an (a,b,p,(c,d,e,f,g,h,i,j),(k,l,m),n))))) fun(a,b,c,(d,e,f,g,h,i,j,k),(l,m,n),o)=>
 ai (qO (o,c,1)) fun p=>
 ah (!p)
 (U (ao (ao (ao (ag,o)))))
 (ah (aa (g<1))
 (U (ao (ao (ao (ag,o)))))
 (af (aa (0<=c)&&aa (c<(o.length:Int))) (aq o c.toNat fun _=>U (an (a,b,(d,e,f,g,h,i,j,k),(l,m,n),List.set o c.toNat (1:Int)))))))) fun(a,b,(c,d,e,f,g,h,i,j),(k,l,m),n)=>
 U (an (a,wrap .i64 (b+1),(c,d,e,f,g,h,i,j),(k,l,m),n)))
 (U (ao (an n)))) ((a,(0:Int),(b,c,d,e,f,g,h,i),(j,k,l),m))) fun a=>
 U ((ad,a))))
def tb203:=ax 203 (az 203 ag [(3,[])] Zo Zp yr [.tmp 10] 136 [100000]) tb258
def Zw:zTb tb203:=aB Zn aL Zv func203 rfl call203
abbrev Zx:SPat:=⟨[(2,.ptr 2 0),(3,.ptr 3 0),(5,.own bu ad),(7,.own (.int .i64) ad),(8,.own .bool ad),(9,.i .i64)],kb⟩
abbrev CD:SPat:=⟨[(2,.ptr 2 0),(3,.ptr 3 0),(5,.sl bu),(7,.own (.int .i64) ad),(8,.own .bool ad),(10,.b)],kb⟩
abbrev Jk:SPat:=⟨[(2,.ptr 2 0),(3,.ptr 3 0),(5,.sl bu),(7,.own (.int .i64) ad),(8,.own .bool ad),(10,.b),(11,.i .i64)],kb⟩
abbrev Zy:SPat:=⟨[(2,.ptr 2 0),(3,.ptr 3 0),(5,.sl bu),(7,.own (.int .i64) ad),(8,.own .bool ad),(11,.i .i64)],kb⟩
abbrev Zz:SPat:=⟨[(2,.ptr 2 0),(3,.ptr 3 0),(5,.own bu ad),(7,.own (.int .i64) ad),(8,.own .bool ad)],kb⟩
abbrev ZA:SPat:=⟨[(7,.own (.int .i64) ad)],[]⟩
def ZB:Nat->Option SPat:=fun k=>bif k==5 then U Zx else bif k==10 then U CD else bif k==13 then U Jk else bif k==1000016 then U Zy else bif k==2000000 then U Zz else bif k==2000002 then U ZA else bif k==2000003 then U CD else bif k==2000004 then U CD else bif k==2000005 then U Jk else aj
def yt :  Cls×Mth->Option (List Int):=fun((a,b,c,d,e,f,g),h,i,j,k,l,m,n,o)=>
 ai (tk m) fun(p,_)=>
 af (aa ((p.length:Int)=(p.length:Int))&&aa (0<=(p.length:Int))&&aa ((p.length:Int)<=9223372036854775807)&&aa ((p.length:Int)*8<=140737488355328)) (af (aa ((p.length:Int)=(p.length:Int))&&aa (0<=(p.length:Int))&&aa ((p.length:Int)<=9223372036854775807)&&aa ((p.length:Int)*1<=140737488355328)) (bindE (Y:=List Fld×List Int×List Bool×Cls×Mth) (aD (fun(a,b,c,d,(e,f,g,h,i,j,k),l,m,n,o,p,q,r,s)=>
 ah (aa (d<(a.length:Int)))
 (af (aa (0<=d)&&aa (d<(b.length:Int))) (aq b d.toNat fun _=>U (an (a,List.set b d.toNat (-1:Int),c,wrap .i64 (d+1),(e,f,g,h,i,j,k),l,m,n,o,p,q,r,s))))
 (U (ao (an (a,b,c,(e,f,g,h,i,j,k),l,m,n,o,p,q,r,s))))) ((p,List.replicate (aH (p.length:Int)) (0:Int),List.replicate (aH (p.length:Int)) ag,(0:Int),(a,b,c,d,e,f,g),h,i,j,k,l,m,n,o))) fun(a,b,c,(d,e,f,g,h,i,j),k,l,m,n,o,p,q,r)=>
 af (aa (0<(b.length:Int))) (aq b (nat_lit 0) fun _=>bindE (Y:=List Int) (aD (fun(a,b,c,d,(e,f,g,h,i,j,k),l,m,n,o,p,q,r,s)=>
 ah (d)
 (bindE (Y:=List Fld×List Int×List Bool×Bool×Cls×Mth) (bindE (Y:=List Fld×List Int×List Bool×Bool×Cls×Mth) (aD (fun(a,b,c,d,e,(f,g,h,i,j,k,l),m,n,o,p,q,r,s,t)=>
 ah (aa (e<(a.length:Int)))
 (bindE (Y:=List Fld×List Int×List Bool×Bool×Int×Cls×Mth) (bindE (Y:=List Fld×List Int×List Bool×Int×Cls×Mth) (af (aa (0<=e)&&aa (e<(b.length:Int))) (aq b e.toNat fun u=>ah (aa (u<0))
 (U (ao (an (a,b,c,d,e,(f,g,h,i,j,k,l),m,n,o,p,q,r,s,t))))
 (af (aa (0<=e)&&aa (e<(c.length:Int))) (aq c e.toNat fun u=>ah (u)
 (U (ao (an (a,b,c,d,e,(f,g,h,i,j,k,l),m,n,o,p,q,r,s,t))))
 (U (an (a,b,c,e,(f,g,h,i,j,k,l),m,n,o,p,q,r,s,t))))))) fun(a,b,c,d,(e,f,g,h,i,j,k),l,m,n,o,p,q,r,s)=>
 af (aa (0<=d)&&aa (d<(c.length:Int))) (aq c d.toNat fun _=>ai (yr ((e,f,g,h,i,j,k),(l,m,n,o,p,q,r,s),a,d,b)) fun(b,t)=>
 ah (!b)
 (U (ao (ao (ao (ao (ao (ao [])))))))
 (U (an (a,t,List.set c d.toNat ad,ad,d,(e,f,g,h,i,j,k),l,m,n,o,p,q,r,s))))) fun(a,b,c,d,e,(f,g,h,i,j,k,l),m,n,o,p,q,r,s,t)=>
 U (an (a,b,c,d,wrap .i64 (e+1),(f,g,h,i,j,k,l),m,n,o,p,q,r,s,t)))
 (U (ao (an (a,b,c,d,(f,g,h,i,j,k,l),m,n,o,p,q,r,s,t))))) ((a,b,c,ag,(0:Int),(e,f,g,h,i,j,k),l,m,n,o,p,q,r,s))) fun(a,b,c,d,(e,f,g,h,i,j,k),l,m,n,o,p,q,r,s)=>
 U (an (a,b,c,d,(e,f,g,h,i,j,k),l,m,n,o,p,q,r,s))) fun(a,b,c,d,(e,f,g,h,i,j,k),l,m,n,o,p,q,r,s)=>
 U (an (a,b,c,d,(e,f,g,h,i,j,k),l,m,n,o,p,q,r,s)))
 (U (ao (an b)))) ((a,List.set b (nat_lit 0) (0:Int),c,ad,(d,e,f,g,h,i,j),k,l,m,n,o,p,q,r))) fun a=>
 U a)))
def tb109:=ax 109 (az 109 ad [] tf CC yt [.tmp 4] 64 []) tb203
def ZC:zTb tb109:=aB Zw aL ZB func109 rfl call109
def ZD:Nat->Option SPat:=fun k=>bif k==1000003 then U Jh else aj
def ZE:Nat->List Nat×bc:=fun id=>bif id==3 then(gQ,(.br 6 [5,4,3,2,1,0] [] [] (.br 7 dw [] [] .fin .fin) .fin))else([],.fin)
def tT :  Cls×Int->Option (List Int):=fun((a,b,c,d,e,f,g),h)=>
 bindE (Y:=Int×Cls) (ai (yo (a,b,c,d,e,f,g)) fun i=>
 ah (!aa (i=0))
 (U (ao []))
 (ai (eN (h,(0:Int),wrap .i64 ((g.length:Int)-1))) fun i=>
 ah (!i)
 (U (ao []))
 (af (aa (0<=h)) (aq g h.toNat fun i=>ai (gW (i.1,8)) fun i=>
 ah (i)
 (U (ao []))
 (U (an (h,a,b,c,d,e,f,g))))))) fun(a,b,c,d,e,f,g,h)=>
 af (aa (0<=a)) (aq h a.toNat fun a=>ai (yt ((b,c,d,e,f,g,h),a.1,a.2.1,a.2.2.1,a.2.2.2.1,a.2.2.2.2.1,a.2.2.2.2.2.1,a.2.2.2.2.2.2.1,a.2.2.2.2.2.2.2)) fun a=>
 U a)
def tb43:=ax 43 (az 43 ad [] pa CC tT [.tmp 4] 33 []) tb109
def ZF:zTb tb43:=aB ZC ZE ZD func43 rfl call43
abbrev ZG:SPat:=⟨[(0,.sl (.int .i64)),(1,.sl (.int .i64)),(5,.i .i64)],[]⟩
def ZH:Nat->Option SPat:=fun k=>bif k==4 then U ZG else bif k==2000000 then U dD else aj
def ZI:Nat->List Nat×bc:=fun id=>bif id==6 then(lz,.fin)else([],.fin)
def tU:List Int×List Int->Option Bool:=fun(a,b)=>
 ah (!aa ((a.length:Int)=(b.length:Int)))
 (U ag)
 (bindE (aD (fun(a,b,c)=>
 ah (aa (c<(a.length:Int)))
 (af (aa (0<=c)) (aq a c.toNat fun d=>af (aa (0<=c)) (aq b c.toNat fun e=>ah (!aa (d=e))
 (U (ao (ao ag)))
 (U (an (a,b,wrap .i64 (c+1)))))))
 (U (ao (an ())))) ((a,b,(0:Int)))) fun _=>
 U ad)
def tb42:=ax 42 (az 42 ad [] IU dx tU [.tmp 4] 26 []) tb43
def ZJ:zTb tb42:=aB ZF ZI ZH func42 rfl call42
abbrev ZK:SPat:=⟨[(2,.own cz ag)],[]⟩
def CE:List Cst->Option (List Cst):=fun a=>
 ah (aa (a.length=0))
 (cm
 (U ([]))
 (af (aa (a.length<=9223372036854775807)&&aa (a.length*40<=140737488355328)) (U a)))
 (af (aa (a.length<=9223372036854775807)&&aa (a.length*40<=140737488355328)) (U a))
def tb179:=ax 179 (az 179 ad [] xm ZK CE [.tmp 2] 8 []) tb42
def ZL:zTb tb179:=aB ZJ aL aU func179 rfl call179
abbrev ZM:SPat:=⟨[(0,.sl (.int .i64))],[]⟩
abbrev ZN:SPat:=⟨[(2,.own (.int .i64) ag)],[]⟩
def CF:List Int->Option (List Int):=fun a=>
 ah (aa (a.length=0))
 (cm
 (U ([]))
 (af (aa (a.length<=9223372036854775807)&&aa (a.length*8<=140737488355328)) (U a)))
 (af (aa (a.length<=9223372036854775807)&&aa (a.length*8<=140737488355328)) (U a))
def tb180:=ax 180 (az 180 ad [] ZM ZN CF [.tmp 2] 8 []) tb179
def ZO:zTb tb180:=aB ZL aL aU func180 rfl call180
abbrev ZP:SPat:=⟨[(2,.own bu ag)],[]⟩
def CG:List Fld->Option (List Fld):=fun a=>
 ah (aa (a.length=0))
 (cm
 (U ([]))
 (af (aa (a.length<=9223372036854775807)&&aa (a.length*24<=140737488355328)) (U a)))
 (af (aa (a.length<=9223372036854775807)&&aa (a.length*24<=140737488355328)) (U a))
def tb181:=ax 181 (az 181 ad [] B5 ZP CG [.tmp 2] 8 []) tb180
def ZQ:zTb tb181:=aB ZO aL aU func181 rfl call181
abbrev ZR:SPat:=⟨[(0,.sl cv)],[]⟩
abbrev ZS:SPat:=⟨[(2,.own cv ag)],[]⟩
def CH:List Mth->Option (List Mth):=fun a=>
 ah (aa (a.length=0))
 (cm
 (U ([]))
 (af (aa (a.length<=9223372036854775807)&&aa (a.length*104<=140737488355328)) (U a)))
 (af (aa (a.length<=9223372036854775807)&&aa (a.length*104<=140737488355328)) (U a))
def tb182:=ax 182 (az 182 ag [] ZR ZS CH [.tmp 2] 8 []) tb181
def ZT:zTb tb182:=aB ZQ aL aU func182 rfl call182
abbrev ZU:SPat:=⟨[(0,.sl gO)],[]⟩
abbrev ZV:SPat:=⟨[(2,.own gO ag)],[]⟩
def CI:List Trp->Option (List Trp):=fun a=>
 ah (aa (a.length=0))
 (cm
 (U ([]))
 (af (aa (a.length<=9223372036854775807)&&aa (a.length*32<=140737488355328)) (U a)))
 (af (aa (a.length<=9223372036854775807)&&aa (a.length*32<=140737488355328)) (U a))
def tb183:=ax 183 (az 183 ad [] ZU ZV CI [.tmp 2] 8 []) tb182
def ZW:zTb tb183:=aB ZT aL aU func183 rfl call183
abbrev ZX:SPat:=⟨[(0,.sl de)],[]⟩
abbrev ZY:SPat:=⟨[(2,.own de ag)],[]⟩
def CJ:List Frm->Option (List Frm):=fun a=>
 ah (aa (a.length=0))
 (cm
 (U ([]))
 (af (aa (a.length<=9223372036854775807)&&aa (a.length*56<=140737488355328)) (U a)))
 (af (aa (a.length<=9223372036854775807)&&aa (a.length*56<=140737488355328)) (U a))
def tb184:=ax 184 (az 184 ag [] ZX ZY CJ [.tmp 2] 8 []) tb183
def ZZ:zTb tb184:=aB ZW aL aU func184 rfl call184
abbrev Z0:SPat:=⟨[(2,.own dc ag)],[]⟩
def yu:List Knd->Option (List Knd):=fun a=>
 ah (aa (a.length=0))
 (cm
 (U ([]))
 (af (aa (a.length<=9223372036854775807)&&aa (a.length*16<=140737488355328)) (U a)))
 (af (aa (a.length<=9223372036854775807)&&aa (a.length*16<=140737488355328)) (U a))
def tb185:=ax 185 (az 185 ad [] B9 Z0 yu [.tmp 2] 8 []) tb184
def Z1:zTb tb185:=aB ZZ aL aU func185 rfl call185
abbrev Z2:SPat:=⟨[(2,.ptr 2 0)],[.box 2 (pl HV)]⟩
abbrev CK:SPat:=⟨[(1,.ptr 1 0),(2,.ptr 2 0),(24,.ar 7024),(25,.i .i64),(26,.i .i64)],[.box 1 (pl HW),.box 2 (pl dj),.spl 7024 cv]⟩
abbrev Z3:SPat:=⟨[(1,.ptr 1 0),(2,.ptr 2 0),(3,.i .i64),(24,.ar 7024),(25,.i .i64),(26,.i .i64),(48,.sl de),(49,.i .i64),(50,.i .i64)],[.box 1 (pl HW),.box 2 (pl dj),.opn 7024 cv .spl (pl [.i .i64,.i .i64,.i .i64,.i .i64,.i .i64,.s,.own gO ag,.ar 8060]),.spl 8060 de]⟩
abbrev Z4:SPat:=⟨[(1,.ptr 1 0),(2,.ptr 2 0)],[.box 1 (pl HV),.box 2 (pl dj)]⟩
def Z5:Nat->Option SPat:=fun k=>bif k==3 then U CK else bif k==7 then U Z3 else bif k==2000000 then U Z4 else bif k==2000001 then U CK else bif k==2000002 then U CK else aj
def Z6:Nat->List Nat×bc:=fun id=>bif id==3000009 then([5000000],.fin)else bif id==3000005 then([5000000],.fin)else bif id==1 then([0,1,3,4,6,7,9,10],(.br 2 [1,0] [3,4,6,7,9,10] [12] (.br 5 j_ [6,7,9,10,12] [] (.br 8 mh [9,10,12] [] (.br 11 fw [12] [] (.br 13 iP [] [14] (.br 15 oS [] [16] (.br 17 iu [] [18] (.br 19 [18,17,16,15,14,13,12,11,10,9,8,7,6,5,4,3,2,1,0] [] [] .fin .fin) .fin) .fin) .fin) .fin) .fin) .fin) .fin))else bif id==5 then([0,1,2,3,4,5,6,7,9,10],(.br 8 [7,6] [0,1,2,3,4,5,9,10] [] (.br 11 [10,9,8,7,6] gQ [12,13] (.br 14 [13,12,11,10,9,8,7,6,2,1,0] [3,4,5] [15,16] (.br 17 iu [] [] .fin .fin) .fin) .fin) .fin))else bif id==9 then([0,1,2,3,4,5,6,7,8,9,10,11,12,13,14,15,17,18],(.br 16 [15,14] [0,1,2,3,4,5,6,7,8,9,10,11,12,13,17,18] [] (.br 19 [18,17,16,15,14] [0,1,2,3,4,5,6,7,8,9,10,11,12,13] [20,21] (.br 22 [21,20,19,18,17,16,15,14,12,11,10,9,8,7,6,5,4,3,2,1,0] [13] [23,24] (.br 25 BX [] [] .fin .fin) .fin) .fin) .fin))else([],.fin)
def yv:Cls->Option Cls:=fun(a,b,c,d,e,f,g)=>ai (CE a) fun a=>ak (ak (af (aa (e=e)) (U ())) (ak (af (aa (f=f)) (U ())) (ak (af (aa (g=g)) (U ())) (U ())))) (ai (CF e) fun e=>ak (ak (af (aa (f=f)) (U ())) (ak (af (aa (g=g)) (U ())) (U ()))) (ai (CG f) fun f=>ak (ak (af (aa (g=g)) (U ())) (U ())) (ai (CH g) fun g=>bindE (Y :=  Cls×Cls) (aD (fun(a,b,(c,d,e,f,g,h),(i,j,k,l,m,n,o),p,q)=>ah (aa (b<a)) (bindE (Y:=Int×Int×(List Cst×Int×Int×Int×List Int×List Fld)×Cls×List Mth×Nat) (af (aa (0<=b)&&aa (b<(p.length:Int))) (af (aa (q<=aH b)) (aq p b.toNat fun r=>ai (CI r.2.2.2.2.2.2.1) fun s=>ak (ak (af (aa (b=b)) (U ())) (ak (af (aa (b=b)) (U ())) (ak (af (aa (r.2.2.2.2.2.2.2=r.2.2.2.2.2.2.2)) (U ())) (U ())))) (ai (CJ r.2.2.2.2.2.2.2) fun t=>ak (ak (af (aa (b=b)) (U ())) (ak (af (aa (b=b)) (U ())) (U ()))) (af (aa (0<=b)&&aa (b<(p.length:Int))) (af (aa (q=aH b)) (aq p b.toNat fun q=>af (aa (aH b=aH b)&&aa (aH b<p.length)) (ak (ak (af (aa (b=b)) (U ())) (U ())) (af (aa (0<=b)&&aa (b<(p.length:Int))) (af (aa (aH b=aH b)&&aa (aH b<p.length)) (bindE (Y:=Int×Int×(List Cst×Int×Int×Int×List Int×List Fld)×Cls×List Mth×Nat) (af (aa (aH b=aH b)&&aa (aH b<p.length)) (af (aa (aH b=aH b)&&aa (aH b<p.length)) (aD (fun(a,b,c,d,e,f,(g,h,i,j,k,l),(m,n,o,p,q,r,s),(t,u,v,w,x,y,z,A,B),C,D)=>ah (aa (f<e)) (af (aa (0<=f)) (aq d f.toNat fun E=>af (aa (0<=a)&&aa (a<(t.length:Int))) (af (aa (aH a=u)&&aa (u<t.length)) (af (aa (aH a=u)&&aa (u<t.length)) (af (aa (0<=a)&&aa (a<(t.length:Int))) (af (aa (aH a=u)&&aa (u<t.length)) (af (aa (aH a=u)&&aa (u<t.length)) (ai (yu E.2.1) fun G=>let H:=af (aa (aH a=u)&&aa (u<t.length)) (af (aa (aH a=u)&&aa (u<t.length)) (af (aa (aH a=u)&&aa (u<t.length)) (U ())));ak (ak (af (aa (a=a)) (U ())) (ak (af (aa (0<=a)&&aa (a<(t.length:Int))) (af (aH a==aH a&&ad) (U ()))) (ak (af (aH a==aH a&&ad) (U ())) (ak H (ak (af (aa (f=f)) (U ())) (ak (af (aa (a=a)) (U ())) (ak (af (aa (0<=a)&&aa (a<(t.length:Int))) (af (aH a==aH a&&ad) (U ()))) (ak (af (aH a==aH a&&ad) (U ())) (ak H (ak (af (aa (f=f)) (U ())) (ak (af (aa (E.2.2=E.2.2)) (U ())) (U ())))))))))))) (ai (yu E.2.2) fun E=>ak (ak (af (aa (a=a)) (U ())) (ak (af (aa (0<=a)&&aa (a<(t.length:Int))) (af (aH a==aH a&&ad) (U ()))) (ak (af (aH a==aH a&&ad) (U ())) (ak H (ak (af (aa (f=f)) (U ())) (ak (af (aa (a=a)) (U ())) (ak (af (aa (0<=a)&&aa (a<(t.length:Int))) (af (aH a==aH a&&ad) (U ()))) (ak (af (aH a==aH a&&ad) (U ())) (ak H (ak (af (aa (f=f)) (U ())) (U ()))))))))))) (af (aa (0<=f)&&aa (f<(C.length:Int))) (af (aa (D=aH f)) (aq C f.toNat fun D=>af (aa (aH f=aH f)&&aa (aH f<C.length)) (ak (ak (af (aa (f=f)) (U ())) (U ())) (af (aa (0<=f)&&aa (f<(C.length:Int))) (af (aa (aH f=aH f)&&aa (aH f<C.length)) (af (aa (u=u)&&aa (u<t.length)) (af (aa (aH f<C.length)) (U (an (a,b,c,d,e,wrap .i64 (f+1),(g,h,i,j,k,l),(m,n,o,p,q,r,s),(t,u,v,w,x,y,z,A,B),List.set C f.toNat (D.1,G,E),aH f+1)))))))))))))))))))) (jH (af (aa (D=C.length)) (af (aa (u<t.length)) (af (aa (u=u)&&aa (u<t.length)) (af (aa (u<t.length)) (U (an (b,c,(g,h,i,j,k,l),(m,n,o,p,q,r,s),List.set t u (v,w,x,y,z,A,B,C),u+1))))))))) ((b,a,b,r.2.2.2.2.2.2.2,(r.2.2.2.2.2.2.2.length:Int),(0:Int),(c,d,e,f,g,h),(i,j,k,l,m,n,o),(p,aH b,q.1,q.2.1,q.2.2.1,q.2.2.2.1,q.2.2.2.2.1,q.2.2.2.2.2.1,s),t,nat_lit 0))))) fun(a,b,(c,d,e,f,g,h),(i,j,k,l,m,n,o),p,q)=>U (an (a,b,(c,d,e,f,g,h),(i,j,k,l,m,n,o),p,q))))))))))))) fun(a,b,(c,d,e,f,g,h),(i,j,k,l,m,n,o),p,q)=>U (an (a,wrap .i64 (b+1),(c,d,e,f,g,h),(i,j,k,l,m,n,o),p,q))) (jH (af (aa (q=p.length)) (U (an ((c,d,e,f,g,h,p),i,j,k,l,m,n,o)))))) (((g.length:Int),(0:Int),(a,b,c,d,e,f),([],(0:Int),(0:Int),(0:Int),[],[],[]),g,nat_lit 0))) fun((a,b,c,d,e,f,g),_,_,_,_,_,_,_)=>U ((a,b,c,d,e,f,g)))))
def tb92:=ax 92 (az 92 ad [] iz Z2 yv [.cell 2 34] 82 []) tb185
def Z7:zTb tb92:=aB Z1 Z6 Z5 func92 rfl call92
def Z8:Nat->Option SPat:=fun k=>bif k==4 then U IW else bif k==2000000 then U dD else aj
def Z9:Nat->List Nat×bc:=fun id=>bif id==6 then(lz,.fin)else([],.fin)
def yw:List Fld×List Fld->Option Bool:=fun(a,b)=>
 ah (!aa ((a.length:Int)=(b.length:Int)))
 (U ag)
 (bindE (aD (fun(a,b,c,d)=>
 ah (aa (d<c))
 (af (aa (0<=d)) (aq a d.toNat fun e=>af (aa (0<=d)) (aq b d.toNat fun f=>ah (!(aa (e.1=f.1)&&(aa (e.2.1=f.2.1)&&(aa (e.2.2=f.2.2)&&ad))))
 (U (ao (ao ag)))
 (U (an (a,b,c,wrap .i64 (d+1)))))))
 (U (ao (an ())))) ((a,b,(a.length:Int),(0:Int)))) fun _=>
 U ad)
def tb253:=ax 253 (az 253 ad [] IV dx yw [.tmp 4] 26 []) tb92
def Z_:zTb tb253:=aB Z7 Z9 Z8 func253 rfl call253
abbrev Jl:SPat:=⟨[(0,.sl bu),(3,.s),(11,.sl bu),(12,.i .i64),(13,.i .i64)],[]⟩
abbrev zNE:SPat:=⟨[(0,.sl bu),(3,.s)],[]⟩
def zaa:Nat->Option SPat:=fun k=>bif k==5 then U Jl else bif k==2000000 then U zNE else bif k==2000002 then U Jl else aj
def zab:Nat->List Nat×bc:=fun id=>bif id==11 then([0,1,2,4,5],(.br 3 [2,1] [0,4,5] [] (.br 6 mi [0] [7,8] (.br 9 gR [] [] .fin .fin) .fin) .fin))else bif id==13 then([0,1,2,4,5],(.br 3 [2,1] [0,4,5] [] (.br 6 mi [0] [7,8] (.br 9 gR [] [] .fin .fin) .fin) .fin))else([],.fin)
def tV:List Fld->Option zBy:=fun a=>
 ah (aa (120<(a.length:Int)))
 (U ([]))
 (bindE (Y:=List Fld×zBy) (aD (fun(a,b,c,d,e)=>
 ah (aa (e<d))
 (af (aa (0<=e)) (aq c e.toNat fun f=>ai (qL f.2.1) fun g=>
 bindE (Y:=List Fld×zBy×List Fld×Int×Int) (ah (aa (g=0))
 (ai (ef f.2.1) fun f=>
 af (aa (b.length+f.length<=9223372036854775807)) (U (an (a,b++f,c,d,e))))
 (ah (aa (g=1))
 (ai (ef f.2.1) fun g=>
 ak (ak (af (aa (b=b)) (U ())) (ak (af (aa (f.2.2=f.2.2)) (U ())) (U ()))) (ai (ef f.2.2) fun f=>
 ak (ak (af (aa (b=b)) (U ())) (U ())) (af (aa (g.length+f.length<=9223372036854775807)) (af (aa (b.length+au (g++f)<=9223372036854775807)) (U (an (a,b++(g++f),c,d,e)))))))
 (ah (aa (g=2))
 (ai (ef f.2.1) fun g=>
 ak (ak (af (aa (b=b)) (U ())) (ak (af (aa (f.2.2=f.2.2)) (U ())) (U ()))) (ai (eR f.2.2) fun f=>
 ak (ak (af (aa (b=b)) (U ())) (U ())) (af (aa (g.length+f.length<=9223372036854775807)) (af (aa (b.length+au (g++f)<=9223372036854775807)) (U (an (a,b++(g++f),c,d,e)))))))
 (U (an (a,b,c,d,e)))))) fun(a,b,c,d,e)=>
 U (an (a,b,c,d,wrap .i64 (e+1)))))
 (U (ao (an (a,b))))) ((a,[],a,(a.length:Int),(0:Int)))) fun(a,b)=>
 ai (nL b) fun(c,d)=>
 ah (!d)
 (U ([]))
 (ai (yw (c,a)) fun a=>
 ah (!a)
 (U ([]))
 (U b)))
def tb195:=ax 195 (az 195 ad [] B5 fG tV [.tmp 2] 64 []) tb253
def zac:zTb tb195:=aB Z_ zab zaa func195 rfl call195
abbrev zad:SPat:=⟨[(2,.ptr 2 0)],[.box 2 (pl cB)]⟩
abbrev Jm:SPat:=⟨[(1,.ptr 1 0),(2,.ptr 2 0),(3,.ar 3),(5,.own (.int .i64) ad),(6,.own bu ad),(7,.i .i64),(32,.ar 3),(33,.i .i64),(34,.i .i64)],[.box 1 (pl cB),.box 2 (pl gS),.arr 3 bu ad]⟩
abbrev Jn:SPat:=⟨[(1,.ptr 1 0),(2,.ptr 2 0),(5,.own (.int .i64) ad),(6,.ar 6),(73,.ar 6),(74,.i .i64),(75,.i .i64)],[.box 1 (pl cB),.box 2 (pl gS),.arr 6 bu ad]⟩
abbrev Jo:SPat:=⟨[(1,.ptr 1 0),(2,.ptr 2 0),(5,.own (.int .i64) ad),(12,.ptr 12 0),(107,.sl gO),(108,.i .i64),(109,.i .i64)],[.box 1 (pl cB),.box 2 (pl gS),.box 12 (pl gS)]⟩
abbrev zae:SPat:=⟨[(2,.ptr 2 0),(5,.own (.int .i64) ad),(12,.ptr 12 0),(144,.sl de),(145,.i .i64),(146,.i .i64)],[.box 2 (pl gS),.box 12 (pl gS)]⟩
abbrev zNf:SPat:=⟨[(1,.ptr 1 0),(2,.ptr 2 0),(3,.ar 3),(5,.own (.int .i64) ad),(6,.own bu ad),(7,.i .i64),(9,.ptr 9 0),(32,.ar 3),(33,.i .i64),(34,.i .i64)],[.box 1 (pl cB),.box 2 (pl gS),.arr 3 bu ad,.box 9 (pl cG)]⟩
abbrev zNe:SPat:=⟨[(2,.ptr 2 0),(5,.own (.int .i64) ad),(12,.ptr 12 0),(16,.ptr 16 0),(17,.i .i64),(144,.sl de),(145,.i .i64),(146,.i .i64),(172,.b)],[.box 2 (pl gS),.box 12 (pl gS),.box 16 (pl wz)]⟩
abbrev zNd:SPat:=⟨[(2,.ptr 2 0),(5,.own (.int .i64) ad),(12,.ptr 12 0),(16,.ptr 16 0),(144,.sl de),(145,.i .i64),(146,.i .i64)],[.box 2 (pl gS),.box 12 (pl gS),.box 16 (pl wz)]⟩
abbrev zNc:SPat:=⟨[(1,.ptr 1 0),(2,.ptr 2 0),(5,.own (.int .i64) ad),(6,.own bu ad),(7,.i .i64)],[.box 1 (pl cB),.box 2 (pl gS)]⟩
abbrev zNb:SPat:=⟨[(1,.ptr 1 0),(2,.ptr 2 0),(5,.own (.int .i64) ad),(6,.own bu ad)],[.box 1 (pl cB),.box 2 (pl gS)]⟩
abbrev zNZ:SPat:=⟨[(1,.ptr 1 0),(2,.ptr 2 0),(5,.own (.int .i64) ad),(12,.ptr 12 0)],[.box 1 (pl cB),.box 2 (pl gS),.box 12 (pl gS)]⟩
abbrev zNY:SPat:=⟨[(2,.ptr 2 0),(12,.ptr 12 0)],[.box 2 (pl gS),.box 12 (pl gS)]⟩
def zaf:Nat->Option SPat:=fun k=>bif k==8 then U Jm else bif k==18 then U Jn else bif k==25 then U Jo else bif k==32 then U zae else bif k==1000012 then U zNf else bif k==1000037 then U zNe else bif k==1000038 then U zNd else bif k==2000000 then U zNc else bif k==2000001 then U Jm else bif k==2000002 then U zNb else bif k==2000003 then U Jn else bif k==2000004 then U zNZ else bif k==2000005 then U Jo else bif k==2000006 then U zNY else aj
def zag:Nat->List Nat×bc:=fun id=>bif id==23 then(nB,(.br 11 [10] nA [12] (.br 13 [] [0,1,2,3,4,5,6,7,8,9,10,12] [] (.br 14 eK [] [] .fin .fin) .fin) (.br 13 [] nB [] (.br 11 [10] nA [12] (.br 14 eK [] [] .fin .fin) .fin) .fin)))else bif id==27 then(BT,(.br 16 [15,12,11,7,6,4,3,2,1,0] [5,8,9,10,13,14] [17] (.br 18 [17,16,15,12,11,9,8,7,6,5,4,3,2,1,0] [10,13,14] [19] (.br 20 HU [] [] .fin .fin) .fin) .fin))else bif id==36 then([0,1,2,3,4,5,6,7,8,9,10,11,12,13],.fin)else([],.fin)
def tW:Mth->Option Mth:=fun(a,b,c,d,e,f,g,h)=>ai (nL f) fun(i,j)=>ah (!j) (U ((a,b,c,d,e,f,g,h))) (af (aa (wrap .i64 ((f.length:Int)+1)=wrap .i64 ((f.length:Int)+1))&&aa (0<=wrap .i64 ((f.length:Int)+1))&&aa (wrap .i64 ((f.length:Int)+1)<=9223372036854775807)&&aa (wrap .i64 ((f.length:Int)+1)*8<=140737488355328)) (bindE (Y:=List Int×List Fld×Int×Mth×Mth) (aD (fun(a,b,c,d,e,(f,g,h,i,j,k,l,m),(n,o,p,q,r,s,t,u),v)=>ah (aa (e<d)) (bindE (Y:=List Int×List Fld×Int×Int×Int×Mth×Mth×List Fld) (af (aa (0<=e)&&aa (e<(v.length:Int))) (aq v e.toNat fun w=>af (aa (0<=w.1)&&aa (w.1<(a.length:Int))) (aq a w.1.toNat fun _=>bindE (Y:=List Int×List Fld×Int×Int×Int×Mth×Mth×List Fld×Int×Int×Int) (let x:=U (an (List.set a w.1.toNat c,b,c,d,e,(f,g,h,i,j,k,l,m),(n,o,p,q,r,s,t,u),v,w.1,w.2.1,w.2.2));ah (aa (w.2.1=0)) (ah (aa (e<wrap .i64 ((v.length:Int)-1))) (U (ao (an (List.set a w.1.toNat c,b,c,d,e,(f,g,h,i,j,k,l,m),(n,o,p,q,r,s,t,u),v)))) x) x) fun(a,b,c,d,e,(f,g,h,i,j,k,l,m),(n,o,p,q,r,s,t,u),v,_,w,x)=>af (aa (b.length+1<=9223372036854775807)&&aa ((b.length+1)*24<=140737488355328)) (ai (qL w) fun y=>U (an (a,b++[(c,w,x)],wrap .i64 (c+wrap .i64 ((1:Int)+y)),d,e,(f,g,h,i,j,k,l,m),(n,o,p,q,r,s,t,u),v)))))) fun(a,b,c,d,e,(f,g,h,i,j,k,l,m),(n,o,p,q,r,s,t,u),v)=>U (an (a,b,c,d,wrap .i64 (e+1),(f,g,h,i,j,k,l,m),(n,o,p,q,r,s,t,u),v))) (U (ao (an (a,b,c,(f,g,h,i,j,k,l,m),n,o,p,q,r,s,t,u))))) ((List.replicate (aH (wrap .i64 ((f.length:Int)+1))) (0:Int),[],(0:Int),(i.length:Int),(0:Int),(a,b,c,d,e,f,g,h),((0:Int),(0:Int),(0:Int),(0:Int),(0:Int),[],[],[]),i))) fun(a,b,c,(d,e,f,g,h,i,j,k),l,m,n,o,p,q,r,s)=>af (aa (0<=(i.length:Int))&&aa ((i.length:Int)<(a.length:Int))) (aq a (aH (i.length:Int)) fun _=>bindE (Y:=List Int×List Fld×Mth×Mth) (aD (fun(a,b,c,(d,e,f,g,h,i,j,k),(l,m,n,o,p,q,r,s),t)=>ah (aa (c<b)) (bindE (Y:=List Int×Int×Int×Mth×Mth×List Fld) (af (aa (0<=c)&&aa (c<(t.length:Int))) (aq t c.toNat fun u=>ai (pc u.2.1) fun v=>ah v (af (aa (0<=u.2.2)&&aa (u.2.2<(a.length:Int))) (aq a u.2.2.toNat fun u=>af (aa (0<=c)&&aa (c<(t.length:Int))) (aq t c.toNat fun v=>U (an (a,b,c,(d,e,f,g,h,i,j,k),(l,m,n,o,p,q,r,s),List.set t c.toNat (v.1,v.2.1,u)))))) (U (an (a,b,c,(d,e,f,g,h,i,j,k),(l,m,n,o,p,q,r,s),t))))) fun(a,b,c,(d,e,f,g,h,i,j,k),(l,m,n,o,p,q,r,s),t)=>U (an (a,b,wrap .i64 (c+1),(d,e,f,g,h,i,j,k),(l,m,n,o,p,q,r,s),t))) (U (ao (an (a,t,(d,e,f,g,h,i,j,k),l,m,n,o,p,q,r,s))))) ((List.set a (aH (i.length:Int)) c,(b.length:Int),(0:Int),(d,e,f,g,h,i,j,k),(l,m,n,o,p,q,r,s),b))) fun(a,b,(c,d,e,f,g,h,i,j),k,l,m,n,o,p,q,r)=>let a:=fun(b:zBy)=>bindE (Y:=List Int×Mth×Mth×Mth) (aD (fun(a,b,c,d,(e,f,g,h,i,j,k,l),(m,n,o,p,q,r,s,t),u,v,w,x,y,z,A,B)=>ah (aa (d<c)) (bindE (Y:=List Int×List Trp×Int×Int×Mth×Mth×Mth) (af (aa (0<=d)) (aq b d.toNat fun C=>af (aa (0<=C.1)&&aa (C.1<(a.length:Int))) (aq a C.1.toNat fun D=>af (aa (0<=C.2.1)&&aa (C.2.1<(a.length:Int))) (aq a C.2.1.toNat fun E=>af (aa (0<=C.2.2.1)&&aa (C.2.2.1<(a.length:Int))) (aq a C.2.2.1.toNat fun G=>let H:=ak (af (aa (0<=C.2.2.1)&&aa (C.2.2.1<(a.length:Int))) (af (C.2.2.1.toNat==C.2.2.1.toNat&&ad) (U ()))) (ak (aq a C.2.2.1.toNat fun a=>af (aa (a=G)) (U ())) (U ()));ak (ak (af (aa (0<=C.2.1)&&aa (C.2.1<(a.length:Int))) (af (C.2.1.toNat==C.2.1.toNat&&ad) (U ()))) (ak (aq a C.2.1.toNat fun a=>af (aa (a=E)) (U ())) H)) (ak H (ah (aa (D<E)) (af (aa (A.length+1<=9223372036854775807)&&aa ((A.length+1)*32<=140737488355328)) (U (an (a,b,c,d,(e,f,g,h,i,j,k,l),(m,n,o,p,q,r,s,t),u,v,w,x,y,z,A++[(D,E,G,C.2.2.2)],B)))) (U (an (a,b,c,d,(e,f,g,h,i,j,k,l),(m,n,o,p,q,r,s,t),u,v,w,x,y,z,A,B)))))))))) fun(a,b,c,d,(e,f,g,h,i,j,k,l),(m,n,o,p,q,r,s,t),u,v,w,x,y,z,A,B)=>U (an (a,b,c,wrap .i64 (d+1),(e,f,g,h,i,j,k,l),(m,n,o,p,q,r,s,t),u,v,w,x,y,z,A,B))) (U (ao (an (a,(e,f,g,h,i,j,k,l),(m,n,o,p,q,r,s,t),u,v,w,x,y,z,A,B))))) ((a,i,(i.length:Int),(0:Int),(c,d,e,f,g,h,i,j),(k,l,m,n,o,p,q,r),c,d,e,f,g,b,[],[]))) fun(a,(_,_,_,_,_,_,_,b),(c,d,e,f,g,h,i,j),k,l,m,n,o,p,q,r)=>bindE (Y :=  Mth×Mth) (aD (fun(a,b,c,d,(e,f,g,h,i,j,k,l),m,n,o,p,q,r,s,t)=>ah (aa (d<c)) (af (aa (0<=d)) (aq b d.toNat fun u=>af (aa (0<=u.1)&&aa (u.1<(a.length:Int))) (aq a u.1.toNat fun v=>bindE (Y:=List Int×List Frm×Int×Int×Mth×Mth×Frm) (bindE (Y:=List Int×Int×List Frm×Int×Int×Bool×Mth×Mth×Frm) (ah (aa (0<(t.length:Int))) (af (aa (0<=wrap .i64 ((t.length:Int)-1))&&aa (wrap .i64 ((t.length:Int)-1)<(t.length:Int))) (aq t (aH (wrap .i64 ((t.length:Int)-1))) fun w=>U (an (a,(t.length:Int),b,c,d,aa (w.1=v),(e,f,g,h,i,j,k,l),(m,n,o,p,q,r,s,t),v,u.2.1,u.2.2)))) (U (an (a,(t.length:Int),b,c,d,ag,(e,f,g,h,i,j,k,l),(m,n,o,p,q,r,s,t),v,u.2.1,u.2.2)))) fun(a,b,c,d,e,f,(g,h,i,j,k,l,m,n),(o,p,q,r,s,t,u,v),w,x,y)=>ah f (af (aa (0<=wrap .i64 (b-1))&&aa (wrap .i64 (b-1)<=(v.length:Int))) (U (an (a,c,d,e,(g,h,i,j,k,l,m,n),(o,p,q,r,s,t,u,kZ (0:Nat) (nY (aH (wrap .i64 (b-1))) v)),w,x,y)))) (U (an (a,c,d,e,(g,h,i,j,k,l,m,n),(o,p,q,r,s,t,u,v),w,x,y)))) fun(a,b,c,d,(e,f,g,h,i,j,k,l),(m,n,o,p,q,r,s,t),u,v,w)=>af (aa (t.length+1<=9223372036854775807)&&aa ((t.length+1)*56<=140737488355328)) (U (an (a,b,c,wrap .i64 (d+1),(e,f,g,h,i,j,k,l),m,n,o,p,q,r,s,t++[(u,v,w)])))))) (U (ao (an ((e,f,g,h,i,j,k,l),m,n,o,p,q,r,s,t))))) ((a,b,(b.length:Int),(0:Int),(c,d,e,f,g,h,i,j),k,l,m,n,o,p,q,r))) fun((_,_,_,_,_,_,_,_),a,b,c,d,e,f,g,h)=>U ((a,b,c,d,e,f,g,h));let h:=ak (af (aa (c=c)) (U ())) (ak (af (aa (d=d)) (U ())) (ak (af (aa (e=e)) (U ())) (ak (af (aa (f=f)) (U ())) (ak (af (aa (g=g)) (U ())) (U ())))));cm (ai (tV b) fun b=>ak h (ak (ak (af (aa (c=c)) (U ())) (ak (af (aa (d=d)) (U ())) (ak (af (aa (e=e)) (U ())) (ak (af (aa (f=f)) (U ())) (ak (af (aa (g=g)) (U ())) (ak (af (aa (c=c)&&(aa (d=d)&&(aa (e=e)&&(aa (f=f)&&(aa (g=g)&&(aa (b=b)&&ad)))))) (U ())) (U ()))))))) (a b))) (ak h (ai (tV b) fun b=>ak h (a b))))))
def tb103:=ax 103 (az 103 ag [] Ic zad tW [.cell 2 53] 187 []) tb195
def zah:zTb tb103:=aB zac zag zaf func103 rfl call103
abbrev zai:SPat:=⟨[(2,.ptr 2 0)],[.box 2 (pl HX)]⟩
abbrev Jp:SPat:=⟨[(2,.ptr 2 0),(3,.ptr 3 0),(13,.ar 7013),(14,.i .i64),(15,.i .i64)],[.box 2 (pl dj),.box 3 (pl [.own cz ag,.i .i64,.i .i64,.i .i64,.own (.int .i64) ag,.own bu ag,.ar 7013]),.arr 7013 cv ag]⟩
abbrev zPY:SPat:=⟨[(2,.ptr 2 0),(3,.ptr 3 0)],[.box 2 (pl dj),.box 3 (pl HX)]⟩
def zaj:Nat->Option SPat:=fun k=>bif k==5 then U Jp else bif k==2000000 then U zPY else bif k==2000001 then U Jp else aj
def zak:Nat->List Nat×bc:=fun id=>bif id==3000004 then([8000000],.fin)else bif id==8 then([0,1,2,3],(.br 4 [3] [0,1,2] [5] (.br 6 [5,4,3,2,1,0] [] [] .fin .fin) .fin))else([],.fin)
def qP:Cls->Option Cls:=fun(a,b,c,d,e,f,g)=>
 ai (qM (a,b,c,d,e,f,g)) fun h=>
 ah (!aa (h=0))
 (U (([],(0:Int),(0:Int),(0:Int),[],[],[])))
 (ai (yv (a,b,c,d,e,f,g)) fun(a,b,c,d,e,f,g)=>
 bindE (Y :=  Cls×Cls) (aD (fun(a,b,(c,d,e,f,g,h,i),(j,k,l,m,n,o),p)=>
 ah (aa (b<a))
 (bindE (Y:=Int×Int×Cls×(List Cst×Int×Int×Int×List Int×List Fld)×List Mth) (af (aa (0<=b)&&aa (b<(p.length:Int))) (aq p b.toNat fun q=>ai (kf q.1) fun r=>
 ah (!r)
 (ai (tW (q.1,q.2.1,q.2.2.1,q.2.2.2.1,q.2.2.2.2.1,q.2.2.2.2.2.1,q.2.2.2.2.2.2.1,q.2.2.2.2.2.2.2)) fun(q,r,s,t,u,v,w,x)=>
 ak (ak (af (aa (b=b)) (U ())) (U ())) (af (aa (0<=b)&&aa (b<(p.length:Int))) (aq p b.toNat fun _=>U (an (a,b,(c,d,e,f,g,h,i),(j,k,l,m,n,o),List.set p b.toNat (q,r,s,t,u,v,w,x))))))
 (U (an (a,b,(c,d,e,f,g,h,i),(j,k,l,m,n,o),p))))) fun(a,b,(c,d,e,f,g,h,i),(j,k,l,m,n,o),p)=>
 U (an (a,wrap .i64 (b+1),(c,d,e,f,g,h,i),(j,k,l,m,n,o),p)))
 (U (ao (an ((c,d,e,f,g,h,i),j,k,l,m,n,o,p))))) (((g.length:Int),(0:Int),([],(0:Int),(0:Int),(0:Int),[],[],[]),(a,b,c,d,e,f),g))) fun((_,_,_,_,_,_,_),a,b,c,d,e,f,g)=>
 U ((a,b,c,d,e,f,g)))
def tb38:=ax 38 (az 38 ag [] iz zai qP [.cell 2 34] 32 []) tb103
def zal:zTb tb38:=aB zah zak zaj func38 rfl call38
abbrev Jq:SPat:=⟨[(3,.ptr 3 0),(4,.i .i64),(5,.own (.int .i64) ad),(6,.i .i64)],[.box 3 (pl bX)]⟩
abbrev zPb:SPat:=⟨[(3,.ptr 3 0),(4,.i .i64),(5,.own (.int .i64) ad),(28,.b)],[.box 3 (pl bX)]⟩
abbrev zPa:SPat:=⟨[(3,.ptr 3 0),(4,.i .i64),(5,.own (.int .i64) ad)],[.box 3 (pl bX)]⟩
def Jr:Nat->Option SPat:=fun k=>bif k==8 then U Jq else bif k==1000006 then U zPb else bif k==2000000 then U zPa else bif k==2000001 then U Jq else aj
def Ju:Nat->List Nat×bc:=fun id=>bif id==3000003 then([6000000],.fin)else bif id==10 then(BU,.fin)else([],.fin)
def mz:zBy->Option Bool:=fun a=>
 ah (aa (1048576<(a.length:Int)))
 (U ad)
 (ai (xD a) fun(a,b,c,d,e,f,g,h)=>
 ai (tR ((b,c,d,e,f,g,h),a)) fun i=>
 bindE (Y:=Int×List Int×Bool×Cls) (ai (tT ((b,c,d,e,f,g,h),a)) fun j=>
 ai (tU (i,j)) fun j=>
 ah (!j)
 (U (an (a,i,ad,b,c,d,e,f,g,h)))
 (U (an (a,i,aa ((i.length:Int)=0),b,c,d,e,f,g,h)))) fun(a,b,c,d,e,f,g,h,i,j)=>
 ah (c)
 (ai (tT ((d,e,f,g,h,i,j),a)) fun a=>
 ai (tU (b,a)) fun a=>
 U a)
 (bindE (Y:=Int×List Int×Cls) (aD (fun(a,b,c,d,e,f,g,h,i,j)=>
 ah (aa (c<(b.length:Int)))
 (bindE (Y:=Int×List Int×Int×Cls) (af (aa (0<=c)&&aa (c<(b.length:Int))) (aq b c.toNat fun k=>ah (aa (k < -1))
 (U (ao (ao (ao ag))))
 (af (aa (0<=c)&&aa (c<(b.length:Int))) (aq b c.toNat fun k=>af (aa (0<=a)) (aq j a.toNat fun l=>ah (aa (l.2.2.2.1<k))
 (U (ao (ao (ao ag))))
 (U (an (a,b,c,d,e,f,g,h,i,j)))))))) fun(a,b,c,d,e,f,g,h,i,j)=>
 U (an (a,b,wrap .i64 (c+1),d,e,f,g,h,i,j)))
 (U (ao (an (a,b,d,e,f,g,h,i,j))))) ((a,b,(0:Int),d,e,f,g,h,i,j))) fun(a,b,c,d,e,f,g,h,i)=>
 af (aa (0<(b.length:Int))) (aq b (nat_lit 0) fun j=>ah (aa (j=0))
 (ai (qP (c,d,e,f,g,h,i)) fun(c,d,e,f,g,h,i)=>
 ai (tR ((c,d,e,f,g,h,i),a)) fun a=>
 U (aa ((a.length:Int)<=(b.length:Int))))
 (U ag))))
def r11 x:qs T tb38 Ju 72 Jr (BP Tryz.f11) sT eZ x=mz x:=by kernel_rfl
def te11:=az 11 ad [] sT eZ mz [.tmp 2] 72 []
def tX:jC Tryz.prog 11 te11.W:=wm zal wo wB ad _ sT eZ [] Ju Jr func11 rfl results11 ntmps11 (by kernel_rfl) (by kernel_rfl) call11 mz fun x _ h=>(r11 x).trans h
end
section
open Go Go.AM Go.TM Go.RowKit Go.ChangeShapes Go.WideShapes Go.ChangeAt
def zam (x:List UInt8)(h:mz x=U ad):AC Tryz.prog 11 (aM ag (.sl .byte) x) [] fun sv _=>sv = .b ad :=
 Ou tX x ad rfl rfl h rfl
set_option maxRecDepth 100000 in
def zan (hall:∀ x:List UInt8,mz x=U ad)(os:Os)(started:os.Started)(H:Type)(enc:TypeId×Value->H) :
  ReturnsInHanded {} Tryz.checked os 11 .any (Rows.fnDeepSpec.pre6 enc Tryz.prog Tryz.f11 [] ag) (Rows.fnDeepSpec.post enc Tryz.prog Tryz.f11 ag ad ag ag):=by
 refine returnsInHanded_of_change_sized (C:=Tryz.checked) own started (by kernel_rfl) Tryz.func11
  (ChangeSpec.witness6 (enc:=enc) (C:=Tryz.checked) ag ⟨#[],#[.slice aj 0 0],[]⟩ 8 (by kernel_rfl) (by kernel_rfl) (by kernel_rfl) (by kernel_rfl)) ?_
 intro W base args ds gs before hval0 hW _ hsz0 _;have hval:∀(j:Nat) t v,Tryz.f11.params[j]? = U t->args[j]? = U v->Value.okWide Tryz.prog W .any base t v:=hval0;have hsz:(DataW.weightsEach Tryz.prog (Tryz.f11.params.toList++[]) (ds++gs)).all (· <= reachBytes)=ad:=hsz0;have hW':=hW;obtain⟨p,q,hA0,hV,rfl,hfz,hnd⟩:=hW;have hA:DataW.TrodAll enc Tryz.prog W 0 (fun _=>ad) ad Tryz.f11.params.toList args.toList ds p:=hA0;rw[Tryz.params11]at hA hval hsz;obtain⟨v0,d0,rfl,rfl,h0⟩:=trodAll_one hA;obtain⟨rfl,rfl⟩:=trodVars_none hV;obtain⟨b0,n0,k0,rfl⟩:=okWide_slice Tryz.underlying22 (hval 0 22 v0 rfl rfl);have h0k:=h0;obtain⟨fuel,ht⟩:=h0
 obtain⟨x,sx,lx,ox,rx⟩:=Oq 8 fuel (.sl .byte) 22 [.slice b0 n0 k0] d0 p Ox ht (fun m hm=>by
  have:=List.all_eq_true.1 hsz m (by simpa[DataW.weightsEach]using hm)
  simpa using this)
 have hlt:∀z∈p,z.block<W.heap.size:=fun z hz=>hW'.lt z (by simpa using hz)
 refine(Ot Tryz.func11 (by kernel_rfl) (by kernel_rfl) (zam x (hall x)) (fun _ _ h=>h) rfl (fun G hG=>rx G hG)).mono fun e W' ⟨he,hb⟩=>?_
 subst he;exact⟨_,rfl,[d0],[],p++[],[],p,[],hW',trodAll_mk1 (shut_bool Tryz.underlying4 ad),trodAll_mk1 (Below.trod Ov (by kernel_rfl) (of_decide_eq_true (by kernel_rfl)) h0k hb hlt),rfl,hb.frame _,fun h=>by cases h⟩
set_option maxHeartbeats 4000000 in
def zao:joinedFacts Tryz.pinned.checked.prog 11 Tryz.f11 Rows.fnDeepSpec Rows.fnDeepRow=ad:=by
 unfold joinedFacts
 repeat' with_reducible apply Oy
 all_goals (as_aux_lemma=>kernel_rfl)
def fnDeep_of (hall:∀ x:List UInt8,mz x=U ad):Rows.FnDeepSaid :=
 OpenClaim.holds_of_wide 11 Tryz.f11 rfl rfl rfl rfl rfl rfl rfl ⟨rfl,rfl,rfl,rfl,rfl⟩ rfl rfl rfl rfl rfl (by kernel_rfl) Tryz.func11 zao
  (of_decide_eq_true (by kernel_rfl)) (by unfold Func.isWrapper;first|(rw[if_pos (by decide +kernel)];kernel_rfl)|(rw[if_neg (by decide +kernel)];exact⟨rfl,rfl⟩))
  (fun os started H enc _=>zan hall os started H enc)
end
end Go.Proofs.YtdpapeledldifaaGreat
section
namespace Go.TM
open Go.AM
section
variable {α β X Y R:Type}{Q:R->Prop}
def ae (r:Option R)(Q:R->Prop):Prop:=∃a,r=U a/\Q a
def ae.ret {a:R}(h:Q a):ae (U a) Q:=⟨a,rfl,h⟩
def ae.mono {r:Option R}{Q':R->Prop}(h:ae r Q)(g:∀ a,Q a->Q' a):ae r Q':=by
 obtain⟨a,e,h⟩:=h;exact⟨a,e,g a h⟩
def ae.bind {x:Option α}{P:α->Prop}{k:α->Option R}(h:ae x P)(hk:∀ a,P a->ae (k a) Q):ae (ai x k) Q:=by
 obtain⟨a,rfl,h⟩:=h;exact hk a h
def aA {t:Bool}{k:Option R}(ht:t=ad)(h:ae k Q):ae (af t k) Q:=by subst ht;exact h
def aw {t:Bool}{a b:Option R}(h1:t=ad->ae a Q)(h2:t=ag->ae b Q):ae (ah t a b) Q:=by
 cases t
 ·exact h2 rfl
 ·exact h1 rfl
def ae.at {l:List α}{n:Nat}{k:α->Option R}(hn:n<l.length)(h:∀ x,l[n]? = U x->ae (k x) Q):ae (aq l n k) Q:=by
 have e:l[n]? = U l[n]:=bt hn;show ae (match l[n]? with|some x=>k x|none=>aj) Q;rw[e];exact h _ e
def cr {l:List α}{n:Nat}{k:α->Option R}{x:α}(e:l[n]? = U x)(h:ae (k x) Q):ae (aq l n k) Q:=by
 show ae (match l[n]? with|some x=>k x|none=>aj) Q;rw[e];exact h
def ae.seq {u:Option Unit}{k:Option R}(h1:ae u fun _=>True)(h:ae k Q):ae (ak u k) Q:=by
 obtain⟨a,rfl,_⟩:=h1;exact h
def ae.bindE {x:Option (Y⊕R)}{k:Y->Option R}(P:Y->Prop)(h:ae x (Sum.elim P Q))(hk:∀ y,P y->ae (k y) Q):ae (bindE x k) Q:=by
 obtain⟨a,rfl,h⟩:=h;cases a with
 |inl y=>exact hk y h
 |inr r=>exact⟨r,rfl,h⟩
def ae.loop {f:X->Option (X⊕R)}(I:X->Prop)(μ:X->Nat)(hs:∀ x,I x->ae (f x) (Sum.elim (fun y=>I y/\μ y<μ x) Q)):∀{x:X},I x->ae (aD f x) Q:=by
 have key:∀n x,μ x<=n->I x->ae (aD f x) Q:=by
  intro n
  induction n with
  | zero=>
    intro x hx hi;obtain⟨a,e,h⟩:=hs x hi;rw[eJ,e];cases a with
    |inl y=>exact absurd h.2 (by omega)
    |inr r=>exact⟨r,rfl,h⟩
  | succ n ih=>
    intro x hx hi;obtain⟨a,e,h⟩:=hs x hi;rw[eJ,e];cases a with
    |inl y=>exact ih y (by have:=h.2;omega) h.1
    |inr r=>exact⟨r,rfl,h⟩
 intro x hi;exact key _ x (bI _) hi
def mA (a:Option R):cm a a=a:=by unfold cm;rw[if_pos rfl]
end
end Go.TM
end
section
namespace Go.TM
open Go.AM
section
variable {R α X Y:Type}
@[simp] def aP (A B:Option R):ah ad A B=A:=rfl
@[simp] def aQ (A B:Option R):ah ag A B=B:=rfl
@[simp] def aF {p:Prop}[Decidable p](A B:Option R):ah (aa p) A B=if p then A else B:=by
  by_cases h:p<;>simp[h]
@[simp] def bT (b:Bool)(A B:Option R):ah (!b) A B=ah b B A:=by cases b<;>rfl
@[simp] def aC (A:Option R):af ad A=A:=rfl
def cd {p:Prop}[Decidable p]{A:Option R}(h:p):af (aa p) A=A:=by simp[h]
def mB (a b:Bool)(A:Option R):af (a&&b) A=af a (af b A):=by cases a<;>rfl
@[simp] def av (a:α)(k:α->Option R):ai (U a) k=k a:=rfl
@[simp] def aJ (y:Y)(k:Y->Option R):bindE (U (.inl y)) k=k y:=rfl
@[simp] def aT (r:R)(k:Y->Option R):bindE (U (.inr r)) k=U r:=rfl
@[simp] def bQ (u:Unit)(k:Option R):ak (U u) k=k:=rfl
@[simp] def Jv (r:R):(jH (U r):Option (Y⊕R))=U (.inr r):=rfl
def pe {l:List α}{n:Nat}{x:α}{k:α->Option R}(h:l[n]? = U x):aq l n k=k x:=by unfold aq;rw[h]
def bE {l:List α}{n:Nat}{k:α->Option R}(h:n<l.length):aq l n k=k l[n]:=pe (bt h)
def eg {c:Prop}[Decidable c](A B:Option (Y⊕R))(k:Y->Option R):bindE (if c then A else B) k=if c then bindE A k else bindE B k:=by split<;>rfl
def kg {l:List α}{n:Nat}(h:n<l.length):l.drop n=l[n]::l.drop (n+1):=List.drop_eq_getElem_cons h
end
end Go.TM
end
section
namespace Go.TM
open Go.AM
section
variable {α β:Type}
end
end Go.TM
end
namespace Go.Proofs.YtdpapeledldifaaGreat
section
open Go Go.AM Go.TM
def mC (c:Cst):Prop:=c.2.1.length<=1048576
def jK (l:List Knd):Prop:=l.length<=1048576
def mD (f:Frm):Prop:=jK f.2.1/\jK f.2.2
def lF (m:Mth):Prop:=m.2.2.2.2.2.1.length<=1048576/\m.2.2.2.2.2.2.1.length<=1048576/\m.2.2.2.2.2.2.2.length<=1048576/\∀f∈m.2.2.2.2.2.2.2,mD f
def fK (c:Cls):Prop:=(c.1.length<=1048576/\∀x∈c.1,mC x)/\c.2.2.2.2.1.length<=1048576/\c.2.2.2.2.2.1.length<=1048576/\c.2.2.2.2.2.2.length<=1048576/\∀x∈c.2.2.2.2.2.2,lF x
end
end Go.Proofs.YtdpapeledldifaaGreat
section
namespace Go.TM
open Go.AM
section
variable {σ α β:Type}
def Sm (Re:σ->Option (List UInt8)->Prop)(r:Option (α×σ))(m:Option (α×List UInt8)):Prop :=
 ∃v s,r=U (v,s)/\Re s (m.map (·.2))/\∀v' l,m=U (v',l)->v=v'
variable {Re:σ->Option (List UInt8)->Prop}
def Sm.bind {r:Option (α×σ)}{m:Option (α×List UInt8)}{k:α×σ->Option (β×σ)}{k':α->List UInt8->Option (β×List UInt8)}(h:Sm Re r m)
  (hk:∀v s st,Re s st->(∀l,st=U l->m=U (v,l))->Sm Re (k (v,s)) (st.bind (k' v))):Sm Re (ai r k) (m.bind fun p=>k' p.1 p.2):=by
 obtain⟨v,s,rfl,h1,h2⟩:=h;rw[av]
 have:=hk v s (m.map (·.2)) h1 (by
  intro l hl;cases m with
  |none=>cases hl
  |some p=>obtain⟨a,b⟩:=p;simp only[Option.map_some,aK]at hl;subst hl;rw[h2 a b rfl])
 cases m with
 |none=>exact this
 | some p=>
   obtain⟨a,b⟩:=p;have e:=h2 a b rfl;subst e;exact this
def Sm.ret {s:σ}{st:Option (List UInt8)}(h:Re s st)(v:α):Sm Re (U (v,s)) (st.bind fun l=>U (v,l)):=by
 refine⟨v,s,rfl,?_,fun v' l hl=>?_⟩
 ·cases st with
  |none=>exact h
  |some l=>exact h
 ·cases st with
  |none=>cases hl
  |some l=>simp only[bh,aK,bH]at hl;exact hl.1
def bZ (g:List UInt8->Option (β×List UInt8)):Nat->List UInt8->Option (List β×List UInt8)
 |0,l=>U ([],l)
 |n+1,l=>(g l).bind fun p=>(bZ g n p.2).bind fun q=>U (p.1::q.1,q.2)
def Jw {g:List UInt8->Option (β×List UInt8)}:∀(n:Nat) (l:List UInt8) (vs:List β) (l':List UInt8),bZ g n l=U (vs,l')->vs.length=n
 |0,l,vs,l',h=>by simp only[bZ,aK,bH]at h;rw[<-h.1];rfl
 | n+1,l,vs,l',h=>by
   simp only[bZ]at h;cases hg:g l with
   |none=>rw[hg]at h;cases h
   | some p=>
     rw[hg]at h;simp only[bh]at h;cases hr:bZ g n p.2 with
     |none=>rw[hr]at h;cases h
     | some q=>
       rw[hr]at h;simp only[bh,aK,bH]at h;rw[<-h.1,bD,Jw n p.2 q.1 q.2 hr]
def Jx {g:List UInt8->Option (β×List UInt8)}{P:β->Prop}(hg:∀ l v l',g l=U (v,l')->P v):∀(n:Nat) (l:List UInt8) (vs:List β) (l':List UInt8),bZ g n l=U (vs,l')->∀v∈vs,P v
 |0,l,vs,l',h=>by simp only[bZ,aK,bH]at h;rw[<-h.1];simp
 | n+1,l,vs,l',h=>by
   simp only[bZ]at h;cases hgl:g l with
   |none=>rw[hgl]at h;cases h
   | some p=>
     rw[hgl]at h;simp only[bh]at h;cases hr:bZ g n p.2 with
     |none=>rw[hr]at h;cases h
     | some q=>
       rw[hr]at h;simp only[bh,aK,bH]at h;rw[<-h.1];intro v hv;simp only[List.mem_cons]at hv;rcases hv with rfl|hv
       ·exact hg l _ _ hgl
       ·exact Jx hg n p.2 q.1 q.2 hr v hv
def zap {X Y:Type}{f:X->Option (X⊕Y)}(mk:List β->Nat->σ->X)(fin:List β->σ->Y)(n:Nat)(g:List UInt8->Option (β×List UInt8))
  (hbad:∀out i s,i<=n->Re s aj->f (mk out i s)=U (.inr (fin out s)))
  (hend:∀out s l,Re s (U l)->f (mk out n s)=U (.inr (fin out s)))
  (hstep:∀out i s l,i<n->out.length=i->Re s (U l)->∃v s',f (mk out i s)=U (.inl (mk (out++[v]) (i+1) s'))/\Re s' ((g l).map (·.2))/\∀v' l',g l=U (v',l')->v=v') :
  ∀(out:List β) (i:Nat) (s:σ) (st:Option (List UInt8)),i<=n->(∀l,st=U l->out.length=i)->Re s st ->
   ∃out' s',aD f (mk out i s)=U (fin out' s')/\Re s' ((st.bind (bZ g (n-i))).map (·.2))/\∀vs l',st.bind (bZ g (n-i))=U (vs,l')->out'=out++vs:=by
 intro out i s st hi;generalize hm:n-i=m
 induction m generalizing out i s st with
 | zero=>
   intro ho h;have:i=n:=by omega
   subst this;rw[eJ];cases st with
   |none=>rw[hbad out i s hi h];exact⟨out,s,rfl,h,fun _ _ h=>by cases h⟩
   | some l=>
     rw[hend out s l h];exact⟨out,s,rfl,h,fun vs l' h=>by simp only[bh,bZ,aK,bH]at h;simp[<-h.1]⟩
 | succ m ih=>
   intro ho h;rw[eJ];cases st with
   |none=>rw[hbad out i s hi h];exact⟨out,s,rfl,h,fun _ _ h=>by cases h⟩
   | some l=>
     obtain⟨v,s',h1,h2,h3⟩:=hstep out i s l (by omega) (ho l rfl) h;rw[h1];obtain⟨out',s'',q1,q2,q3⟩:=ih (out++[v]) (i+1) s' ((g l).map (·.2)) (by omega) (by omega) (by intro l' hl;simp[ho l rfl]) h2;refine⟨out',s'',q1,?_,fun vs l' hv=>?_⟩
     ·cases hg:g l with
      |none=>rw[hg]at q2;simpa[bZ,hg]using q2
      | some p=>
        rw[hg]at q2;simp only[Option.map_some,bh]at q2;simp only[bh,bZ,hg]
        cases hr:bZ g m p.2 with
        |none=>rw[hr]at q2;exact q2
        |some q=>rw[hr]at q2;exact q2
     ·cases hg:g l with
      |none=>simp[bZ,hg]at hv
      | some p=>
        obtain⟨a,b⟩:=p;have e:=h3 a b hg;subst e;rw[hg]at q3;simp only[Option.map_some,bh]at q3;simp only[bh,bZ,hg]at hv;cases hr:bZ g m b with
        |none=>rw[hr]at hv;cases hv
        | some q=>
          rw[hr]at hv;simp only[bh,aK,bH]at hv;rw[q3 q.1 q.2 hr,<-hv.1];simp
end
def g1:List UInt8->Option (Int×List UInt8)
 |[]=>aj
 |x::l=>U ((x.toNat:Int),l)
def g2 (l:List UInt8):Option (Int×List UInt8):=(g1 l).bind fun p=>(g1 p.2).bind fun q=>U (p.1*256+q.1,q.2)
def gT (n:Int)(l:List UInt8):Option (List UInt8×List UInt8):=if n<=l.length then U (l.take n.toNat,l.drop n.toNat)else aj
def iS {l l':List UInt8}{v:Int}(h:g1 l=U (v,l')):0<=v/\v<=255:=by
 cases l with
 |nil=>cases h
 | cons x l=>
   simp only[g1,aK,bH]at h;have:=x.toNat_lt;omega
def CL {l l':List UInt8}{v:Int}(h:g2 l=U (v,l')):0<=v/\v<=65535:=by
 unfold g2 at h;cases h1:g1 l with
 |none=>rw[h1]at h;cases h
 | some p=>
   rw[h1]at h;simp only[bh]at h;cases h2:g1 p.2 with
   |none=>rw[h2]at h;cases h
   | some q=>
     rw[h2]at h;simp only[bh,aK,bH]at h;have:=iS (l:=l) (v:=p.1) (l':=p.2) h1;have:=iS (l:=p.2) (v:=q.1) (l':=q.2) h2;omega
end Go.TM
end
namespace Go.Proofs.YtdpapeledldifaaGreat
section
open Go Go.AM Go.TM
def dk (s0:List UInt8)(p:List UInt8×Int×Bool)(st:Option (List UInt8)):Prop :=
 p.1=s0/\0<=p.2.1/\p.2.1<=s0.length/\s0.length<=900/\(st=aj->p.2.2=ad)/\∀l,st=U l->p.2.2=ag/\l=s0.drop p.2.1.toNat
def dM (p:List UInt8×Bool)(st:Option (List UInt8)):Prop :=
 p.1.length<=900/\(st=aj->p.2=ad)/\∀l,st=U l->p.2=ag/\l=p.1
def wI {x:Int}(h1 : -9223372036854775808<=x)(h2:x<=9223372036854775807):IntKind.wrap .i64 x=x:=AM.wrapI h1 h2
def dk.bad {s0:List UInt8}{p:List UInt8×Int×Bool}{st:Option (List UInt8)}(h:dk s0 p st):dk s0 (p.1,p.2.1,ad) aj:=⟨h.1,h.2.1,h.2.2.1,h.2.2.2.1,fun _=>rfl,fun _ h=>by cases h⟩
def dM.bad {p:List UInt8×Bool}{st:Option (List UInt8)}(h:dM p st):dM (p.1,ad) aj:=⟨h.1,fun _=>rfl,fun _ h=>by cases h⟩
def gX {s0:List UInt8}(s:List UInt8×Int×Bool)(st:Option (List UInt8))(h:dk s0 s st):Sm (dk s0) (e7 s) (st.bind g1):=by
 obtain⟨o0,o1,o2⟩:=s;obtain⟨h1,h2,h3,h4,h5,h6⟩:=h;simp only at h1 h2 h3 h5 h6;subst h1;cases st with
 | none=>
   have:=h5 rfl;subst this;refine⟨0,(o0,o1,ad),rfl,⟨rfl,h2,h3,h4,fun _=>rfl,fun _ h=>by cases h⟩,fun _ _ h=>by cases h⟩
 | some l=>
   obtain⟨rfl,rfl⟩:=h6 l rfl;simp only[e7,aQ,aJ,aF]
   by_cases hl:(o0.length:Int)<=o1
   ·rw[if_pos hl];have:o0.drop o1.toNat=[]:=List.drop_eq_nil_of_le (by omega);refine⟨_,_,rfl,?_,?_⟩
    ·simp only[bh,this,g1,Option.map_none]
     exact⟨rfl,h2,h3,h4,fun _=>rfl,fun _ h=>by cases h⟩
    ·intro v' l' hv;simp[this,g1]at hv
   ·rw[if_neg hl];rw[wI (x:=o1+1) (by omega) (by omega),wI (x:=o1+1-1) (by omega) (by omega),show o1+1-1=o1 by omega];have hn:o1.toNat<o0.length:=by omega
    rw[cd h2,bE hn];have hr:=o0[o1.toNat].toNat_lt;rw[wI (by omega) (by omega)];refine⟨_,_,rfl,?_,?_⟩
    ·simp only[bh,kg hn,g1,Option.map_some]
     refine⟨rfl,by simp only;omega,by simp only;omega,h4,(fun h=>by cases h),fun l h=>⟨rfl,?_⟩⟩;simp only[aK]at h;rw[<-h];simp only
     rw[show(o1+1).toNat=o1.toNat+1 by omega]
    ·intro v' l' hv;simp only[bh,kg hn,g1,aK,bH]at hv;exact hv.1
def gY {s0:List UInt8}(s:List UInt8×Int×Bool)(st:Option (List UInt8))(h:dk s0 s st):Sm (dk s0) (eQ s) (st.bind g2):=by
 have e:st.bind g2=(st.bind g1).bind fun p=>(g1 p.2).bind fun q=>U (p.1*256+q.1,q.2):=by cases st<;>rfl
 rw[e];refine Sm.bind (k':=fun a l=>(g1 l).bind fun q=>U (a*256+q.1,q.2)) (gX s st h) fun v s1 st1 h1 e1=>?_
 have e:(st1.bind fun l=>(g1 l).bind fun q=>U (v*256+q.1,q.2))=(st1.bind g1).bind fun q=>U (v*256+q.1,q.2):=by cases st1<;>rfl
 rw[e];refine Sm.bind (k':=fun a l=>U (v*256+a,l)) (gX s1 st1 h1) fun v2 s2 st2 h2 e2=>?_
 cases st2 with
 |none=>exact⟨_,_,rfl,h2,fun _ _ h=>by cases h⟩
 | some l2=>
   have q2:=e2 l2 rfl;cases st1 with
   |none=>cases q2
   | some l1=>
     have q1:=e1 l1 rfl;cases st with
     |none=>cases q1
     | some l=>
       have r1:=iS (l:=l) q1;have r2:=iS (l:=l1) q2;refine⟨_,_,rfl,h2,fun v' l' hv=>?_⟩;simp only[bh,aK,bH]at hv;rw[<-hv.1];rw[wI (x:=v*256) (by omega) (by omega),wI (by omega) (by omega)]
def CM {s0:List UInt8}(n:Int)(s:List UInt8×Int×Bool)(st:Option (List UInt8))(h:dk s0 s st)(hn:∀ l,st=U l->0<=n/\n<=65535):Sm (dk s0) (qE (n,s)) (st.bind (gT n)):=by
 obtain⟨o0,o1,o2⟩:=s;obtain⟨h1,h2,h3,h4,h5,h6⟩:=h;simp only at h1 h2 h3 h5 h6;subst h1;cases st with
 | none=>
   have:=h5 rfl;subst this;refine⟨[],(o0,o1,ad),rfl,⟨rfl,h2,h3,h4,fun _=>rfl,fun _ h=>by cases h⟩,fun _ _ h=>by cases h⟩
 | some l=>
   obtain⟨rfl,rfl⟩:=h6 l rfl;obtain⟨n0,n1⟩:=hn _ rfl;simp only[qE,aQ,aJ,aF]
   rw[wI (x:=o1+n) (by omega) (by omega),wI (x:=o1+n-n) (by omega) (by omega),show o1+n-n=o1 by omega];by_cases hl:(o0.length:Int)<o1+n
   ·rw[if_pos hl];refine⟨_,_,rfl,?_,?_⟩
    ·have:¬n<=((o0.drop o1.toNat).length:Int):=by simp only[dF];omega
     simp only[bh,gT,if_neg this,Option.map_none]
     exact⟨rfl,h2,h3,h4,fun _=>rfl,fun _ h=>by cases h⟩
    ·intro v' l' hv;have:¬n<=((o0.drop o1.toNat).length:Int):=by simp only[dF];omega
     simp only[bh,gT,if_neg this]at hv;cases hv
   ·rw[if_neg hl];have hle:n<=((o0.drop o1.toNat).length:Int):=by simp only[dF];omega
    rw[mB,mB,cd h2,cd (by omega),cd (by omega)];refine⟨_,_,rfl,?_,?_⟩
    ·simp only[bh,gT,if_pos hle,Option.map_some]
     refine⟨rfl,by simp only;omega,by simp only;omega,h4,(fun h=>by cases h),fun l h=>⟨rfl,?_⟩⟩;simp only[aK]at h;rw[<-h,List.drop_drop];simp only
     rw[show(o1+n).toNat=o1.toNat+n.toNat by omega]
    ·intro v' l' hv;simp only[bh,gT,if_pos hle,aK,bH]at hv;rw[<-hv.1,show(o1+n).toNat=o1.toNat+n.toNat by omega,List.drop_take];congr 1;omega
def yx (n:Int)(s:List UInt8×Bool)(st:Option (List UInt8))(h:dM s st)(hn:∀ l,st=U l->0<=n):Sm dM (o9 (n,s)) (st.bind (gT n)):=by
 obtain⟨o0,o1⟩:=s;obtain⟨h4,h5,h6⟩:=h;simp only at h4 h5 h6;cases st with
 | none=>
   have:=h5 rfl;subst this;refine⟨[],(o0,ad),rfl,⟨h4,fun _=>rfl,fun _ h=>by cases h⟩,fun _ _ h=>by cases h⟩
 | some l=>
   obtain⟨rfl,rfl⟩:=h6 l rfl;have n0:=hn _ rfl;simp only[o9,aQ,aJ,aF]
   by_cases hl:(l.length:Int)<n
   ·rw[if_pos hl];refine⟨_,_,rfl,?_,?_⟩
    ·simp only[bh,gT,if_neg (show ¬n<=(l.length:Int)by omega),Option.map_none]
     exact⟨h4,fun _=>rfl,fun _ h=>by cases h⟩
    ·intro v' l' hv;simp only[bh,gT,if_neg (show ¬n<=(l.length:Int)by omega)]at hv;cases hv
   ·rw[if_neg hl];have hle:n<=(l.length:Int):=by omega
    rw[mB,cd n0,cd hle,mB,mB,cd n0,cd hle,cd (Int.le_refl _)];have et:nY (aH (l.length:Int)) l=l:=by rw[show aH (l.length:Int)=l.length by omega,List.take_length]
    refine⟨_,_,rfl,?_,?_⟩
    ·simp only[bh,gT,if_pos hle,Option.map_some]
     refine⟨by rw[et];simp only[dF];omega,(fun h=>by cases h),fun l' h=>⟨rfl,?_⟩⟩;simp only[aK]at h;rw[<-h,et]
    ·intro v' l' hv;simp only[bh,gT,if_pos hle,aK,bH]at hv;rw[<-hv.1,List.drop_zero]
def gZ (s:List UInt8×Bool)(st:Option (List UInt8))(h:dM s st):Sm dM (e_ s) (st.bind g1):=by
 obtain⟨v,s1,e1,e2,e3⟩:=yx 1 s st h fun _ _=>by omega
 obtain⟨o0,o1⟩:=s;obtain⟨p0,p1⟩:=s1;simp only[e_]
 rw[e1,av];simp only
 cases st with
 | none=>
   have:=e2.2.1 rfl;simp only at this;subst this;exact⟨_,_,rfl,e2,fun _ _ h=>by cases h⟩
 | some l=>
   cases l with
   | nil=>
     have hb:=e2.2.1 (by simp[gT]);simp only at hb;subst hb;refine⟨_,_,rfl,?_,fun _ _ h=>by simp[g1]at h⟩;simpa[gT,g1]using e2
   | cons x l=>
     have hg:(U (x::l)).bind (gT 1)=U ([x],l):=by simp[gT];omega
     rw[hg]at e2 e3;have:=e3 _ _ rfl;subst this;have hb:=(e2.2.2 l rfl).1;simp only at hb;subst hb;have hr:=x.toNat_lt;simp only[aQ,aq,List.getElem?_cons_zero,Int.toNat_zero]
     rw[wI (by omega) (by omega)];exact⟨_,_,rfl,e2,fun v' l' hv=>by simp only[bh,g1,aK,bH]at hv;exact hv.1⟩
def g9 (s:List UInt8×Bool)(st:Option (List UInt8))(h:dM s st):Sm dM (eU s) (st.bind g2):=by
 have e:st.bind g2=(st.bind g1).bind fun p=>(g1 p.2).bind fun q=>U (p.1*256+q.1,q.2):=by cases st<;>rfl
 rw[e];refine Sm.bind (k':=fun a l=>(g1 l).bind fun q=>U (a*256+q.1,q.2)) (gZ s st h) fun v s1 st1 h1 e1=>?_
 have e:(st1.bind fun l=>(g1 l).bind fun q=>U (v*256+q.1,q.2))=(st1.bind g1).bind fun q=>U (v*256+q.1,q.2):=by cases st1<;>rfl
 rw[e];refine Sm.bind (k':=fun a l=>U (v*256+a,l)) (gZ s1 st1 h1) fun v2 s2 st2 h2 e2=>?_
 cases st2 with
 |none=>exact⟨_,_,rfl,h2,fun _ _ h=>by cases h⟩
 | some l2=>
   have q2:=e2 l2 rfl;cases st1 with
   |none=>cases q2
   | some l1=>
     have q1:=e1 l1 rfl;cases st with
     |none=>cases q1
     | some l=>
       have r1:=iS (l:=l) q1;have r2:=iS (l:=l1) q2;refine⟨_,_,rfl,h2,fun v' l' hv=>?_⟩;simp only[bh,aK,bH]at hv;rw[<-hv.1];rw[wI (x:=256*v) (by omega) (by omega),wI (by omega) (by omega)];omega
end
end Go.Proofs.YtdpapeledldifaaGreat
section
namespace Go.TM
open Go.AM
section
variable {σ α β R Y:Type}
def kh {r:Option α}{k:α->Option (Y⊕R)}{k2:Y->Option R}:bindE (ai r k) k2=ai r fun x=>bindE (k x) k2:=by cases r<;>rfl
def mE {c:Prop}[Decidable c](A B:Y)(k:Y->Option R):bindE (ah (aa c) (U (.inl A)) (U (.inl B))) k=k (if c then A else B):=by by_cases h:c<;>simp[h]
variable {Re:σ->Option (List UInt8)->Prop}
def Sm.step {F:Option (α×σ)}{g:List UInt8->Option (α×List UInt8)}{st:Option (List UInt8)}{k:α×σ->Option (β×σ)}{k':α->List UInt8->Option (β×List UInt8)}
  (hF:Sm Re F (st.bind g)) (hk:∀v s' st',Re s' st'->(∀l',st'=U l'->∃l,st=U l/\g l=U (v,l'))->Sm Re (k (v,s')) (st'.bind (k' v))) :
  Sm Re (ai F k) (st.bind fun l=>(g l).bind fun p=>k' p.1 p.2):=by
 have e:(st.bind fun l=>(g l).bind fun p=>k' p.1 p.2)=(st.bind g).bind fun p=>k' p.1 p.2:=by cases st<;>rfl
 rw[e];refine Sm.bind hF fun v s' st' h1 h2=>hk v s' st' h1 fun l' hl=>?_
 have:=h2 l' hl;cases st with
 |none=>cases this
 |some l=>exact⟨l,rfl,this⟩
def f8 {c:Prop}[Decidable c](st:Option (List UInt8))(M:List UInt8->Option (β×List UInt8)):(st.bind fun l=>if c then aj else M l)=(if c then aj else st).bind M:=by
 by_cases h:c<;>cases st<;>simp[h]
def Jy {X Y:Type}{f:X->Option (X⊕Y)}(mk:List β->Nat->σ->X)(fin:List β->σ->Y)(n:Nat)(g:List UInt8->Option (β×List UInt8))(s:σ)(st:Option (List UInt8))(h:Re s st)
  (hbad:∀out i s,Re s aj->f (mk out i s)=U (.inr (fin out s)))
  (hg:∀l,st=U l->(∀out s l,Re s (U l)->f (mk out n s)=U (.inr (fin out s))) /\
   ∀out i s l,i<n->out.length=i->Re s (U l)->∃v s',f (mk out i s)=U (.inl (mk (out++[v]) (i+1) s'))/\Re s' ((g l).map (·.2))/\∀v' l',g l=U (v',l')->v=v') :
   ∃out' s',aD f (mk [] 0 s)=U (fin out' s')/\Re s' ((st.bind (bZ g n)).map (·.2))/\∀vs l',st.bind (bZ g n)=U (vs,l')->out'=vs:=by
 cases st with
 | none=>
   rw[eJ,hbad [] 0 s h];exact⟨[],s,rfl,h,fun _ _ h=>by cases h⟩
 | some l=>
   obtain⟨h1,h2⟩:=hg l rfl;obtain⟨o,s',q1,q2,q3⟩:=zap mk fin n g (fun out i s _ h=>hbad out i s h) h1 h2 [] 0 s (U l) (Nat.zero_le _) (fun _ _=>rfl) h;exact⟨o,s',q1,q2,fun vs l' h=>by simpa using q3 vs l' h⟩
def Sm.loop {X Y γ:Type}{f:X->Option (X⊕(Y⊕(γ×σ)))}(mk:List β->Nat->σ->X)(fin:List β->σ->Y)(n:Nat)(g:List UInt8->Option (β×List UInt8)){s:σ}{st:Option (List UInt8)}(h:Re s st)
  {k:Y->Option (γ×σ)} {k':List β->List UInt8->Option (γ×List UInt8)} {x0:X} (hx:x0=mk [] 0 s)
  (hbad:∀out i s,Re s aj->f (mk out i s)=U (.inr (.inl (fin out s))))
  (hg:∀l,st=U l->(∀out s l,Re s (U l)->f (mk out n s)=U (.inr (.inl (fin out s)))) /\
   ∀out i s l,i<n->out.length=i->Re s (U l)->∃v s',f (mk out i s)=U (.inl (mk (out++[v]) (i+1) s'))/\Re s' ((g l).map (·.2))/\∀v' l',g l=U (v',l')->v=v')
  (hk:∀out s' st',Re s' st'->Sm Re (k (fin out s')) (st'.bind (k' out))) :
  Sm Re (bindE (aD f x0) k) (st.bind fun l=>(bZ g n l).bind fun p=>k' p.1 p.2):=by
 obtain⟨o,s',q1,q2,q3⟩:=Jy mk (fun out s=>(.inl (fin out s):Y⊕(γ×σ))) n g s st h hbad hg;rw[hx,q1,aJ];have:=hk o s' _ q2;have e:(st.bind fun l=>(bZ g n l).bind fun p=>k' p.1 p.2)=(st.bind (bZ g n)).bind fun p=>k' p.1 p.2:=by cases st<;>rfl
 rw[e];cases hm:st.bind (bZ g n)with
 |none=>rw[hm]at this;exact this
 | some p=>
   rw[hm]at this;rw[q3 p.1 p.2 hm]at this ⊢;exact this
def Sm.one {X Y:Type}{r:Option (β×σ)}{m:Option (β×List UInt8)}{q:Option (X⊕Y)}{mk:β->σ->X}(h:Sm Re r m)(hq:∀ v s,r=U (v,s)->q=U (.inl (mk v s))) :
  ∃v s',q=U (.inl (mk v s'))/\Re s' (m.map (·.2))/\∀v' l',m=U (v',l')->v=v':=by
 obtain⟨v,s,h1,h2,h3⟩:=h;exact⟨v,s,hq v s h1,h2,h3⟩
end
end Go.TM
namespace Go.Proofs.YtdpapeledldifaaGreat
open Go Go.AM Go.TM
def dk.cut {s0 a:List UInt8}{b:Int}{t:Bool}{st:Option (List UInt8)}(c:Prop)[Decidable c](h:dk s0 (a,b,t) st):dk s0 (a,b,if c then ad else t) (if c then aj else st):=by
 by_cases hc:c
 ·simp only[if_pos hc];exact h.bad
 ·simp only[if_neg hc];exact h
def iT (t:Int)(l:List UInt8):Option (Cst×List UInt8) :=
 if t=1 then(g1 l).bind fun p=>(gT p.1 p.2).bind fun q=>U ((1,q.1,0,0),q.2)
 else if t=2 then(g2 l).bind fun p=>U ((2,[],p.1,0),p.2)
 else if t=3\/t=4\/t=5\/t=6 then(g2 l).bind fun p=>(g2 p.2).bind fun q=>U ((t,[],p.1,q.1),q.2)
 else aj
def gw (l:List UInt8):Option (Cst×List UInt8):=(g1 l).bind fun p=>iT p.1 p.2
def zaq {s0:List UInt8}(s:List UInt8×Int×Bool)(st:Option (List UInt8))(h:dk s0 s st):Sm (dk s0) (xe s) (st.bind gw):=by
 obtain⟨o0,o1,o2⟩:=s;simp only[xe]
 refine Sm.step (gX _ st h) (k':=iT) fun v ⟨a,b,c⟩ st1 h1 e1=>?_
 simp only[aF,eg]
 by_cases t1:v=1
 ·subst t1;simp only[iT,if_true,kh,aJ]
  refine Sm.step (gX _ st1 h1) (k':=fun n l=>(gT n l).bind fun q=>U ((1,q.1,0,0),q.2)) fun n ⟨a2,b2,c2⟩ st2 h2 e2=>?_
  simp only[kh,aJ]
  refine Sm.step (CM n _ st2 h2 fun l hl=>?_) (k':=fun q l=>U ((1,q,0,0),l)) fun n ⟨a3,b3,c3⟩ st3 h3 e3=>Sm.ret h3 _
  obtain⟨_,_,hg⟩:=e2 l hl;have:=iS hg;omega
 ·by_cases t2:v=2
  ·subst t2;simp only[iT,t1,if_false,if_true,kh,aJ]
   exact Sm.step (gY _ st1 h1) (k':=fun n l=>U ((2,[],n,0),l)) fun n ⟨a2,b2,c2⟩ st2 h2 e2=>Sm.ret h2 _
  ·by_cases t3:v=3\/v=4\/v=5\/v=6
   ·have two:Sm (dk s0) (ai (eQ (a,b,c)) fun x=>match x with
      | (y4,y5,y6,y7)=>ai (eQ (y5,y6,y7)) fun x=>match x with
        |(y8,y9,y10,y11)=>U ((v,([]:List UInt8),y4,y8),y9,y10,y11)) (st1.bind fun l=>(g2 l).bind fun p=>(g2 p.2).bind fun q=>U ((v,[],p.1,q.1),q.2)) :=
     Sm.step (gY _ st1 h1) (k':=fun n l=>(g2 l).bind fun q=>U ((v,[],n,q.1),q.2)) fun n ⟨a2,b2,c2⟩ st2 h2 e2=>
      Sm.step (gY _ st2 h2) (k':=fun q l=>U ((v,[],n,q),l)) fun n ⟨a3,b3,c3⟩ st3 h3 e3=>Sm.ret h3 _
    rcases t3 with rfl|rfl|rfl|rfl <;>
    ·simp only[iT,Int.reduceEq,↓reduceIte,kh,aJ,aP,ay,or_true,true_or]
     exact two
   ·have h3:¬v=3:=fun h=>t3 (.inl h)
    have h4:¬v=4:=fun h=>t3 (.inr (.inl h))
    have h5:¬v=5:=fun h=>t3 (.inr (.inr (.inl h)))
    have h6:¬v=6:=fun h=>t3 (.inr (.inr (.inr h)))
    simp only[t1,t2,h3,h4,h5,h6,↓reduceIte,aJ,aQ,bm]
    refine⟨_,_,rfl,?_,?_⟩
    ·cases st1<;>simp only[Option.bind_none,bh,iT,t1,t2,h3,h4,h5,h6,↓reduceIte,or_false]<;>exact h1.bad
    ·intro _ _ h;cases st1<;>simp only[Option.bind_none,bh,iT,t1,t2,h3,h4,h5,h6,↓reduceIte,or_false]at h<;>cases h
def i60 (s:List UInt8×Bool)(st:Option (List UInt8))(h:dM s st):Sm dM (xG s) (st.bind gw):=by
 obtain⟨o0,o1⟩:=s;simp only[xG]
 refine Sm.step (gZ _ st h) (k':=iT) fun v ⟨a,c⟩ st1 h1 e1=>?_
 simp only[aF,eg]
 by_cases t1:v=1
 ·subst t1;simp only[iT,if_true,kh,aJ]
  refine Sm.step (gZ _ st1 h1) (k':=fun n l=>(gT n l).bind fun q=>U ((1,q.1,0,0),q.2)) fun n ⟨a2,c2⟩ st2 h2 e2=>?_
  simp only[kh,aJ]
  refine Sm.step (yx n _ st2 h2 fun l hl=>?_) (k':=fun q l=>U ((1,q,0,0),l)) fun n ⟨a3,c3⟩ st3 h3 e3=>Sm.ret h3 _
  obtain⟨_,_,hg⟩:=e2 l hl;have:=iS hg;omega
 ·by_cases t2:v=2
  ·subst t2;simp only[iT,t1,if_false,if_true,kh,aJ]
   exact Sm.step (g9 _ st1 h1) (k':=fun n l=>U ((2,[],n,0),l)) fun n ⟨a2,c2⟩ st2 h2 e2=>Sm.ret h2 _
  ·by_cases t3:v=3\/v=4\/v=5\/v=6
   ·have two:Sm dM (ai (eU (a,c)) fun x=>match x with
      | (y4,y5,y7)=>ai (eU (y5,y7)) fun x=>match x with
        |(y8,y9,y11)=>U ((v,([]:List UInt8),y4,y8),y9,y11)) (st1.bind fun l=>(g2 l).bind fun p=>(g2 p.2).bind fun q=>U ((v,[],p.1,q.1),q.2)) :=
     Sm.step (g9 _ st1 h1) (k':=fun n l=>(g2 l).bind fun q=>U ((v,[],n,q.1),q.2)) fun n ⟨a2,c2⟩ st2 h2 e2=>
      Sm.step (g9 _ st2 h2) (k':=fun q l=>U ((v,[],n,q),l)) fun n ⟨a3,c3⟩ st3 h3 e3=>Sm.ret h3 _
    rcases t3 with rfl|rfl|rfl|rfl <;>
    ·simp only[iT,Int.reduceEq,↓reduceIte,kh,aJ,aP,ay,or_true,true_or]
     exact two
   ·have h3:¬v=3:=fun h=>t3 (.inl h)
    have h4:¬v=4:=fun h=>t3 (.inr (.inl h))
    have h5:¬v=5:=fun h=>t3 (.inr (.inr (.inl h)))
    have h6:¬v=6:=fun h=>t3 (.inr (.inr (.inr h)))
    simp only[t1,t2,h3,h4,h5,h6,↓reduceIte,aJ,aQ,bm]
    refine⟨_,_,rfl,?_,?_⟩
    ·cases st1<;>simp only[Option.bind_none,bh,iT,t1,t2,h3,h4,h5,h6,↓reduceIte,or_false]<;>exact h1.bad
    ·intro _ _ h;cases st1<;>simp only[Option.bind_none,bh,iT,t1,t2,h3,h4,h5,h6,↓reduceIte,or_false]at h<;>cases h
def cM {β:Type}(most:Int)(g:List UInt8->Option (β×List UInt8))(l:List UInt8):Option (List β×List UInt8) :=
 (g1 l).bind fun p=>if most<p.1 then aj else bZ g p.1.toNat p.2
def zar {s0:List UInt8}(s:List UInt8×Int×Bool)(st:Option (List UInt8))(h:dk s0 s st):Sm (dk s0) (xf s) (st.bind (cM 60 gw)):=by
 obtain⟨o0,o1,o2⟩:=s;simp only[xf]
 refine Sm.step (gX _ st h) (k':=fun n l=>if 60<n then aj else bZ gw n.toNat l) fun v ⟨a,b,c⟩ st1 h1 e1=>?_
 simp only[mE]
 rw[show(if(60:Int)<v then(([]:List Cst),v,a,b,ad)else([],v,a,b,c))=([],v,a,b,if 60<v then ad else c)by split<;>rfl];simp only
 rw[f8];have h2:=h1.cut (60<v)
 have e:((if 60<v then aj else st1).bind fun l=>bZ gw v.toNat l)=(if 60<v then aj else st1).bind fun l=>(bZ gw v.toNat l).bind fun p=>U (p.1,p.2):=by
  congr 1;funext l;cases bZ gw v.toNat l<;>rfl
 rw[e];refine Sm.loop (fun out i s=>(out,v,(i:Int),s)) (fun out s=>(out,s)) v.toNat gw h2 (k':=fun p l=>U (p,l)) rfl ?_ ?_ ?_
 ·intro out i ⟨a,b,c⟩ hs;have:=hs.2.2.2.2.1 rfl;simp only at this;subst this;by_cases hi:(i:Int)<v<;>simp only[hi,ay,bm,aP,aQ,Bool.not_true,aT]
 ·intro l hl
  have hv:0<=v/\v<=60:=by
   split at hl
   ·cases hl
   ·obtain⟨_,_,hg⟩:=e1 l hl;have:=iS hg;omega
  refine⟨fun out ⟨a,b,c⟩ l hs=>?_,fun out i ⟨a,b,c⟩ l hi ho hs=>?_⟩
  ·have hi:¬((v.toNat:Int)<v):=by omega
   simp only[hi,bm,aQ,aT]
  ·have hi':(i:Int)<v:=by omega
   have hc:=(hs.2.2.2.2.2 l rfl).1;simp only at hc;subst hc;obtain⟨w,⟨a2,b2,c2⟩,r1,r2,r3⟩:=zaq (a,b,ag) (U l) hs;simp only[hi',ay,aP,Bool.not_false,aJ,r1,av]
   rw[mB,cd (by omega),cd (by omega),wI (by omega) (by omega)];exact⟨w,_,rfl,r2,r3⟩
 ·intro out ⟨a,b,c⟩ st' hs;exact Sm.ret hs _
end Go.Proofs.YtdpapeledldifaaGreat
end
