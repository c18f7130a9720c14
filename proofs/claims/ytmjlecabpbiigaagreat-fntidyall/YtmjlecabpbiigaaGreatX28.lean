/- Part 29 of the proof of FnTidyAll; no condition. -/
import Derived.Test.YtmjlecabpbiigaaGreatX27
open Option renaming some -> U
open Decidable renaming decide -> aa
open Bool renaming true -> ae
open Bool renaming false -> ag
open Option renaming none -> aj
open Sum renaming inr -> an
open Sum renaming inl -> ao
open List renaming length -> au
open Int renaming toNat -> aw
open List renaming drop -> cU
open List renaming take -> de
set_option autoImplicit true
set_option relaxedAutoImplicit true
set_option linter.all false
namespace Go.Proofs.YtmjlecabpbiigaaGreat
noncomputable section
open Go Go.AM Go.TM
open Go.Proofs.Tryz
open Sum (inl inr)
open Go.IntKind (wrap)
set_option maxRecDepth 100000
set_option maxHeartbeats 4000000
abbrev X1:SPat:=⟨[(0,.agg (pl wP)),(1,.agg (pl wP))],[]⟩
def ym :  Frm×Frm->Option Bool:=fun((a,b,c),d,e,f)=>
 ai (aa (a=d))
 (ah (tP (b,e)) fun a=>
 ai (a)
 (ah (tP (c,f)) fun a=>
 U a)
 (U ag))
 (U ag)
def tb155:=az 155 (aB 155 ae [] X1 dp ym [.tmp 4] 24 []) tb156
def X2:zTb tb155:=aC X0 aI aR func155 rfl call155
abbrev X3:SPat:=⟨[(0,.sl cO),(1,.sl cO),(2,.fn 155 (pl []))],[]⟩
abbrev X4:SPat:=⟨[(1,.sl cO),(2,.fn 155 (pl [])),(15,.sl cO),(16,.i .i64),(17,.i .i64)],[]⟩
def X5:Nat->Option SPat:=fun k=>bif k==4 then U X4 else bif k==2000000 then U dH else aj
def yo:List Frm×List Frm->Option Bool:=fun(a,b)=>
 ai (!aa ((a.length:Int)=(b.length:Int)))
 (U ag)
 (bindE (aE (fun(a,b,c,d)=>
 ai (aa (d<c))
 (af (aa (0<=d)) (aq b d.toNat fun e=>af (aa (0<=d)) (aq a d.toNat fun f=>ah (ym ((e.1,e.2.1,e.2.2),f.1,f.2.1,f.2.2)) fun e=>
 ai (!e)
 (U (an (an ag)))
 (U (ao (a,b,c,wrap .i64 (d+1)))))))
 (U (an (ao ())))) ((b,a,(a.length:Int),(0:Int)))) fun _=>
 U ae)
def zTI:=az 156154 (aB 154 ae [] X3 lR yo [.tmp 6] 32 []) tb155
def X6:zTb zTI:=aC X2 aI X5 func154 rfl call154
def yp :  Mth×Mth->Option Bool:=fun((a,b,c,d,e,f,g,h),i,j,k,l,m,n,o,p)=>
 ai (aa (a=i))
 (ai (aa (b=j))
 (ai (aa (c=k))
 (ai (aa (d=l))
 (ai (aa (e=m))
 (ai (aa (f=n))
 (ah (yl (g,o)) fun a=>
 ai (a)
 (ah (yo (h,p)) fun a=>
 U a)
 (U ag))
 (U ag))
 (U ag))
 (U ag))
 (U ag))
 (U ag))
 (U ag)
def tb93:=az 93 (aB 93 ae [] I5 dp yp [.tmp 4] 59 []) zTI
def X7:zTb tb93:=aC X6 aI aR func93 rfl call93
abbrev X8:SPat:=⟨[(0,.sl cE),(1,.sl cE),(2,.fn 93 (pl []))],[]⟩
abbrev X9:SPat:=⟨[(1,.sl cE),(2,.fn 93 (pl [])),(15,.sl cE),(16,.i .i64),(17,.i .i64)],[]⟩
def X_:Nat->Option SPat:=fun k=>bif k==4 then U X9 else bif k==2000000 then U dH else aj
def yq:List Mth×List Mth->Option Bool:=fun(a,b)=>
 ai (!aa ((a.length:Int)=(b.length:Int)))
 (U ag)
 (bindE (aE (fun(a,b,c,d)=>
 ai (aa (d<c))
 (af (aa (0<=d)) (aq b d.toNat fun e=>af (aa (0<=d)) (aq a d.toNat fun f=>ah (yp ((e.1,e.2.1,e.2.2.1,e.2.2.2.1,e.2.2.2.2.1,e.2.2.2.2.2.1,e.2.2.2.2.2.2.1,e.2.2.2.2.2.2.2),f.1,f.2.1,f.2.2.1,f.2.2.2.1,f.2.2.2.2.1,f.2.2.2.2.2.1,f.2.2.2.2.2.2.1,f.2.2.2.2.2.2.2)) fun e=>
 ai (!e)
 (U (an (an ag)))
 (U (ao (a,b,c,wrap .i64 (d+1)))))))
 (U (an (ao ())))) ((b,a,(a.length:Int),(0:Int)))) fun _=>
 U ae)
def zWa:=az 94092 (aB 92 ae [] X8 lR yq [.tmp 6] 32 []) tb93
def Ya:zTb zWa:=aC X7 aI X_ func92 rfl call92
def yr :  Cls×Cls->Option Bool:=fun((a,b,c,d,e,f,g),h,i,j,k,l,m,n)=>
 ah (yi (a,h)) fun a=>
 ai (a)
 (ai (aa (b=i))
 (ai (aa (c=j))
 (ai (aa (d=k))
 (ah (yj (e,l)) fun a=>
 ai (a)
 (ah (yk (f,m)) fun a=>
 ai (a)
 (ah (yq (g,n)) fun a=>
 U a)
 (U ag))
 (U ag))
 (U ag))
 (U ag))
 (U ag))
 (U ag)
def tb36:=az 36 (aB 36 ae [] I7 dp yr [.tmp 4] 52 []) zWa
def Yb:zTb tb36:=aC Ya aI aR func36 rfl call36
def px:Cls->Option zBy:=fun(a,b,c,d,e,f,g)=>
 ah (yg (a,b,c,d,e,f,g)) fun h=>
 ai (!h)
 (U ([]))
 (ah (yh (a,b,c,d,e,f,g)) fun h=>
 ah (F8 h) fun(i,j,k,l,m,n,o,p)=>
 ai (!i)
 (U ([]))
 (ah (yr ((a,b,c,d,e,f,g),j,k,l,m,n,o,p)) fun a=>
 ai (!a)
 (U ([]))
 (U h)))
def tb10:=az 10 (aB 10 ae [] gQ fW px [.tmp 2] 25 []) tb36
def Yc:zTb tb10:=aC Yb aI aR func10 rfl call10
abbrev qY:SPat:=⟨[(0,.s),(1,.s)],[]⟩
def CW:zBy×zBy->Option Bool:=fun(a,b)=>
 ai (aa ((b.length:Int)<=(a.length:Int)))
 (af (aa (0<=(b.length:Int))&&aa ((b.length:Int)<=(a.length:Int))) (U (aa (cU (0:Nat) (de (aw (b.length:Int)) a)=b))))
 (U ag)
def tb197:=az 197 (aB 197 ae [] qY dp CW [.tmp 4] 18 []) tb10
def Yd:zTb tb197:=aC Yc aI aR func197 rfl call197
abbrev yt:SPat:=⟨[(4,.s),(5,.b)],[]⟩
def CX:zBy×zBy->Option (zBy×Bool):=fun(a,b)=>
 ah (CW (a,b)) fun c=>
 ai (!c)
 (U ((a,ag)))
 (af (aa (0<=(b.length:Int))&&aa ((b.length:Int)<=(a.length:Int))&&aa ((a.length:Int)<=(a.length:Int))) (U ((cU (aw (b.length:Int)) (de (aw (a.length:Int)) a),ae))))
def tb181:=az 181 (aB 181 ae [] qY yt CX [.tmp 4,.tmp 5] 15 []) tb197
def Ye:zTb tb181:=aC Yd aI aR func181 rfl call181
def tQ:zBy×zBy->Option (zBy×Bool):=fun(a,b)=>
 ah (CX (a,b)) fun(a,b)=>
 U ((a,b))
def tb147:=az 147 (aB 147 ae [] qY yt tQ [.tmp 4,.tmp 5] 11 []) tb181
def Yf:zTb tb147:=aC Ye aI aR func147 rfl call147
def CY:zBy×zBy->Option Bool:=fun(a,b)=>
 ai (aa ((b.length:Int)<=(a.length:Int)))
 (af (aa (0<=wrap .i64 ((a.length:Int)-(b.length:Int)))&&aa (wrap .i64 ((a.length:Int)-(b.length:Int))<=(a.length:Int))&&aa ((a.length:Int)<=(a.length:Int))) (U (aa (cU (aw (wrap .i64 ((a.length:Int)-(b.length:Int)))) (de (aw (a.length:Int)) a)=b))))
 (U ag)
def tb216:=az 216 (aB 216 ae [] qY dp CY [.tmp 4] 21 []) tb147
def Yg:zTb tb216:=aC Yf aI aR func216 rfl call216
def CZ:zBy×zBy->Option (zBy×Bool):=fun(a,b)=>
 ah (CY (a,b)) fun c=>
 ai (!c)
 (U ((a,ag)))
 (af (aa (0<=wrap .i64 ((a.length:Int)-(b.length:Int)))&&aa (wrap .i64 ((a.length:Int)-(b.length:Int))<=(a.length:Int))) (U ((cU (0:Nat) (de (aw (wrap .i64 ((a.length:Int)-(b.length:Int)))) a),ae))))
def tb195:=az 195 (aB 195 ae [] qY yt CZ [.tmp 4,.tmp 5] 18 []) tb216
def Yh:zTb tb195:=aC Yg aI aR func195 rfl call195
def yu:zBy×zBy->Option (zBy×Bool):=fun(a,b)=>
 ah (CZ (a,b)) fun(a,b)=>
 U ((a,b))
def tb179:=az 179 (aB 179 ae [] qY yt yu [.tmp 4,.tmp 5] 11 []) tb195
def Yi:zTb tb179:=aC Yh aI aR func179 rfl call179
abbrev Yj:SPat:=⟨[(2,.s),(3,.b)],[]⟩
def C0:zBy->Option (zBy×Bool):=fun a=>
 ah (tQ (a,[(76:UInt8)])) fun(a,b)=>
 ah (yu (a,[(59:UInt8)])) fun(a,c)=>
 ai (b)
 (ai (c)
 (ah (nT a) fun b=>
 U ((a,b)))
 (U ((a,ag))))
 (U ((a,ag)))
def tb143:=az 143 (aB 143 ae [] fy Yj C0 [.tmp 2,.tmp 3] 27 []) tb179
def Yk:zTb tb143:=aC Yi aI aR func143 rfl call143
def pz:zBy->Option Bool:=fun a=>
 ah (C0 a) fun(_,b)=>
 ai (b)
 (U ae)
 (U (aa (a=[(73:UInt8)])))
def tb73:=az 73 (aB 73 ae [] fy e7 pz [.tmp 2] 15 []) tb143
def Yl:zTb tb73:=aC Yk aI aR func73 rfl call73
def tR:zBy×Int->Option Int:=fun(a,b)=>
 ah (Cy (a,b)) fun a=>
 U (a)
def tb182:=az 182 (aB 182 ae [] Cx mC tR [.tmp 4] 8 []) tb73
def Ym:zTb tb182:=aC Yl aI aR func182 rfl call182
abbrev C1:SPat:=⟨[(0,.s),(1,.sc [41])],[]⟩
abbrev Yn:SPat:=⟨[(0,.s),(1,.sc [41]),(5,.i .i64),(16,.b)],[]⟩
def Yo:Nat->Option SPat:=fun k=>bif k==1000003 then U Yn else aj
def yv:zBy->Option Int:=fun a=>
 bindE (Y:=zBy×Int×Bool) (U (ao (a,1,aa ([(41:UInt8)]=a)))) fun(a,b,c)=>
 ai (c)
 (U ((0:Int)))
 (ai (aa (b=1))
 (aq ([(41:UInt8)]) ((0:Nat)) fun b=>ah (tR (a,(b.toNat:Int))) fun a=>
 U a)
 (ai (aa ((a.length:Int)<=b))
 (U ((-1:Int)))
 (aj)))
def tb196:=az 196 (aB 196 ae [] C1 mC yv [.tmp 4] 143 []) tb182
def Yp:zTb tb196:=aC Ym aI Yo func196 rfl call196
abbrev JG:SPat:=⟨[(4,.s),(5,.s),(6,.b)],[]⟩
def Yq:Nat->List Nat×a_:=fun id=>bif id==3 then(lN,(.br 9 gp [3,4,5,6,7,8] [] (.br 10 dG [] [] (.br 11 fw [] [] .fin .fin) .fin) .fin))else([],.fin)
def C2:zBy->Option (zBy×zBy×Bool):=fun a=>
 ah (yv a) fun b=>
 ai (aa (0<=b))
 (af (aa (0<=b)&&aa (b<=(a.length:Int))) (af (aa (0<=wrap .i64 (b+1))&&aa (wrap .i64 (b+1)<=(a.length:Int))&&aa ((a.length:Int)<=(a.length:Int))) (ak (ak (af (aa (a=a)) (U ())) (ak (af (aa (b=b)) (U ())) (ak (af (aa (wrap .i64 (b+1)=wrap .i64 (b+1))) (U ())) (ak (af (aa (0<=wrap .i64 (b+1))&&aa (wrap .i64 (b+1)<=(a.length:Int))&&aa ((a.length:Int)<=(a.length:Int))) (af (aa (cU (aw (wrap .i64 (b+1))) (de (aw (a.length:Int)) a)=cU (aw (wrap .i64 (b+1))) (de (aw (a.length:Int)) a))) (U ()))) (U ()))))) (U ((cU (0:Nat) (de b.toNat a),cU (aw (wrap .i64 (b+1))) (de (aw (a.length:Int)) a),ae))))))
 (U ((a,[],ag)))
def tb180:=az 180 (aB 180 ae [] C1 JG C2 [.tmp 4,.tmp 5,.tmp 6] 23 []) tb196
def Yr:zTb tb180:=aC Yp Yq aR func180 rfl call180
def yw:zBy->Option (zBy×zBy×Bool):=fun a=>
 ah (C2 a) fun(a,b,c)=>
 U ((a,b,c))
def tb146:=az 146 (aB 146 ae [] C1 JG yw [.tmp 4,.tmp 5,.tmp 6] 13 []) tb180
def Ys:zTb tb146:=aC Yr aI aR func146 rfl call146
def yx:zBy×Int->Option Int:=fun(a,b)=>
 ah (tR (a,b)) fun a=>
 U (a)
def tb148:=az 148 (aB 148 ae [] Cx mC yx [.tmp 4] 8 []) tb146
def Yt:zTb tb148:=aC Ys aI aR func148 rfl call148
abbrev Yu:SPat:=⟨[(6,.s),(8,.s),(10,.own .str ae)],[]⟩
abbrev Yv:SPat:=⟨[(6,.s),(8,.s)],[]⟩
abbrev JH:SPat:=⟨[(6,.s),(8,.s),(10,.own .str ae),(11,.i .i64)],[]⟩
abbrev Yw:SPat:=⟨[(6,.s),(10,.own .str ae)],[]⟩
def Yx:Nat->Option SPat:=fun k=>bif k==6 then U Yu else bif k==1000005 then U Yv else bif k==1000010 then U JH else bif k==1000012 then U JH else bif k==2000000 then U Yw else aj
def tT:zBy->Option (List zBy×zBy×Bool):=fun a=>
 ah (yw a) fun(a,b,c)=>
 ah (tQ (a,[(40:UInt8)])) fun(a,d)=>
 bindE (Y:=zBy×zBy) (ai (!c)
 (U (an ([],[],ag)))
 (ai (!d)
 (U (an ([],[],ag)))
 (ai (!aa (b=[(86:UInt8)]))
 (ah (pz b) fun c=>
 ai (!c)
 (U (an ([],[],ag)))
 (U (ao (b,a))))
 (U (ao (b,a)))))) fun(a,b)=>
 bindE (Y:=zBy×List zBy) (aE (fun(a,b,c)=>
 ai (!aa (b=[]))
 (bindE (Y:=zBy×zBy×List zBy×Int) (aq b 0 fun d=>ai (!aa ((d.toNat:Int)=73))
 (ah (yx (b,59)) fun d=>
 U (ao (a,b,c,wrap .i64 (d+1))))
 (U (ao (a,b,c,1)))) fun(a,b,c,d)=>
 bindE (Y:=zBy×zBy×List zBy×Int) (af (aa (0<=d)&&aa (d<=(b.length:Int))) (ah (pz (cU (0:Nat) (de d.toNat b))) fun e=>
 ai (!e)
 (U (an (an (an ([],[],ag)))))
 (ai (aa ((c.length:Int)=4))
 (U (an (an (an ([],[],ag)))))
 (U (ao (a,b,c,d)))))) fun(a,b,c,d)=>
 af (aa (0<=d)&&aa (d<=(b.length:Int))) (af (aa (c.length+1<=9223372036854775807)&&aa ((c.length+1)*16<=140737488355328)) (af (aa (0<=d)&&aa (d<=(b.length:Int))&&aa ((b.length:Int)<=(b.length:Int))) (U (ao (a,cU d.toNat (de (aw (b.length:Int)) b),c++[cU (0:Nat) (de d.toNat b)]))))))
 (U (an (ao (a,c))))) ((a,b,[]))) fun(a,b)=>
 U ((b,a,ae))
def tb80:=az 80 (aB 80 ae [] fy I8 tT [.tmp 2,.tmp 3,.tmp 4] 67 []) tb148
def Yy:zTb tb80:=aC Yt aI Yx func80 rfl call80
def tU:zBy->Option Bool:=fun a=>
 ah (tT a) fun(_,_,a)=>
 U (a)
def tb76:=az 76 (aB 76 ae [] fy e7 tU [.tmp 2] 13 []) tb80
def Yz:zTb tb76:=aC Yy aI aR func76 rfl call76
def tV:zBy->Option Bool:=fun a=>
 ah (pz a) fun b=>
 ai (b)
 (U ae)
 (ah (tU a) fun a=>
 U a)
def tb139:=az 139 (aB 139 ae [] fy e7 tV [.tmp 2] 9 []) tb76
def YA:zTb tb139:=aC Yz aI aR func139 rfl call139
def iI:List Cst×Int->Option Cst:=fun(a,b)=>
 ah (gw (b,1,(a.length:Int))) fun c=>
 ai (!c)
 (U (((0:Int),[],(0:Int),(0:Int))))
 (af (aa (0<=wrap .i64 (b-1))) (aq a (aw (wrap .i64 (b-1))) fun a=>U ((a.1,a.2.1,a.2.2.1,a.2.2.2))))
def tb84:=az 84 (aB 84 ae [] pn I9 iI [.cell 4 65] 16 []) tb139
def YB:zTb tb84:=aC YA aI aR func84 rfl call84
abbrev YC:SPat:=⟨[(0,.sl cD),(1,.i .i64),(2,.fn 72 (pl []))],[]⟩
def nU:List Cst×Int->Option Bool:=fun(a,b)=>
 ah (iI (a,b)) fun(a,b,_,_)=>
 ai (aa (a=1))
 (ah (nT b) fun a=>
 U a)
 (U ag)
def zWj:=az 73071 (aB 71 ae [] YC lR nU [.tmp 6] 20 []) tb84
def YD:zTb zWj:=aC YB aI aR func71 rfl call71
abbrev YE:SPat:=⟨[(0,.sl cD),(1,.i .i64),(2,.fn 139 (pl []))],[]⟩
def yy:List Cst×Int->Option Bool:=fun(a,b)=>
 ah (iI (a,b)) fun(a,b,_,_)=>
 ai (aa (a=1))
 (ah (tV b) fun a=>
 U a)
 (U ag)
def zTM:=az 140071 (aB 71 ae [] YE lR yy [.tmp 6] 20 []) zWj
def YF:zTb zTM:=aC YD aI aR func71 rfl call71
def tW:List Cst×Int->Option Bool:=fun(a,b)=>
 ah (iI (a,b)) fun(b,_,c,_)=>
 ai (aa (b=2))
 (ah (nU (a,c)) fun a=>
 U a)
 (U ag)
def tb141:=az 141 (aB 141 ae [] pn dp tW [.tmp 4] 18 []) zTM
def YG:zTb tb141:=aC YF aI aR func141 rfl call141
abbrev YH:SPat:=⟨[(0,.sl cD),(1,.i .i64),(2,.fn 73 (pl []))],[]⟩
def tX:List Cst×Int->Option Bool:=fun(a,b)=>
 ah (iI (a,b)) fun(a,b,_,_)=>
 ai (aa (a=1))
 (ah (pz b) fun a=>
 U a)
 (U ag)
def zWi:=az 74071 (aB 71 ae [] YH lR tX [.tmp 6] 20 []) tb141
def YI:zTb zWi:=aC YG aI aR func71 rfl call71
abbrev YJ:SPat:=⟨[(0,.fn 73 (pl [])),(1,.ptr 100000 0),(2,.ptr 100001 0)],[.box 100000 (pl [.sl cD]),.box 100001 (pl dM)]⟩
abbrev JI:SPat:=⟨[(4,.b)],[.box 100000 (pl [.sl cD]),.box 100001 (pl dM)]⟩
def yz:List Cst×Cst->Option (Bool×List Cst×Cst):=fun(a,b,c,d,e)=>
 ah (iI (a,e)) fun(f,_,_,g)=>
 ai (aa (c=[]))
 (ah (tW (a,d)) fun h=>
 ai (h)
 (ai (aa (f=3))
 (ah (tX (a,g)) fun f=>
 U ((f,a,b,c,d,e)))
 (U ((ag,a,b,c,d,e))))
 (U ((ag,a,b,c,d,e))))
 (U ((ag,a,b,c,d,e)))
def zWh:=az 74140 (aB 140 ag [(1,[]),(2,[])] YJ JI yz [.tmp 4] 31 [100000,100001]) zWi
def YK:zTb zWh:=aC YI aI aR func140 rfl call140
abbrev YL:SPat:=⟨[(0,.sl cD),(1,.i .i64),(2,.fn 76 (pl []))],[]⟩
def tY:List Cst×Int->Option Bool:=fun(a,b)=>
 ah (iI (a,b)) fun(a,b,_,_)=>
 ai (aa (a=1))
 (ah (tU b) fun a=>
 U a)
 (U ag)
def zWe:=az 77071 (aB 71 ae [] YL lR tY [.tmp 6] 20 []) zWh
def YM:zTb zWe:=aC YK aI aR func71 rfl call71
abbrev YN:SPat:=⟨[(0,.fn 76 (pl [])),(1,.ptr 100000 0),(2,.ptr 100001 0)],[.box 100000 (pl [.sl cD]),.box 100001 (pl dM)]⟩
def tZ:List Cst×Cst->Option (Bool×List Cst×Cst):=fun(a,b,c,d,e)=>
 ah (iI (a,e)) fun(f,_,_,g)=>
 ai (aa (c=[]))
 (ah (tW (a,d)) fun h=>
 ai (h)
 (ai (aa (f=3))
 (ah (tY (a,g)) fun f=>
 U ((f,a,b,c,d,e)))
 (U ((ag,a,b,c,d,e))))
 (U ((ag,a,b,c,d,e))))
 (U ((ag,a,b,c,d,e)))
def zWd:=az 77140 (aB 140 ag [(1,[]),(2,[])] YN JI tZ [.tmp 4] 31 [100000,100001]) zWe
def YO:zTb zWd:=aC YM aI aR func140 rfl call140
abbrev YP:SPat:=⟨[(0,.sl cD),(1,.agg (pl dM))],[]⟩
def YQ:Nat->Option SPat:=fun k=>bif k==2000000 then U dH else aj
def t4:List Cst×Cst->Option Bool:=fun(a,b,c,d,e)=>
 bindE (ai (aa (b=1))
 (ai (aa (d=0))
 (ai (aa (e=0))
 (ah (nT c) fun a=>
 ai (a)
 (U (an ae))
 (ah (tV c) fun a=>
 U (an a)))
 (U (an ag)))
 (U (an ag)))
 (ai (aa (b=2))
 (ai (aa (c=[]))
 (ai (aa (e=0))
 (ah (nU (a,d)) fun a=>
 U (an a))
 (U (an ag)))
 (U (an ag)))
 (ai (aa (b=3))
 (ai (aa (c=[]))
 (ah (nU (a,d)) fun b=>
 ai (b)
 (ah (yy (a,e)) fun a=>
 U (an a))
 (U (an ag)))
 (U (an ag)))
 (ai (aa (b=4))
 (ah (yz (a,b,c,d,e)) fun(a,_,_,_,_,_)=>
 U (an a))
 (ai (aa (b=5))
 (ah (tZ (a,b,c,d,e)) fun(a,_,_,_,_,_)=>
 U (an a))
 (ai (aa (b=6))
 (ah (tZ (a,b,c,d,e)) fun(a,_,_,_,_,_)=>
 U (an a))
 (U (ao ())))))))) fun _=>
 U (ag)
def tb64:=az 64 (aB 64 ae [] YP dp t4 [.tmp 4] 74 []) zWd
def YR:zTb tb64:=aC YO aI YQ func64 rfl call64
abbrev YS:SPat:=⟨[(0,.sl cD),(5,.sl cD),(6,.i .i64),(7,.i .i64)],[]⟩
def YT:Nat->Option SPat:=fun k=>bif k==2 then U YS else bif k==2000000 then U dH else aj
def yA:List Cst->Option Int:=fun a=>
 bindE (aE (fun(a,b,c,d)=>
 ai (aa (d<c))
 (af (aa (0<=d)) (aq b d.toNat fun e=>ai (aa (d=60))
 (U (an (an (61:Int))))
 (ah (t4 (a,e.1,e.2.1,e.2.2.1,e.2.2.2)) fun e=>
 ai (!e)
 (U (an (an (wrap .i64 (d+1)))))
 (U (ao (a,b,c,wrap .i64 (d+1)))))))
 (U (an (ao ())))) ((a,a,(a.length:Int),(0:Int)))) fun _=>
 U ((0:Int))
def tb28:=az 28 (aB 28 ae [] xC kr yA [.tmp 2] 21 []) tb64
def YU:zTb tb28:=aC YR aI YT func28 rfl call28
abbrev yB:SPat:=⟨[(0,.agg (pl ch)),(1,.i .i64)],[]⟩
def k_ :  Cls×Int->Option Bool:=fun((a,_,_,_,_,_,_),b)=>
 ah (iI (a,b)) fun(a,_,_,_)=>
 U (aa (a=2))
def tb65:=az 65 (aB 65 ae [] yB dp k_ [.tmp 4] 11 []) tb28
def YV:zTb tb65:=aC YU aI aR func65 rfl call65
def dN :  Cls×Int->Option zBy:=fun((a,_,_,_,_,_,_),b)=>
 ah (iI (a,b)) fun(b,c,d,_)=>
 ai (aa (b=2))
 (ah (iI (a,d)) fun(_,a,_,_)=>
 U a)
 (U c)
def tb66:=az 66 (aB 66 ae [] yB CN dN [.tmp 4] 20 []) tb65
def YW:zTb tb66:=aC YV aI aR func66 rfl call66
abbrev YX:SPat:=⟨[(0,.i .i64),(1,.ptr 100000 0),(2,.ptr 100001 0)],[.box 100000 (pl ch),.box 100001 (pl kq)]⟩
abbrev JJ:SPat:=⟨[(4,.b)],[.box 100000 (pl ch),.box 100001 (pl kq)]⟩
def YY:Nat->List Nat×a_:=fun id=>bif id==1 then([0,1,3,4],(.br 2 [1,0] [3,4] [] (.br 5 iE [] [6] (.br 7 dv [] [] .fin .fin) .fin) .fin))else([],.fin)
def t5:Int×Cls×Int->Option (Bool×Cls×Int):=fun(a,(b,c,d,e,f,g,h),i)=>
 ah (dN ((b,c,d,e,f,g,h),a)) fun a=>
 ak (ak (af (aa (b=b)&&(aa (c=c)&&(aa (d=d)&&(aa (e=e)&&(aa (f=f)&&(aa (g=g)&&(aa (h=h)&&ae))))))) (U ())) (ak (af (aa (i=i)) (U ())) (U ()))) (ah (dN ((b,c,d,e,f,g,h),i)) fun j=>
 U ((aa (a=j),(b,c,d,e,f,g,h),i)))
def tb68:=az 68 (aB 68 ag [(1,[]),(2,[])] YX JJ t5 [.tmp 4] 12 [100000,100001]) tb66
def YZ:zTb tb68:=aC YW YY aR func68 rfl call68
abbrev JK:SPat:=⟨[(0,.sl (.int .i64)),(1,.fn 68 (pl wQ))],[.box 100000 (pl ch),.box 100001 (pl kq)]⟩
abbrev Y0:SPat:=⟨[(4,.i .i64)],[.box 100000 (pl ch),.box 100001 (pl kq)]⟩
abbrev Y1:SPat:=⟨[(0,.sl (.int .i64)),(1,.fn 68 (pl wQ)),(7,.i .i64),(8,.i .i64)],[.box 100000 (pl ch),.box 100001 (pl kq)]⟩
abbrev Y2:SPat:=⟨[],[.box 100000 (pl ch),.box 100001 (pl kq)]⟩
def Y3:Nat->Option SPat:=fun k=>bif k==2 then U Y1 else bif k==2000000 then U Y2 else aj
def C3:List Int×Cls×Int->Option (Int×Cls×Int):=fun(a,(b,c,d,e,f,g,h),i)=>
 bindE (Y :=  Cls×Int) (aE (fun(a,b,c,(d,e,f,g,h,i,j),k)=>
 ai (aa (c<b))
 (af (aa (0<=c)) (aq a c.toNat fun l=>ah (t5 (l,(d,e,f,g,h,i,j),k)) fun(d,(e,f,g,h,i,j,k),l)=>
 ai (d)
 (U (an (an (c,(e,f,g,h,i,j,k),l))))
 (U (ao (a,b,wrap .i64 (c+1),(e,f,g,h,i,j,k),l)))))
 (U (an (ao ((d,e,f,g,h,i,j),k))))) ((a,(a.length:Int),(0:Int),(b,c,d,e,f,g,h),i))) fun((a,b,c,d,e,f,g),h)=>
 U (((-1:Int),(a,b,c,d,e,f,g),h))
def zWk:=az 69142 (aB 142 ag [(1,[0]),(1,[1])] JK Y0 C3 [.tmp 4] 19 [100000,100001]) tb68
def Y4:zTb zWk:=aC YZ aI Y3 func142 rfl call142
def yC:List Int×Cls×Int->Option (Bool×Cls×Int):=fun(a,(b,c,d,e,f,g,h),i)=>
 ah (C3 (a,(b,c,d,e,f,g,h),i)) fun(a,(b,c,d,e,f,g,h),i)=>
 U ((aa (0<=a),(b,c,d,e,f,g,h),i))
def zWl:=az 69067 (aB 67 ag [(1,[0]),(1,[1])] JK JJ yC [.tmp 4] 9 [100000,100001]) zWk
def Y5:zTb zWl:=aC Y4 aI aR func67 rfl call67
def pA:Cls->Option Bool:=fun(_,a,_,_,_,_,_)=>
 U (!aa (dK IntKind.i64 a (1:Int)=0))
def tb70:=az 70 (aB 70 ae [] gQ e7 pA [.tmp 2] 7 []) zWl
def Y6:zTb tb70:=aC Y5 aI aR func70 rfl call70
abbrev JL:SPat:=⟨[(1,.ptr 1 0),(31,.sl (.int .i64)),(32,.i .i64),(33,.i .i64)],iG⟩
def Y7:Nat->Option SPat:=fun k=>bif k==4 then U JL else bif k==1000003 then U qX else bif k==2000000 then U qX else bif k==2000001 then U JL else aj
def Y8:Nat->List Nat×a_:=fun id=>bif id==1 then(hZ,(.br 3 gp [] [4,5,6,7,8] (.br 9 gq [] [10,11,12,13,14,15,17,18,19] (.br 16 s6 [17,18,19] [] (.br 20 IA [] [21,22] .fin .fin) .fin) .fin) .fin))else bif id==9 then([0,1,2,3,4,5,6,7],(.br 8 [3,2,1,0] [4,5,6,7] [] (.br 9 gq [] [] .fin .fin) .fin))else([],.fin)
def yD:Cls->Option Bool:=fun(a,b,c,d,e,f,g)=>bindE (Y:=Cls) (ah (k_ ((a,b,c,d,e,f,g),c)) fun h=>ai (!h) (U (an ag)) (ah (k_ ((a,b,c,d,e,f,g),d)) fun h=>ai (!h) (U (an ag)) (ah (dN ((a,b,c,d,e,f,g),d)) fun h=>ak (ak (af (aa (a=a)&&(aa (b=b)&&(aa (c=c)&&(aa (d=d)&&(aa (e=e)&&(aa (f=f)&&(aa (g=g)&&ae))))))) (U ())) (ak (af (aa (c=c)) (U ())) (U ()))) (ah (dN ((a,b,c,d,e,f,g),c)) fun i=>ai (aa (h=i)) (U (an ag)) (U (ao (a,b,c,d,e,f,g))))))) fun(a,b,c,d,e,f,g)=>bindE (Y:=Cls) (aE (fun(a,b,c,d,e,f,g,h,i,j)=>ai (aa (c<b)) (bindE (Y:=List Int×Int×Int×Cls) (af (aa (0<=c)) (aq a c.toNat fun k=>ah (k_ ((d,e,f,g,h,i,j),k)) fun l=>ai (!l) (U (an (an (an ag)))) (af (aa (0<=c)&&aa (c<=(h.length:Int))) (ah (yC (cU (0:Nat) (de c.toNat h),(d,e,f,g,h,i,j),k)) fun(d,(e,f,g,h,i,j,k),_)=>ai d (U (an (an (an ag)))) (U (ao (a,b,c,e,f,g,h,i,j,k))))))) fun(a,b,c,d,e,f,g,h,i,j)=>U (ao (a,b,wrap .i64 (c+1),d,e,f,g,h,i,j))) (U (an (ao (d,e,f,g,h,i,j))))) ((e,(e.length:Int),(0:Int),a,b,c,d,e,f,g))) fun(a,b,c,d,e,f,g)=>ak (ak (af (aa (b=b)) (U ())) (ak (af (aa (dK IntKind.i64 b (4:Int)=dK IntKind.i64 b (4:Int))) (U ())) (ak (af (aa ((!aa (dK IntKind.i64 b (4:Int)=0)) = !aa (dK IntKind.i64 b (4:Int)=0))) (U ())) (U ())))) (ah (gw (b,0,7)) fun h=>ai h (let a:=ah (pA (a,b,c,d,e,f,g)) fun h=>ai (!h) (U ae) (ai (!aa (dK IntKind.i64 b (4:Int)=0)) (ah (dN ((a,b,c,d,e,f,g),d)) fun a=>U (aa (a=[(79:UInt8),98,106]))) (U ag));ai (!aa (dK IntKind.i64 b (2:Int)=0)) (ai (!!aa (dK IntKind.i64 b (4:Int)=0)) a (U ag)) a) (U ag))
def tb29:=az 29 (aB 29 ae [] gQ e7 yD [.tmp 2] 84 []) tb70
def Y9:zTb tb29:=aC Y6 Y8 Y7 func29 rfl call29
abbrev Y_:SPat:=⟨[(0,.agg (pl fx)),(1,.ptr 100000 0),(2,.ptr 100001 0)],[.box 100000 (pl ch),.box 100001 (pl fx)]⟩
abbrev JM:SPat:=⟨[(4,.b)],[.box 100000 (pl ch),.box 100001 (pl fx)]⟩
def Za:Nat->List Nat×a_:=fun id=>bif id==1 then(fU,(.br 3 gp gP [] (.br 7 dv [] [8] (.br 9 gq [] [] .fin .fin) .fin) .fin))else([],.fin)
def t6:(Int×Int×Int)×Cls×Int×Int×Int->Option (Bool×Cls×Int×Int×Int):=fun((_,a,_),(b,c,d,e,f,g,h),i,j,k)=>
 ah (dN ((b,c,d,e,f,g,h),a)) fun a=>
 ak (ak (af (aa (b=b)&&(aa (c=c)&&(aa (d=d)&&(aa (e=e)&&(aa (f=f)&&(aa (g=g)&&(aa (h=h)&&ae))))))) (U ())) (ak (af (aa (j=j)) (U ())) (U ()))) (ah (dN ((b,c,d,e,f,g,h),j)) fun l=>
 U ((aa (a=l),(b,c,d,e,f,g,h),i,j,k)))
def tb75:=az 75 (aB 75 ag [(1,[]),(2,[])] Y_ JM t6 [.tmp 4] 14 [100000,100001]) tb29
def Zb:zTb tb75:=aC Y9 Za aR func75 rfl call75
abbrev JN:SPat:=⟨[(0,.sl bA),(1,.fn 75 (pl wQ))],[.box 100000 (pl ch),.box 100001 (pl fx)]⟩
abbrev Zc:SPat:=⟨[(4,.i .i64)],[.box 100000 (pl ch),.box 100001 (pl fx)]⟩
abbrev Zd:SPat:=⟨[(0,.sl bA),(1,.fn 75 (pl wQ)),(7,.i .i64),(8,.i .i64)],[.box 100000 (pl ch),.box 100001 (pl fx)]⟩
abbrev Ze:SPat:=⟨[],[.box 100000 (pl ch),.box 100001 (pl fx)]⟩
def Zf:Nat->Option SPat:=fun k=>bif k==2 then U Zd else bif k==2000000 then U Ze else aj
def C4:List Fld×Cls×Int×Int×Int->Option (Int×Cls×Int×Int×Int):=fun(a,(b,c,d,e,f,g,h),i,j,k)=>
 bindE (Y :=  Cls×Int×Int×Int) (aE (fun(a,b,c,(d,e,f,g,h,i,j),k,l,m)=>
 ai (aa (c<b))
 (af (aa (0<=c)) (aq a c.toNat fun n=>ah (t6 ((n.1,n.2.1,n.2.2),(d,e,f,g,h,i,j),k,l,m)) fun(d,(e,f,g,h,i,j,k),l,m,n)=>
 ai (d)
 (U (an (an (c,(e,f,g,h,i,j,k),l,m,n))))
 (U (ao (a,b,wrap .i64 (c+1),(e,f,g,h,i,j,k),l,m,n)))))
 (U (an (ao ((d,e,f,g,h,i,j),k,l,m))))) ((a,(a.length:Int),(0:Int),(b,c,d,e,f,g,h),i,j,k))) fun((a,b,c,d,e,f,g),h,i,j)=>
 U (((-1:Int),(a,b,c,d,e,f,g),h,i,j))
def zWf:=az 76144 (aB 144 ag [(1,[0]),(1,[1])] JN Zc C4 [.tmp 4] 19 [100000,100001]) tb75
def Zg:zTb zWf:=aC Zb aI Zf func144 rfl call144
def yE:List Fld×Cls×Int×Int×Int->Option (Bool×Cls×Int×Int×Int):=fun(a,(b,c,d,e,f,g,h),i,j,k)=>
 ah (C4 (a,(b,c,d,e,f,g,h),i,j,k)) fun(a,(b,c,d,e,f,g,h),i,j,k)=>
 U ((aa (0<=a),(b,c,d,e,f,g,h),i,j,k))
def zWg:=az 76074 (aB 74 ag [(1,[0]),(1,[1])] JN JM yE [.tmp 4] 9 [100000,100001]) zWf
def Zh:zTb zWg:=aC Zg aI aR func74 rfl call74
abbrev Zi:SPat:=⟨[(1,.i .i64),(2,.ptr 2 0),(5,.ptr 5 0)],[.box 2 (pl ch),.box 5 (pl fx)]⟩
def Zj:Nat->Option SPat:=fun k=>bif k==1000004 then U Zi else aj
def yF :  Cls×Int->Option Bool:=fun((a,b,c,d,e,f,g),h)=>
 af (aa (0<=h)) (aq f h.toNat fun i=>bindE (Y:=Int×Cls×Int×Int×Int) (ah (nU (a,i.2.1)) fun j=>
 ai (!j)
 (U (an ag))
 (ah (tX (a,i.2.2)) fun j=>
 ai (!j)
 (U (an ag))
 (ah (gw (i.1,0,3)) fun j=>
 ai (!j)
 (U (an ag))
 (ah (pA (a,b,c,d,e,f,g)) fun j=>
 ai (j)
 (ai (!aa (i.1=1))
 (U (an ag))
 (U (ao (h,(a,b,c,d,e,f,g),i.1,i.2.1,i.2.2))))
 (U (ao (h,(a,b,c,d,e,f,g),i.1,i.2.1,i.2.2))))))) fun(a,(b,c,d,e,f,g,h),i,j,k)=>
 af (aa (0<=a)&&aa (a<=(g.length:Int))) (ah (yE (cU (0:Nat) (de a.toNat g),(b,c,d,e,f,g,h),i,j,k)) fun(a,(_,_,_,_,_,_,_),_,_,_)=>
 U (!a)))
def tb30:=az 30 (aB 30 ae [] yB dp yF [.tmp 4] 47 []) zWg
def Zk:zTb tb30:=aC Zh aI Zj func30 rfl call30
abbrev Zl:SPat:=⟨[(0,.agg (pl cy)),(1,.ptr 100000 0),(2,.ptr 100001 0),(3,.ptr 100002 0)],[.box 100000 (pl ch),.box 100001 (pl [.s]),.box 100002 (pl [.s])]⟩
abbrev Zm:SPat:=⟨[(5,.b)],[.box 100000 (pl ch),.box 100001 (pl [.s]),.box 100002 (pl [.s])]⟩
def Zn:Nat->List Nat×a_:=fun id=>bif id==1 then([0,1,2,4],(.br 3 gp [4] [5,6,7,8,9,11] (.br 10 dG [11] [12,13] (.br 14 jB [] [] .fin .fin) .fin) .fin))else([],.fin)
def t7 :  Mth×Cls×zBy×zBy->Option (Bool×Cls×zBy×zBy):=fun((_,a,b,_,_,_,_,_),(c,d,e,f,g,h,i),j,k)=>
 ah (dN ((c,d,e,f,g,h,i),a)) fun a=>
 ak (ak (af (aa (j=j)) (U ())) (U ())) (ai (aa (a=j))
 (ah (dN ((c,d,e,f,g,h,i),b)) fun a=>
 ak (ak (af (aa (k=k)) (U ())) (U ())) (U ((aa (a=k),(c,d,e,f,g,h,i),j,k))))
 (U ((ag,(c,d,e,f,g,h,i),j,k))))
def tb78:=az 78 (aB 78 ag [(1,[]),(2,[]),(3,[])] Zl Zm t7 [.tmp 5] 20 [100000,100001,100002]) tb30
def Zo:zTb tb78:=aC Zk Zn aR func78 rfl call78
abbrev JO:SPat:=⟨[(0,.sl cE),(1,.fn 78 (pl [.ptr 100000 0,.ptr 100001 0,.ptr 100002 0]))],[.box 100000 (pl ch),.box 100001 (pl [.s]),.box 100002 (pl [.s])]⟩
abbrev Zp:SPat:=⟨[(4,.i .i64)],[.box 100000 (pl ch),.box 100001 (pl [.s]),.box 100002 (pl [.s])]⟩
abbrev Zq:SPat:=⟨[(0,.sl cE),(1,.fn 78 (pl [.ptr 100000 0,.ptr 100001 0,.ptr 100002 0])),(7,.i .i64),(8,.i .i64)],[.box 100000 (pl ch),.box 100001 (pl [.s]),.box 100002 (pl [.s])]⟩
abbrev Zr:SPat:=⟨[],[.box 100000 (pl ch),.box 100001 (pl [.s]),.box 100002 (pl [.s])]⟩
def Zs:Nat->Option SPat:=fun k=>bif k==2 then U Zq else bif k==2000000 then U Zr else aj
def C5:List Mth×Cls×zBy×zBy->Option (Int×Cls×zBy×zBy):=fun(a,(b,c,d,e,f,g,h),i,j)=>
 bindE (Y :=  Cls×zBy×zBy) (aE (fun(a,b,c,(d,e,f,g,h,i,j),k,l)=>
 ai (aa (c<b))
 (af (aa (0<=c)) (aq a c.toNat fun m=>ah (t7 ((m.1,m.2.1,m.2.2.1,m.2.2.2.1,m.2.2.2.2.1,m.2.2.2.2.2.1,m.2.2.2.2.2.2.1,m.2.2.2.2.2.2.2),(d,e,f,g,h,i,j),k,l)) fun(d,(e,f,g,h,i,j,k),l,m)=>
 ai (d)
 (U (an (an (c,(e,f,g,h,i,j,k),l,m))))
 (U (ao (a,b,wrap .i64 (c+1),(e,f,g,h,i,j,k),l,m)))))
 (U (an (ao ((d,e,f,g,h,i,j),k,l))))) ((a,(a.length:Int),(0:Int),(b,c,d,e,f,g,h),i,j))) fun((a,b,c,d,e,f,g),h,i)=>
 U (((-1:Int),(a,b,c,d,e,f,g),h,i))
def zWb:=az 79145 (aB 145 ag [(1,[0]),(1,[1]),(1,[2])] JO Zp C5 [.tmp 4] 19 [100000,100001,100002]) tb78
def Zt:zTb zWb:=aC Zo aI Zs func145 rfl call145
abbrev Zu:SPat:=⟨[(4,.b)],[.box 100000 (pl ch),.box 100001 (pl [.s]),.box 100002 (pl [.s])]⟩
def yG:List Mth×Cls×zBy×zBy->Option (Bool×Cls×zBy×zBy):=fun(a,(b,c,d,e,f,g,h),i,j)=>
 ah (C5 (a,(b,c,d,e,f,g,h),i,j)) fun(a,(b,c,d,e,f,g,h),i,j)=>
 U ((aa (0<=a),(b,c,d,e,f,g,h),i,j))
def zWc:=az 79077 (aB 77 ag [(1,[0]),(1,[1]),(1,[2])] JO Zu yG [.tmp 4] 9 [100000,100001,100002]) zWb
def Zv:zTb zWc:=aC Zt aI aR func77 rfl call77
abbrev Zw:SPat:=⟨[(1,.i .i64),(2,.ptr 2 0),(5,.ptr 5 0)],[.box 2 (pl ch),.box 5 (pl cy)]⟩
abbrev Zx:SPat:=⟨[(1,.i .i64),(2,.ptr 2 0),(5,.ptr 5 0),(6,.ptr 6 0),(7,.ptr 7 0),(41,.b)],[.box 2 (pl ch),.box 5 (pl cy),.box 6 (pl [.s]),.box 7 (pl [.s])]⟩
abbrev Zy:SPat:=⟨[(1,.i .i64),(2,.ptr 2 0),(5,.ptr 5 0),(6,.ptr 6 0),(7,.ptr 7 0),(56,.b)],[.box 2 (pl ch),.box 5 (pl cy),.box 6 (pl [.s]),.box 7 (pl [.s])]⟩
abbrev Zz:SPat:=⟨[(1,.i .i64),(2,.ptr 2 0),(6,.ptr 6 0),(7,.ptr 7 0)],[.box 2 (pl ch),.box 6 (pl [.s]),.box 7 (pl [.s])]⟩
def ZA:Nat->Option SPat:=fun k=>bif k==1000004 then U Zw else bif k==1000006 then U Zx else bif k==1000008 then U Zy else bif k==2000000 then U Zz else aj
def ZB:Nat->List Nat×a_:=fun id=>bif id==4 then(fU,(.br 3 gp gP [] (.br 7 dv [] [] (.br 8 [] fU [] (.br 9 [] fU [] (.br 10 dG [] [] (.br 11 fw [] [] .fin .fin) .fin) .fin) (.br 9 [] fU [] (.br 8 [] fU [] (.br 10 dG [] [] (.br 11 fw [] [] .fin .fin) .fin) .fin) .fin)) (.br 8 [] fU [] (.br 7 dv [] [] (.br 9 [] fU [] (.br 10 dG [] [] (.br 11 fw [] [] .fin .fin) .fin) .fin) (.br 9 [] fU [] (.br 7 dv [] [] (.br 10 dG [] [] (.br 11 fw [] [] .fin .fin) .fin) .fin) .fin)) (.br 9 [] fU [] (.br 7 dv [] [] (.br 8 [] fU [] (.br 10 dG [] [] (.br 11 fw [] [] .fin .fin) .fin) .fin) (.br 8 [] fU [] (.br 7 dv [] [] (.br 10 dG [] [] (.br 11 fw [] [] .fin .fin) .fin) .fin) .fin)) .fin))) (.br 8 [] fU [] (.br 3 gp gP [] (.br 7 dv [] [] (.br 9 [] fU [] (.br 10 dG [] [] (.br 11 fw [] [] .fin .fin) .fin) .fin) (.br 9 [] fU [] (.br 7 dv [] [] (.br 10 dG [] [] (.br 11 fw [] [] .fin .fin) .fin) .fin) .fin)) (.br 9 [] fU [] (.br 3 gp gP [] (.br 7 dv [] [] (.br 10 dG [] [] (.br 11 fw [] [] .fin .fin) .fin) .fin) .fin) .fin)) (.br 9 [] fU [] (.br 3 gp gP [] (.br 7 dv [] [] (.br 8 [] fU [] (.br 10 dG [] [] (.br 11 fw [] [] .fin .fin) .fin) .fin) (.br 8 [] fU [] (.br 7 dv [] [] (.br 10 dG [] [] (.br 11 fw [] [] .fin .fin) .fin) .fin) .fin)) (.br 8 [] fU [] (.br 3 gp gP [] (.br 7 dv [] [] (.br 10 dG [] [] (.br 11 fw [] [] .fin .fin) .fin) .fin) .fin) .fin)) .fin))))else([],.fin)
def yH :  Cls×Int->Option Bool:=fun((a,b,c,d,e,f,g),h)=>af (aa (0<=h)) (aq g h.toNat fun i=>bindE (Y:=Int×Cls×Mth) (ah (nU (a,i.2.1)) fun j=>ai (!j) (U (an ag)) (ah (tY (a,i.2.2.1)) fun j=>ai (!j) (U (an ag)) (ah (gw (i.1,0,15)) fun j=>ai (!j) (U (an ag)) (U (ao (h,(a,b,c,d,e,f,g),i.1,i.2.1,i.2.2.1,i.2.2.2.1,i.2.2.2.2.1,i.2.2.2.2.2.1,i.2.2.2.2.2.2.1,i.2.2.2.2.2.2.2)))))) fun(a,(b,c,d,e,f,g,h),i,j,k,l,m,n,o,p)=>let a:=fun(q:zBy) (r:zBy)=>bindE (Y:=Int×Cls×zBy×zBy) (bindE (Y:=Int×Bool×Cls×Mth×zBy×zBy) (ah (k9 i) fun s=>ai s (ai (!aa (i=8)) (U (ao (a,ae,(b,c,d,e,f,g,h),(i,j,k,l,m,n,o,p),q,r))) (U (ao (a,aa (dK IntKind.i64 c (4:Int)=0),(b,c,d,e,f,g,h),(i,j,k,l,m,n,o,p),q,r)))) (U (ao (a,ag,(b,c,d,e,f,g,h),(i,j,k,l,m,n,o,p),q,r)))) fun(a,b,(c,d,e,f,g,h,i),(j,k,l,m,n,o,p,q),r,s)=>ai b (U (an ag)) (bindE (Y:=Int×Bool×Cls×Mth×zBy×zBy) (ah (k9 j) fun b=>ai (!b) (ah (pA (c,d,e,f,g,h,i)) fun b=>ai b (U (ao (a,!aa (j=1),(c,d,e,f,g,h,i),(j,k,l,m,n,o,p,q),r,s))) (U (ao (a,ag,(c,d,e,f,g,h,i),(j,k,l,m,n,o,p,q),r,s)))) (U (ao (a,ag,(c,d,e,f,g,h,i),(j,k,l,m,n,o,p,q),r,s)))) fun(a,b,(c,d,e,f,g,h,i),(j,_,_,_,_,_,_,_),k,l)=>ai b (U (an ag)) (ai (aa (k=[(98:UInt8),101,103,105,110])) (ai (!aa (j=1)) (U (an ag)) (ai (!aa (l=[(40:UInt8),41,86])) (U (an ag)) (U (ao (a,(c,d,e,f,g,h,i),k,l))))) (U (ao (a,(c,d,e,f,g,h,i),k,l)))))) fun(a,(b,c,d,e,f,g,h),i,j)=>af (aa (0<=a)&&aa (a<=(h.length:Int))) (ah (yG (cU (0:Nat) (de a.toNat h),(b,c,d,e,f,g,h),i,j)) fun(a,(_,_,_,_,_,_,_),_,_)=>U (!a));let i:=ak (af (aa (b=b)&&(aa (c=c)&&(aa (d=d)&&(aa (e=e)&&(aa (f=f)&&(aa (g=g)&&(aa (h=h)&&ae))))))) (U ())) (ak (af (aa (k=k)) (U ())) (U ()));let l:=ak (af (aa (b=b)&&(aa (c=c)&&(aa (d=d)&&(aa (e=e)&&(aa (f=f)&&(aa (g=g)&&(aa (h=h)&&ae))))))) (U ())) (ak (af (aa (j=j)) (U ())) i);ca (ah (dN ((b,c,d,e,f,g,h),j)) fun j=>ak i (ca (ah (dN ((b,c,d,e,f,g,h),k)) fun b=>ca (ak l (ak l (a j b))) (ak l (ak l (a j b)))) (ca (ak l (ca (ah (dN ((b,c,d,e,f,g,h),k)) fun b=>ak l (a j b)) (ak l (ah (dN ((b,c,d,e,f,g,h),k)) fun b=>a j b)))) (ak l (ca (ah (dN ((b,c,d,e,f,g,h),k)) fun b=>ak l (a j b)) (ak l (ah (dN ((b,c,d,e,f,g,h),k)) fun b=>a j b))))))) (let a:=ak l (ca (ah (dN ((b,c,d,e,f,g,h),j)) fun j=>ak i (ca (ah (dN ((b,c,d,e,f,g,h),k)) fun b=>ak l (a j b)) (ak l (ah (dN ((b,c,d,e,f,g,h),k)) fun b=>a j b)))) (ak l (ah (dN ((b,c,d,e,f,g,h),j)) fun j=>ak i (ah (dN ((b,c,d,e,f,g,h),k)) fun b=>a j b))));ca a a))
def tb31:=az 31 (aB 31 ae [] yB dp yH [.tmp 4] 89 []) zWc
def ZC:zTb tb31:=aC Zv ZB ZA func31 rfl call31
abbrev ZD:SPat:=⟨[(0,.i .i64),(6,.b)],[]⟩
def ZE:Nat->Option SPat:=fun k=>bif k==1000004 then U ZD else aj
def qZ:Int->Option Int:=fun a=>
 ah (gw (a,3,6)) fun b=>
 ai (b)
 (U ((1:Int)))
 (bindE (ai (aa (a=1))
 (U (ao (a,ae)))
 (ah (gw (a,14,29)) fun b=>
 U (ao (a,b)))) fun(a,b)=>
 ai (b)
 (U ((2:Int)))
 (ah (gw (a,0,34)) fun a=>
 ai (a)
 (U ((0:Int)))
 (U ((-1:Int)))))
def tb101:=az 101 (aB 101 ae [] jb kr qZ [.tmp 2] 16 []) tb31
def ZF:zTb tb101:=aC ZC aI ZE func101 rfl call101
abbrev ZG:SPat:=⟨[(0,.s),(4,.own bA ae),(5,.i .i64),(6,.ptr 6 0),(7,.i .i64),(45,.sl .byte),(46,.i .i64),(47,.i .i64)],[.box 6 (pl fx)]⟩
abbrev C6:SPat:=⟨[(0,.s),(4,.own bA ae),(5,.i .i64),(6,.ptr 6 0),(7,.i .i64)],[.box 6 (pl fx)]⟩
abbrev ZH:SPat:=⟨[(0,.s),(4,.own bA ae),(5,.i .i64),(6,.ptr 6 0),(7,.i .i64),(66,.b)],[.box 6 (pl fx)]⟩
def ZI:Nat->Option SPat:=fun k=>bif k==5 then U CO else bif k==11 then U ZG else bif k==1000010 then U C6 else bif k==1000016 then U ZH else bif k==1000017 then U C6 else bif k==2000000 then U Jd else bif k==2000001 then U CO else bif k==2000002 then U C6 else aj
def pB:zBy->Option (List Fld×Bool):=fun a=>
 ah (gw ((a.length:Int),1,120)) fun b=>
 ai (!b)
 (U (([],ag)))
 (bindE (Y:=List Fld) (aE (fun(a,b,c)=>
 ai (aa (c<(a.length:Int)))
 (bindE (Y:=zBy×List Fld×Int) (af (aa (0<=c)) (aq a c.toNat fun d=>ah (qZ (wrap .i64 (d.toNat:Int))) fun e=>
 bindE (Y:=zBy×List Fld×Int×Int×Int×Int×Int) (ai (aa (e<0))
 (U (an (an (an (an ([],ag))))))
 (ai (aa (wrap .i64 ((a.length:Int)-c)<=e))
 (U (an (an (an (an ([],ag))))))
 (U (ao (a,b,c,e,c,wrap .i64 (d.toNat:Int),0))))) fun(a,b,c,d,e,f,g)=>
 af (aa (0<=wrap .i64 (c+1))&&aa (wrap .i64 (c+1)<=wrap .i64 (wrap .i64 (c+1)+d))&&aa (wrap .i64 (wrap .i64 (c+1)+d)<=(a.length:Int))) (bindE (Y:=zBy×List Fld×Int×Int×Int×Int×Int) (aE (fun(a,b,c,d,e,f,g,h,i,j)=>
 ai (aa (g<f))
 (af (aa (0<=g)) (aq e g.toNat fun k=>U (ao (a,b,c,d,e,f,wrap .i64 (g+1),h,i,wrap .i64 (wrap .i64 ((256:Int)*j)+wrap .i64 (k.toNat:Int))))))
 (U (an (ao (a,b,c,d,h,i,j))))) ((a,b,c,d,cU (aw (wrap .i64 (c+1))) (de (aw (wrap .i64 (wrap .i64 (c+1)+d))) a),(↑(au (cU (aw (wrap .i64 (c+1))) (de (aw (wrap .i64 (wrap .i64 (c+1)+d))) a))):Int),(0:Int),e,f,g))) fun(a,b,c,d,e,f,g)=>
 bindE (Y:=zBy×List Fld×Int×Int×Int×Int×Int) (bindE (Y:=zBy×List Fld×Int×Int×Bool×Int×Int×Int) (ai (aa (f=1))
 (U (ao (a,b,c,d,aa (32767<g),e,f,g)))
 (U (ao (a,b,c,d,ag,e,f,g)))) fun(a,b,c,d,e,f,g,h)=>
 ai (e)
 (U (ao (a,b,c,d,f,g,wrap .i64 (h-65536))))
 (U (ao (a,b,c,d,f,g,h)))) fun(a,b,c,d,e,f,g)=>
 af (aa (b.length+1<=9223372036854775807)&&aa ((b.length+1)*24<=140737488355328)) (U (ao (a,b++[(e,f,g)],wrap .i64 (c+wrap .i64 ((1:Int)+d)))))))) fun(a,b,c)=>
 U (ao (a,b,c)))
 (U (an (ao b)))) ((a,[],(0:Int)))) fun a=>
 U ((a,ae)))
def tb79:=az 79 (aB 79 ae [] fy Jc pB [.tmp 2,.tmp 3] 80 []) tb101
def ZJ:zTb tb79:=aC ZF aI ZI func79 rfl call79
abbrev ZK:SPat:=⟨[(0,.i .i64),(3,.b)],[]⟩
def ZL:Nat->Option SPat:=fun k=>bif k==1000002 then U ZK else aj
def yI:Int->Option Int:=fun a=>
 bindE (ai (aa (a=19))
 (U (ao (a,ae)))
 (ai (aa (a=28))
 (U (ao (a,ae)))
 (U (ao (a,aa (a=29)))))) fun(a,b)=>
 ai (b)
 (U ((2:Int)))
 (ah (gw (a,20,23)) fun b=>
 ai (b)
 (U ((4:Int)))
 (ah (gw (a,24,26)) fun b=>
 ai (b)
 (U ((5:Int)))
 (ai (aa (a=27))
 (U ((6:Int)))
 (U ((0:Int))))))
def tb81:=az 81 (aB 81 ae [] jb kr yI [.tmp 2] 23 []) tb79
def ZM:zTb tb81:=aC ZJ aI ZL func81 rfl call81
def q_:Int->Option Bool:=fun a=>
 ah (gw (a,14,18)) fun a=>
 U (a)
def tb82:=az 82 (aB 82 ae [] jb e7 q_ [.tmp 2] 5 []) tb81
def ZN:zTb tb82:=aC ZM aI aR func82 rfl call82
abbrev ZO:SPat:=⟨[(0,.agg (pl fx)),(1,.ptr 100000 0)],[.box 100000 (pl kq)]⟩
abbrev ZP:SPat:=⟨[(3,.b)],[.box 100000 (pl kq)]⟩
def C7:(Int×Int×Int)×Int->Option (Bool×Int):=fun((a,_,_),b)=>
 U ((aa (a=b),b))
def tb150:=az 150 (aB 150 ag [(1,[])] ZO ZP C7 [.tmp 3] 8 [100000]) tb82
def ZQ:zTb tb150:=aC ZN aI aR func150 rfl call150
abbrev ZR:SPat:=⟨[(0,.sl bA),(1,.fn 150 (pl nL))],[.box 100000 (pl kq)]⟩
abbrev ZS:SPat:=⟨[(4,.i .i64)],[.box 100000 (pl kq)]⟩
abbrev ZT:SPat:=⟨[(0,.sl bA),(1,.fn 150 (pl nL)),(7,.i .i64),(8,.i .i64)],[.box 100000 (pl kq)]⟩
abbrev ZU:SPat:=⟨[],[.box 100000 (pl kq)]⟩
def ZV:Nat->Option SPat:=fun k=>bif k==2 then U ZT else bif k==2000000 then U ZU else aj
def yJ:List Fld×Int->Option (Int×Int):=fun(a,b)=>
 bindE (aE (fun(a,b,c,d)=>
 ai (aa (c<b))
 (af (aa (0<=c)) (aq a c.toNat fun e=>ah (C7 ((e.1,e.2.1,e.2.2),d)) fun(d,e)=>
 ai (d)
 (U (an (an (c,e))))
 (U (ao (a,b,wrap .i64 (c+1),e)))))
 (U (an (ao d)))) ((a,(a.length:Int),(0:Int),b))) fun a=>
 U (((-1:Int),a))
def zTL:=az 151149 (aB 149 ag [(1,[0])] ZR ZS yJ [.tmp 4] 19 [100000]) tb150
def ZW:zTb zTL:=aC ZQ aI ZV func149 rfl call149
def nV:List Fld×Int->Option Int:=fun(a,b)=>
 ah (yJ (a,b)) fun(a,_)=>
 U (a)
def tb83:=az 83 (aB 83 ae [] CP mC nV [.tmp 4] 8 []) zTL
def ZX:zTb tb83:=aC ZW aI aR func83 rfl call83
abbrev ZY:SPat:=⟨[(0,.agg (pl [.i .i64,.i .i64])),(1,.ptr 100000 0)],pe⟩
abbrev ZZ:SPat:=⟨[(3,.b)],pe⟩
def t8:(Int×Int)×Cls->Option (Bool×Cls):=fun((a,b),c,d,e,f,g,h,i)=>
 ai (aa (a=3))
 (ah (k_ ((c,d,e,f,g,h,i),b)) fun j=>
 ai (!j)
 (U ((ae,c,d,e,f,g,h,i)))
 (ai (!aa (a=3))
 (U ((!aa (b=0),c,d,e,f,g,h,i)))
 (U ((ag,c,d,e,f,g,h,i)))))
 (ai (!aa (a=3))
 (U ((!aa (b=0),c,d,e,f,g,h,i)))
 (U ((ag,c,d,e,f,g,h,i))))
def tb152:=az 152 (aB 152 ag [(1,[])] ZY ZZ t8 [.tmp 3] 24 [100000]) tb83
def Z0:zTb tb152:=aC ZX aI aR func152 rfl call152
abbrev JP:SPat:=⟨[(0,.sl c9),(1,.fn 152 (pl nL))],pe⟩
abbrev Z1:SPat:=⟨[(4,.i .i64)],pe⟩
abbrev Z2:SPat:=⟨[(0,.sl c9),(1,.fn 152 (pl nL)),(7,.i .i64),(8,.i .i64)],pe⟩
abbrev Z3:SPat:=⟨[],pe⟩
def Z4:Nat->Option SPat:=fun k=>bif k==2 then U Z2 else bif k==2000000 then U Z3 else aj
def C8:List Knd×Cls->Option (Int×Cls):=fun(a,b,c,d,e,f,g,h)=>
 bindE (Y:=Cls) (aE (fun(a,b,c,d,e,f,g,h,i,j)=>
 ai (aa (c<b))
 (af (aa (0<=c)) (aq a c.toNat fun k=>ah (t8 ((k.1,k.2),d,e,f,g,h,i,j)) fun(d,e,f,g,h,i,j,k)=>
 ai (d)
 (U (an (an (c,e,f,g,h,i,j,k))))
 (U (ao (a,b,wrap .i64 (c+1),e,f,g,h,i,j,k)))))
 (U (an (ao (d,e,f,g,h,i,j))))) ((a,(a.length:Int),(0:Int),b,c,d,e,f,g,h))) fun(a,b,c,d,e,f,g)=>
 U (((-1:Int),a,b,c,d,e,f,g))
def zTJ:=az 153183 (aB 183 ag [(1,[0])] JP Z1 C8 [.tmp 4] 19 [100000]) tb152
def Z5:zTb zTJ:=aC Z0 aI Z4 func183 rfl call183
abbrev Z6:SPat:=⟨[(4,.b)],pe⟩
def C9:List Knd×Cls->Option (Bool×Cls):=fun(a,b,c,d,e,f,g,h)=>
 ah (C8 (a,b,c,d,e,f,g,h)) fun(a,b,c,d,e,f,g,h)=>
 U ((aa (0<=a),b,c,d,e,f,g,h))
def zTK:=az 153151 (aB 151 ag [(1,[0])] JP Z6 C9 [.tmp 4] 9 [100000]) zTJ
def Z7:zTb zTK:=aC Z5 aI aR func151 rfl call151
def pC :  Cls×List Knd->Option Bool:=fun((a,b,c,d,e,f,g),h)=>
 ah (C9 (h,a,b,c,d,e,f,g)) fun(a,_,_,_,_,_,_,_)=>
 U (!a)
def tb85:=az 85 (aB 85 ae [] Jf dp pC [.tmp 4] 9 []) zTK
def Z8:zTb tb85:=aC Z7 aI aR func85 rfl call85
abbrev JQ:SPat:=⟨[(2,.ptr 2 0),(3,.ptr 3 0),(5,.ar 5),(56,.ar 5),(57,.i .i64),(58,.i .i64)],[.box 2 (pl ch),.box 3 (pl cy),.arr 5 bA ae]⟩
abbrev JR:SPat:=⟨[(2,.ptr 2 0),(3,.ptr 3 0),(5,.own bA ae),(100,.sl hY),(101,.i .i64),(102,.i .i64)],pc⟩
abbrev JS:SPat:=⟨[(2,.ptr 2 0),(3,.ptr 3 0),(5,.own bA ae),(16,.i .i64),(154,.sl cO),(155,.i .i64),(156,.i .i64)],pc⟩
abbrev Z9:SPat:=⟨[(2,.ptr 2 0),(3,.ptr 3 0),(5,.own bA ae),(6,.b),(10,.i .i64)],pc⟩
def Z_:Nat->Option SPat:=fun k=>bif k==9 then U JQ else bif k==18 then U JR else bif k==25 then U JS else bif k==1000006 then U Z9 else bif k==1000008 then U qU else bif k==2000000 then U qU else bif k==2000002 then U JQ else bif k==2000003 then U qU else bif k==2000004 then U JR else bif k==2000005 then U dH else bif k==2000006 then U JS else aj
def t9 :  Cls×Mth->Option Bool:=fun((a,b,c,d,e,f,g),h,i,j,k,l,m,n,o)=>ah (pB m) fun(p,q)=>ah (dN ((a,b,c,d,e,f,g),j)) fun r=>ah (tT r) fun(r,_,_)=>bindE (Y:=List Fld×Bool×Int×Cls×Mth) (ai (aa (dK IntKind.i64 h (1:Int)=0)) (U (ao (p,q,wrap .i64 ((r.length:Int)+1),(a,b,c,d,e,f,g),h,i,j,k,l,m,n,o))) (U (ao (p,q,(r.length:Int),(a,b,c,d,e,f,g),h,i,j,k,l,m,n,o)))) fun(a,b,c,(d,e,f,g,h,i,j),k,l,m,n,o,p,q,r)=>bindE (Y:=List Fld×Cls×Mth) (ai (!b) (U (an ag)) (ai (aa (8<n)) (U (an ag)) (ah (gw (o,c,8)) fun b=>ai (!b) (U (an ag)) (U (ao (a,(d,e,f,g,h,i,j),k,l,m,n,o,p,q,r)))))) fun(a,(b,c,d,e,f,g,h),i,j,k,l,m,n,o,p)=>bindE (Y:=List Fld×Cls×Mth) (aE (fun(a,b,(c,d,e,f,g,h,i),(j,k,l,m,n,o,p,q),r)=>ai (aa (b<a)) (af (aa (0<=b)&&aa (b<(r.length:Int))) (aq r b.toNat fun s=>ah (yI s.2.1) fun t=>bindE (Y:=Int×Int×Cls×Mth×List Fld) (ah (gw (s.2.1,3,6)) fun u=>let a:=ah (q_ s.2.1) fun u=>ai u (ah (nV (r,s.2.2)) fun u=>ai (aa (u<0)) (U (an (an (an ag)))) (ai (!aa (t=0)) (ah (iI (c,s.2.2)) fun(s,_,_,_)=>ai (!aa (s=t)) (U (an (an (an ag)))) (U (ao (a,b,(c,d,e,f,g,h,i),(j,k,l,m,n,o,p,q),r)))) (U (ao (a,b,(c,d,e,f,g,h,i),(j,k,l,m,n,o,p,q),r))))) (ai (!aa (t=0)) (ah (iI (c,s.2.2)) fun(s,_,_,_)=>ai (!aa (s=t)) (U (an (an (an ag)))) (U (ao (a,b,(c,d,e,f,g,h,i),(j,k,l,m,n,o,p,q),r)))) (U (ao (a,b,(c,d,e,f,g,h,i),(j,k,l,m,n,o,p,q),r))));ai u (ai (aa (n<=s.2.2)) (U (an (an (an ag)))) a) a) fun(a,b,(c,d,e,f,g,h,i),(j,k,l,m,n,o,p,q),r)=>U (ao (a,wrap .i64 (b+1),(c,d,e,f,g,h,i),(j,k,l,m,n,o,p,q),r)))) (U (an (ao (r,(c,d,e,f,g,h,i),j,k,l,m,n,o,p,q))))) (((a.length:Int),(0:Int),(b,c,d,e,f,g,h),(i,j,k,l,m,n,o,p),a))) fun(a,(b,c,d,e,f,g,h),i,j,k,l,m,n,o,p)=>bindE (Y:=List Fld×Cls×Mth) (aE (fun(a,b,c,d,(e,f,g,h,i,j,k),l,m,n,o,p,q,r,s)=>ai (aa (d<c)) (bindE (Y:=List Fld×List Trp×Int×Int×Cls×Mth) (af (aa (0<=d)) (aq b d.toNat fun t=>ai (aa (t.2.1<=t.1)) (U (an (an (an ag)))) (ah (nV (a,t.1)) fun u=>ai (aa (u<0)) (U (an (an (an ag)))) (ah (nV (a,t.2.2.1)) fun u=>ai (aa (u<0)) (U (an (an (an ag)))) (ah (nV (a,t.2.1)) fun u=>let a:=ai (!aa (t.2.2.2=0)) (ah (k_ ((e,f,g,h,i,j,k),t.2.2.2)) fun t=>ai (!t) (U (an (an (an ag)))) (U (ao (a,b,c,d,(e,f,g,h,i,j,k),l,m,n,o,p,q,r,s)))) (U (ao (a,b,c,d,(e,f,g,h,i,j,k),l,m,n,o,p,q,r,s)));ai (aa (u<0)) (ai (!aa (t.2.1=(q.length:Int))) (U (an (an (an ag)))) a) a))))) fun(a,b,c,d,(e,f,g,h,i,j,k),l,m,n,o,p,q,r,s)=>U (ao (a,b,c,wrap .i64 (d+1),(e,f,g,h,i,j,k),l,m,n,o,p,q,r,s))) (U (an (ao (a,(e,f,g,h,i,j,k),l,m,n,o,p,q,r,s))))) ((a,o,(o.length:Int),(0:Int),(b,c,d,e,f,g,h),i,j,k,l,m,n,o,p))) fun(a,(b,c,d,e,f,g,h),i,j,k,l,m,n,o,p)=>bindE (aE (fun(a,b,c,d,e,(f,g,h,i,j,k,l),m,n,o,p,q,r,s,t)=>ai (aa (e<d)) (bindE (Y:=List Fld×Int×List Frm×Int×Int×Cls×Mth) (af (aa (0<=e)) (aq c e.toNat fun u=>ah (nV (a,u.1)) fun v=>ai (aa (v<0)) (U (an (an (an ag)))) (ai (aa (u.1<=b)) (U (an (an (an ag)))) (ai (!aa ((u.2.1.length:Int)=q)) (U (an (an (an ag)))) (ai (aa (p<(u.2.2.length:Int))) (U (an (an (an ag)))) (ah (pC ((f,g,h,i,j,k,l),u.2.1)) fun b=>ai (!b) (U (an (an (an ag)))) (ah (pC ((f,g,h,i,j,k,l),u.2.2)) fun b=>ai (!b) (U (an (an (an ag)))) (U (ao (a,u.1,c,d,e,(f,g,h,i,j,k,l),m,n,o,p,q,r,s,t)))))))))) fun(a,b,c,d,e,(f,g,h,i,j,k,l),m,n,o,p,q,r,s,t)=>U (ao (a,b,c,d,wrap .i64 (e+1),(f,g,h,i,j,k,l),m,n,o,p,q,r,s,t))) (U (an (ao ())))) ((a,(-1:Int),p,(p.length:Int),(0:Int),(b,c,d,e,f,g,h),i,j,k,l,m,n,o,p))) fun _=>U (ae)
def tb33:=az 33 (aB 33 ae [] xG dp t9 [.tmp 4] 204 []) tb85
def zaa:zTb tb33:=aC Z8 aI Z_ func33 rfl call33
abbrev zab:SPat:=⟨[(1,.ptr 1 0),(22,.i .i64),(23,.i .i64)],iG⟩
abbrev zac:SPat:=⟨[(1,.ptr 1 0),(33,.i .i64),(34,.i .i64)],iG⟩
abbrev JT:SPat:=⟨[(1,.ptr 1 0),(43,.sl cE),(44,.i .i64),(45,.i .i64)],iG⟩
def tv9:Nat->Option SPat:=fun k=>bif k==8 then U zab else bif k==14 then U zac else bif k==20 then U JT else bif k==2000001 then U qX else bif k==2000003 then U qX else bif k==2000005 then U dH else bif k==2000006 then U JT else aj
def F9:Cls->Option Int:=fun(a,b,c,d,e,f,g)=>
 ah (px (a,b,c,d,e,f,g)) fun h=>
 ai (aa (h=[]))
 (U ((1:Int)))
 (ah (yA a) fun h=>
 ai (!aa (h=0))
 (U ((2:Int)))
 (ah (yD (a,b,c,d,e,f,g)) fun h=>
 ai (!h)
 (U ((3:Int)))
 (bindE (Y:=Cls) (aE (fun(a,b,c,d,e,f,g,h,i)=>
 ai (aa (b<a))
 (ah (yF ((c,d,e,f,g,h,i),b)) fun j=>
 ai (!j)
 (U (an (an (4:Int))))
 (U (ao (a,wrap .i64 (b+1),c,d,e,f,g,h,i))))
 (U (an (ao (c,d,e,f,g,h,i))))) (((f.length:Int),(0:Int),a,b,c,d,e,f,g))) fun(a,b,c,d,e,f,g)=>
 bindE (Y:=Cls) (aE (fun(a,b,c,d,e,f,g,h,i)=>
 ai (aa (b<a))
 (ah (yH ((c,d,e,f,g,h,i),b)) fun j=>
 ai (!j)
 (U (an (an (5:Int))))
 (U (ao (a,wrap .i64 (b+1),c,d,e,f,g,h,i))))
 (U (an (ao (c,d,e,f,g,h,i))))) (((g.length:Int),(0:Int),a,b,c,d,e,f,g))) fun(a,b,c,d,e,f,g)=>
 bindE (aE (fun(a,b,c,d,e,f,g,h,i,j)=>
 ai (aa (c<b))
 (bindE (Y:=List Mth×Int×Int×Cls) (af (aa (0<=c)) (aq a c.toNat fun k=>ah (k9 k.1) fun l=>
 ai (!l)
 (ah (t9 ((d,e,f,g,h,i,j),k.1,k.2.1,k.2.2.1,k.2.2.2.1,k.2.2.2.2.1,k.2.2.2.2.2.1,k.2.2.2.2.2.2.1,k.2.2.2.2.2.2.2)) fun k=>
 ai (!k)
 (U (an (an (an (6:Int)))))
 (U (ao (a,b,c,d,e,f,g,h,i,j))))
 (U (ao (a,b,c,d,e,f,g,h,i,j))))) fun(a,b,c,d,e,f,g,h,i,j)=>
 U (ao (a,b,wrap .i64 (c+1),d,e,f,g,h,i,j)))
 (U (an (ao ())))) ((g,(g.length:Int),(0:Int),a,b,c,d,e,f,g))) fun _=>
 U ((0:Int)))))
def tb9:=az 9 (aB 9 ae [] gQ kr F9 [.tmp 2] 60 []) tb33
def ok9:zTb tb9:=aC zaa aI tv9 func9 rfl call9
abbrev zad:SPat:=⟨[(2,.own cD ag)],[]⟩
def C_:List Cst->Option (List Cst):=fun a=>
 ai (aa (a.length=0))
 (ca
 (U ([]))
 (af (aa (a.length<=9223372036854775807)&&aa (a.length*40<=140737488355328)) (U a)))
 (af (aa (a.length<=9223372036854775807)&&aa (a.length*40<=140737488355328)) (U a))
def tb94:=az 94 (aB 94 ae [] xC zad C_ [.tmp 2] 8 []) tb9
def zae:zTb tb94:=aC ok9 aI aR func94 rfl call94
abbrev zaf:SPat:=⟨[(0,.sl (.int .i64))],[]⟩
abbrev zag:SPat:=⟨[(2,.own (.int .i64) ag)],[]⟩
def Da:List Int->Option (List Int):=fun a=>
 ai (aa (a.length=0))
 (ca
 (U ([]))
 (af (aa (a.length<=9223372036854775807)&&aa (a.length*8<=140737488355328)) (U a)))
 (af (aa (a.length<=9223372036854775807)&&aa (a.length*8<=140737488355328)) (U a))
def tb95:=az 95 (aB 95 ae [] zaf zag Da [.tmp 2] 8 []) tb94
def zah:zTb tb95:=aC zae aI aR func95 rfl call95
abbrev zai:SPat:=⟨[(2,.own bA ag)],[]⟩
def Db:List Fld->Option (List Fld):=fun a=>
 ai (aa (a.length=0))
 (ca
 (U ([]))
 (af (aa (a.length<=9223372036854775807)&&aa (a.length*24<=140737488355328)) (U a)))
 (af (aa (a.length<=9223372036854775807)&&aa (a.length*24<=140737488355328)) (U a))
def tb96:=az 96 (aB 96 ae [] wZ zai Db [.tmp 2] 8 []) tb95
def zaj:zTb tb96:=aC zah aI aR func96 rfl call96
abbrev zak:SPat:=⟨[(0,.sl cE)],[]⟩
abbrev zal:SPat:=⟨[(2,.own cE ag)],[]⟩
def Dc:List Mth->Option (List Mth):=fun a=>
 ai (aa (a.length=0))
 (ca
 (U ([]))
 (af (aa (a.length<=9223372036854775807)&&aa (a.length*104<=140737488355328)) (U a)))
 (af (aa (a.length<=9223372036854775807)&&aa (a.length*104<=140737488355328)) (U a))
def tb97:=az 97 (aB 97 ag [] zak zal Dc [.tmp 2] 8 []) tb96
def zam:zTb tb97:=aC zaj aI aR func97 rfl call97
abbrev zan:SPat:=⟨[(0,.sl hY)],[]⟩
abbrev zao:SPat:=⟨[(2,.own hY ag)],[]⟩
def Dd:List Trp->Option (List Trp):=fun a=>
 ai (aa (a.length=0))
 (ca
 (U ([]))
 (af (aa (a.length<=9223372036854775807)&&aa (a.length*32<=140737488355328)) (U a)))
 (af (aa (a.length<=9223372036854775807)&&aa (a.length*32<=140737488355328)) (U a))
def tb98:=az 98 (aB 98 ae [] zan zao Dd [.tmp 2] 8 []) tb97
def zap:zTb tb98:=aC zam aI aR func98 rfl call98
abbrev zaq:SPat:=⟨[(0,.sl cO)],[]⟩
abbrev zar:SPat:=⟨[(2,.own cO ag)],[]⟩
def De:List Frm->Option (List Frm):=fun a=>
 ai (aa (a.length=0))
 (ca
 (U ([]))
 (af (aa (a.length<=9223372036854775807)&&aa (a.length*56<=140737488355328)) (U a)))
 (af (aa (a.length<=9223372036854775807)&&aa (a.length*56<=140737488355328)) (U a))
def tb99:=az 99 (aB 99 ag [] zaq zar De [.tmp 2] 8 []) tb98
def zas:zTb tb99:=aC zap aI aR func99 rfl call99
abbrev zat:SPat:=⟨[(2,.own c9 ag)],[]⟩
def yK:List Knd->Option (List Knd):=fun a=>
 ai (aa (a.length=0))
 (ca
 (U ([]))
 (af (aa (a.length<=9223372036854775807)&&aa (a.length*16<=140737488355328)) (U a)))
 (af (aa (a.length<=9223372036854775807)&&aa (a.length*16<=140737488355328)) (U a))
def tb100:=az 100 (aB 100 ae [] CG zat yK [.tmp 2] 8 []) tb99
def zau:zTb tb100:=aC zas aI aR func100 rfl call100
abbrev zav:SPat:=⟨[(2,.ptr 2 0)],[.box 2 (pl IB)]⟩
abbrev Df:SPat:=⟨[(1,.ptr 1 0),(2,.ptr 2 0),(24,.ar 7024),(25,.i .i64),(26,.i .i64)],[.box 1 (pl IC),.box 2 (pl eW),.spl 7024 cE]⟩
abbrev zaw:SPat:=⟨[(1,.ptr 1 0),(2,.ptr 2 0),(3,.i .i64),(24,.ar 7024),(25,.i .i64),(26,.i .i64),(48,.sl cO),(49,.i .i64),(50,.i .i64)],[.box 1 (pl IC),.box 2 (pl eW),.opn 7024 cE .spl (pl [.i .i64,.i .i64,.i .i64,.i .i64,.i .i64,.s,.own hY ag,.ar 8060]),.spl 8060 cO]⟩
abbrev zPL:SPat:=⟨[(1,.ptr 1 0),(2,.ptr 2 0)],[.box 1 (pl IB),.box 2 (pl eW)]⟩
def zax:Nat->Option SPat:=fun k=>bif k==3 then U Df else bif k==7 then U zaw else bif k==2000000 then U zPL else bif k==2000001 then U Df else bif k==2000002 then U Df else aj
def zay:Nat->List Nat×a_:=fun id=>bif id==3000009 then([5000000],.fin)else bif id==3000005 then([5000000],.fin)else bif id==1 then([0,1,3,4,6,7,9,10],(.br 2 [1,0] [3,4,6,7,9,10] [12] (.br 5 iE [6,7,9,10,12] [] (.br 8 i_ [9,10,12] [] (.br 11 fw [12] [] (.br 13 jA [] [14] (.br 15 s7 [] [16] (.br 17 jC [] [18] (.br 19 wM [] [] .fin .fin) .fin) .fin) .fin) .fin) .fin) .fin) .fin))else bif id==5 then([0,1,2,3,4,5,6,7,9,10],(.br 8 [7,6] [0,1,2,3,4,5,9,10] [] (.br 11 [10,9,8,7,6] fT [12,13] (.br 14 [13,12,11,10,9,8,7,6,2,1,0] [3,4,5] [15,16] (.br 17 jC [] [] .fin .fin) .fin) .fin) .fin))else bif id==9 then([0,1,2,3,4,5,6,7,8,9,10,11,12,13,14,15,17,18],(.br 16 [15,14] [0,1,2,3,4,5,6,7,8,9,10,11,12,13,17,18] [] (.br 19 [18,17,16,15,14] [0,1,2,3,4,5,6,7,8,9,10,11,12,13] [20,21] (.br 22 [21,20,19,18,17,16,15,14,12,11,10,9,8,7,6,5,4,3,2,1,0] [13] [23,24] (.br 25 Ct [] [] .fin .fin) .fin) .fin) .fin))else([],.fin)
def yL:Cls->Option Cls:=fun(a,b,c,d,e,f,g)=>ah (C_ a) fun a=>ak (ak (af (aa (e=e)) (U ())) (ak (af (aa (f=f)) (U ())) (ak (af (aa (g=g)) (U ())) (U ())))) (ah (Da e) fun e=>ak (ak (af (aa (f=f)) (U ())) (ak (af (aa (g=g)) (U ())) (U ()))) (ah (Db f) fun f=>ak (ak (af (aa (g=g)) (U ())) (U ())) (ah (Dc g) fun g=>bindE (Y :=  Cls×Cls) (aE (fun(a,b,(c,d,e,f,g,h),(i,j,k,l,m,n,o),p,q)=>ai (aa (b<a)) (bindE (Y:=Int×Int×(List Cst×Int×Int×Int×List Int×List Fld)×Cls×List Mth×Nat) (af (aa (0<=b)&&aa (b<(p.length:Int))) (af (aa (q<=aw b)) (aq p b.toNat fun r=>ah (Dd r.2.2.2.2.2.2.1) fun s=>ak (ak (af (aa (b=b)) (U ())) (ak (af (aa (b=b)) (U ())) (ak (af (aa (r.2.2.2.2.2.2.2=r.2.2.2.2.2.2.2)) (U ())) (U ())))) (ah (De r.2.2.2.2.2.2.2) fun t=>ak (ak (af (aa (b=b)) (U ())) (ak (af (aa (b=b)) (U ())) (U ()))) (af (aa (0<=b)&&aa (b<(p.length:Int))) (af (aa (q=aw b)) (aq p b.toNat fun q=>af (aa (aw b=aw b)&&aa (aw b<p.length)) (ak (ak (af (aa (b=b)) (U ())) (U ())) (af (aa (0<=b)&&aa (b<(p.length:Int))) (af (aa (aw b=aw b)&&aa (aw b<p.length)) (bindE (Y:=Int×Int×(List Cst×Int×Int×Int×List Int×List Fld)×Cls×List Mth×Nat) (af (aa (aw b=aw b)&&aa (aw b<p.length)) (af (aa (aw b=aw b)&&aa (aw b<p.length)) (aE (fun(a,b,c,d,e,f,(g,h,i,j,k,l),(m,n,o,p,q,r,s),(t,u,v,w,x,y,z,A,B),C,D)=>ai (aa (f<e)) (af (aa (0<=f)) (aq d f.toNat fun E=>af (aa (0<=a)&&aa (a<(t.length:Int))) (af (aa (aw a=u)&&aa (u<t.length)) (af (aa (aw a=u)&&aa (u<t.length)) (af (aa (0<=a)&&aa (a<(t.length:Int))) (af (aa (aw a=u)&&aa (u<t.length)) (af (aa (aw a=u)&&aa (u<t.length)) (ah (yK E.2.1) fun G=>let H:=af (aa (aw a=u)&&aa (u<t.length)) (af (aa (aw a=u)&&aa (u<t.length)) (af (aa (aw a=u)&&aa (u<t.length)) (U ())));ak (ak (af (aa (a=a)) (U ())) (ak (af (aa (0<=a)&&aa (a<(t.length:Int))) (af (aw a==aw a&&ae) (U ()))) (ak (af (aw a==aw a&&ae) (U ())) (ak H (ak (af (aa (f=f)) (U ())) (ak (af (aa (a=a)) (U ())) (ak (af (aa (0<=a)&&aa (a<(t.length:Int))) (af (aw a==aw a&&ae) (U ()))) (ak (af (aw a==aw a&&ae) (U ())) (ak H (ak (af (aa (f=f)) (U ())) (ak (af (aa (E.2.2=E.2.2)) (U ())) (U ())))))))))))) (ah (yK E.2.2) fun E=>ak (ak (af (aa (a=a)) (U ())) (ak (af (aa (0<=a)&&aa (a<(t.length:Int))) (af (aw a==aw a&&ae) (U ()))) (ak (af (aw a==aw a&&ae) (U ())) (ak H (ak (af (aa (f=f)) (U ())) (ak (af (aa (a=a)) (U ())) (ak (af (aa (0<=a)&&aa (a<(t.length:Int))) (af (aw a==aw a&&ae) (U ()))) (ak (af (aw a==aw a&&ae) (U ())) (ak H (ak (af (aa (f=f)) (U ())) (U ()))))))))))) (af (aa (0<=f)&&aa (f<(C.length:Int))) (af (aa (D=aw f)) (aq C f.toNat fun D=>af (aa (aw f=aw f)&&aa (aw f<C.length)) (ak (ak (af (aa (f=f)) (U ())) (U ())) (af (aa (0<=f)&&aa (f<(C.length:Int))) (af (aa (aw f=aw f)&&aa (aw f<C.length)) (af (aa (u=u)&&aa (u<t.length)) (af (aa (aw f<C.length)) (U (ao (a,b,c,d,e,wrap .i64 (f+1),(g,h,i,j,k,l),(m,n,o,p,q,r,s),(t,u,v,w,x,y,z,A,B),List.set C f.toNat (D.1,G,E),aw f+1)))))))))))))))))))) (iD (af (aa (D=C.length)) (af (aa (u<t.length)) (af (aa (u=u)&&aa (u<t.length)) (af (aa (u<t.length)) (U (ao (b,c,(g,h,i,j,k,l),(m,n,o,p,q,r,s),List.set t u (v,w,x,y,z,A,B,C),u+1))))))))) ((b,a,b,r.2.2.2.2.2.2.2,(r.2.2.2.2.2.2.2.length:Int),(0:Int),(c,d,e,f,g,h),(i,j,k,l,m,n,o),(p,aw b,q.1,q.2.1,q.2.2.1,q.2.2.2.1,q.2.2.2.2.1,q.2.2.2.2.2.1,s),t,nat_lit 0))))) fun(a,b,(c,d,e,f,g,h),(i,j,k,l,m,n,o),p,q)=>U (ao (a,b,(c,d,e,f,g,h),(i,j,k,l,m,n,o),p,q))))))))))))) fun(a,b,(c,d,e,f,g,h),(i,j,k,l,m,n,o),p,q)=>U (ao (a,wrap .i64 (b+1),(c,d,e,f,g,h),(i,j,k,l,m,n,o),p,q))) (iD (af (aa (q=p.length)) (U (ao ((c,d,e,f,g,h,p),i,j,k,l,m,n,o)))))) (((g.length:Int),(0:Int),(a,b,c,d,e,f),([],(0:Int),(0:Int),(0:Int),[],[],[]),g,nat_lit 0))) fun((a,b,c,d,e,f,g),_,_,_,_,_,_,_)=>U ((a,b,c,d,e,f,g)))))
def tb37:=az 37 (aB 37 ae [] gQ zav yL [.cell 2 36] 82 []) tb100
def zaz:zTb tb37:=aC zau zay zax func37 rfl call37
def zaA:Nat->Option SPat:=fun k=>bif k==4 then U JF else bif k==2000000 then U dH else aj
def zaB:Nat->List Nat×a_:=fun id=>bif id==6 then(lN,.fin)else([],.fin)
def yM:List Fld×List Fld->Option Bool:=fun(a,b)=>
 ai (!aa ((a.length:Int)=(b.length:Int)))
 (U ag)
 (bindE (aE (fun(a,b,c,d)=>
 ai (aa (d<c))
 (af (aa (0<=d)) (aq a d.toNat fun e=>af (aa (0<=d)) (aq b d.toNat fun f=>ai (!(aa (e.1=f.1)&&(aa (e.2.1=f.2.1)&&(aa (e.2.2=f.2.2)&&ae))))
 (U (an (an ag)))
 (U (ao (a,b,c,wrap .i64 (d+1)))))))
 (U (an (ao ())))) ((a,b,(a.length:Int),(0:Int)))) fun _=>
 U ae)
def tb157:=az 157 (aB 157 ae [] JE dp yM [.tmp 4] 26 []) tb37
def zaC:zTb tb157:=aC zaz zaB zaA func157 rfl call157
abbrev JU:SPat:=⟨[(0,.sl bA),(3,.s),(11,.sl bA),(12,.i .i64),(13,.i .i64)],[]⟩
abbrev zNO:SPat:=⟨[(0,.sl bA),(3,.s)],[]⟩
def zaD:Nat->Option SPat:=fun k=>bif k==5 then U JU else bif k==2000000 then U zNO else bif k==2000002 then U JU else aj
def zaE:Nat->List Nat×a_:=fun id=>bif id==11 then([0,1,2,4,5],(.br 3 [2,1] [0,4,5] [] (.br 6 mA [0] [7,8] (.br 9 gq [] [] .fin .fin) .fin) .fin))else bif id==13 then([0,1,2,4,5],(.br 3 [2,1] [0,4,5] [] (.br 6 mA [0] [7,8] (.br 9 gq [] [] .fin .fin) .fin) .fin))else([],.fin)
def t_:List Fld->Option zBy:=fun a=>
 ai (aa (120<(a.length:Int)))
 (U ([]))
 (bindE (Y:=List Fld×zBy) (aE (fun(a,b,c,d,e)=>
 ai (aa (e<d))
 (af (aa (0<=e)) (aq c e.toNat fun f=>ah (qZ f.2.1) fun g=>
 bindE (Y:=List Fld×zBy×List Fld×Int×Int) (ai (aa (g=0))
 (ah (eB f.2.1) fun f=>
 af (aa (b.length+f.length<=9223372036854775807)) (U (ao (a,b++f,c,d,e))))
 (ai (aa (g=1))
 (ah (eB f.2.1) fun g=>
 ak (ak (af (aa (b=b)) (U ())) (ak (af (aa (f.2.2=f.2.2)) (U ())) (U ()))) (ah (eB f.2.2) fun f=>
 ak (ak (af (aa (b=b)) (U ())) (U ())) (af (aa (g.length+f.length<=9223372036854775807)) (af (aa (b.length+au (g++f)<=9223372036854775807)) (U (ao (a,b++(g++f),c,d,e)))))))
 (ai (aa (g=2))
 (ah (eB f.2.1) fun g=>
 ak (ak (af (aa (b=b)) (U ())) (ak (af (aa (f.2.2=f.2.2)) (U ())) (U ()))) (ah (fg f.2.2) fun f=>
 ak (ak (af (aa (b=b)) (U ())) (U ())) (af (aa (g.length+f.length<=9223372036854775807)) (af (aa (b.length+au (g++f)<=9223372036854775807)) (U (ao (a,b++(g++f),c,d,e)))))))
 (U (ao (a,b,c,d,e)))))) fun(a,b,c,d,e)=>
 U (ao (a,b,c,d,wrap .i64 (e+1)))))
 (U (an (ao (a,b))))) ((a,[],a,(a.length:Int),(0:Int)))) fun(a,b)=>
 ah (pB b) fun(c,d)=>
 ai (!d)
 (U ([]))
 (ah (yM (c,a)) fun a=>
 ai (!a)
 (U ([]))
 (U b)))
def tb102:=az 102 (aB 102 ae [] wZ fW t_ [.tmp 2] 64 []) tb157
def zaF:zTb tb102:=aC zaC zaE zaD func102 rfl call102
abbrev JV:SPat:=⟨[(2,.ptr 2 0)],[.box 2 (pl cy)]⟩
abbrev JW:SPat:=⟨[(1,.ptr 1 0),(2,.ptr 2 0),(3,.ar 3),(5,.own (.int .i64) ae),(6,.own bA ae),(7,.i .i64),(32,.ar 3),(33,.i .i64),(34,.i .i64)],[.box 1 (pl cy),.box 2 (pl h_),.arr 3 bA ae]⟩
abbrev JX:SPat:=⟨[(1,.ptr 1 0),(2,.ptr 2 0),(5,.own (.int .i64) ae),(6,.ar 6),(73,.ar 6),(74,.i .i64),(75,.i .i64)],[.box 1 (pl cy),.box 2 (pl h_),.arr 6 bA ae]⟩
abbrev JY:SPat:=⟨[(1,.ptr 1 0),(2,.ptr 2 0),(5,.own (.int .i64) ae),(12,.ptr 12 0),(107,.sl hY),(108,.i .i64),(109,.i .i64)],[.box 1 (pl cy),.box 2 (pl h_),.box 12 (pl h_)]⟩
abbrev zaG:SPat:=⟨[(2,.ptr 2 0),(5,.own (.int .i64) ae),(12,.ptr 12 0),(144,.sl cO),(145,.i .i64),(146,.i .i64)],[.box 2 (pl h_),.box 12 (pl h_)]⟩
abbrev zPK:SPat:=⟨[(1,.ptr 1 0),(2,.ptr 2 0),(3,.ar 3),(5,.own (.int .i64) ae),(6,.own bA ae),(7,.i .i64),(9,.ptr 9 0),(32,.ar 3),(33,.i .i64),(34,.i .i64)],[.box 1 (pl cy),.box 2 (pl h_),.arr 3 bA ae,.box 9 (pl fx)]⟩
abbrev zPJ:SPat:=⟨[(2,.ptr 2 0),(5,.own (.int .i64) ae),(12,.ptr 12 0),(16,.ptr 16 0),(17,.i .i64),(144,.sl cO),(145,.i .i64),(146,.i .i64),(172,.b)],[.box 2 (pl h_),.box 12 (pl h_),.box 16 (pl wP)]⟩
abbrev zPI:SPat:=⟨[(2,.ptr 2 0),(5,.own (.int .i64) ae),(12,.ptr 12 0),(16,.ptr 16 0),(144,.sl cO),(145,.i .i64),(146,.i .i64)],[.box 2 (pl h_),.box 12 (pl h_),.box 16 (pl wP)]⟩
abbrev zPH:SPat:=⟨[(1,.ptr 1 0),(2,.ptr 2 0),(5,.own (.int .i64) ae),(6,.own bA ae),(7,.i .i64)],[.box 1 (pl cy),.box 2 (pl h_)]⟩
abbrev zPG:SPat:=⟨[(1,.ptr 1 0),(2,.ptr 2 0),(5,.own (.int .i64) ae),(6,.own bA ae)],[.box 1 (pl cy),.box 2 (pl h_)]⟩
abbrev zPF:SPat:=⟨[(1,.ptr 1 0),(2,.ptr 2 0),(5,.own (.int .i64) ae),(12,.ptr 12 0)],[.box 1 (pl cy),.box 2 (pl h_),.box 12 (pl h_)]⟩
abbrev zPE:SPat:=⟨[(2,.ptr 2 0),(12,.ptr 12 0)],[.box 2 (pl h_),.box 12 (pl h_)]⟩
def zaH:Nat->Option SPat:=fun k=>bif k==8 then U JW else bif k==18 then U JX else bif k==25 then U JY else bif k==32 then U zaG else bif k==1000012 then U zPK else bif k==1000037 then U zPJ else bif k==1000038 then U zPI else bif k==2000000 then U zPH else bif k==2000001 then U JW else bif k==2000002 then U zPG else bif k==2000003 then U JX else bif k==2000004 then U zPF else bif k==2000005 then U JY else bif k==2000006 then U zPE else aj
def zaI:Nat->List Nat×a_:=fun id=>bif id==23 then(lM,(.br 11 [10] nI [12] (.br 13 [] [0,1,2,3,4,5,6,7,8,9,10,12] [] (.br 14 jB [] [] .fin .fin) .fin) (.br 13 [] lM [] (.br 11 [10] nI [12] (.br 14 jB [] [] .fin .fin) .fin) .fin)))else bif id==27 then(wL,(.br 16 [15,12,11,7,6,4,3,2,1,0] [5,8,9,10,13,14] [17] (.br 18 [17,16,15,12,11,9,8,7,6,5,4,3,2,1,0] [10,13,14] [19] (.br 20 IA [] [] .fin .fin) .fin) .fin))else bif id==36 then([0,1,2,3,4,5,6,7,8,9,10,11,12,13],.fin)else([],.fin)
def ua:Mth->Option Mth:=fun(a,b,c,d,e,f,g,h)=>ah (pB f) fun(i,j)=>ai (!j) (U ((a,b,c,d,e,f,g,h))) (af (aa (wrap .i64 ((f.length:Int)+1)=wrap .i64 ((f.length:Int)+1))&&aa (0<=wrap .i64 ((f.length:Int)+1))&&aa (wrap .i64 ((f.length:Int)+1)<=9223372036854775807)&&aa (wrap .i64 ((f.length:Int)+1)*8<=140737488355328)) (bindE (Y:=List Int×List Fld×Int×Mth×Mth) (aE (fun(a,b,c,d,e,(f,g,h,i,j,k,l,m),(n,o,p,q,r,s,t,u),v)=>ai (aa (e<d)) (bindE (Y:=List Int×List Fld×Int×Int×Int×Mth×Mth×List Fld) (af (aa (0<=e)&&aa (e<(v.length:Int))) (aq v e.toNat fun w=>af (aa (0<=w.1)&&aa (w.1<(a.length:Int))) (aq a w.1.toNat fun _=>bindE (Y:=List Int×List Fld×Int×Int×Int×Mth×Mth×List Fld×Int×Int×Int) (let x:=U (ao (List.set a w.1.toNat c,b,c,d,e,(f,g,h,i,j,k,l,m),(n,o,p,q,r,s,t,u),v,w.1,w.2.1,w.2.2));ai (aa (w.2.1=0)) (ai (aa (e<wrap .i64 ((v.length:Int)-1))) (U (an (ao (List.set a w.1.toNat c,b,c,d,e,(f,g,h,i,j,k,l,m),(n,o,p,q,r,s,t,u),v)))) x) x) fun(a,b,c,d,e,(f,g,h,i,j,k,l,m),(n,o,p,q,r,s,t,u),v,_,w,x)=>af (aa (b.length+1<=9223372036854775807)&&aa ((b.length+1)*24<=140737488355328)) (ah (qZ w) fun y=>U (ao (a,b++[(c,w,x)],wrap .i64 (c+wrap .i64 ((1:Int)+y)),d,e,(f,g,h,i,j,k,l,m),(n,o,p,q,r,s,t,u),v)))))) fun(a,b,c,d,e,(f,g,h,i,j,k,l,m),(n,o,p,q,r,s,t,u),v)=>U (ao (a,b,c,d,wrap .i64 (e+1),(f,g,h,i,j,k,l,m),(n,o,p,q,r,s,t,u),v))) (U (an (ao (a,b,c,(f,g,h,i,j,k,l,m),n,o,p,q,r,s,t,u))))) ((List.replicate (aw (wrap .i64 ((f.length:Int)+1))) (0:Int),[],(0:Int),(i.length:Int),(0:Int),(a,b,c,d,e,f,g,h),((0:Int),(0:Int),(0:Int),(0:Int),(0:Int),[],[],[]),i))) fun(a,b,c,(d,e,f,g,h,i,j,k),l,m,n,o,p,q,r,s)=>af (aa (0<=(i.length:Int))&&aa ((i.length:Int)<(a.length:Int))) (aq a (aw (i.length:Int)) fun _=>bindE (Y:=List Int×List Fld×Mth×Mth) (aE (fun(a,b,c,(d,e,f,g,h,i,j,k),(l,m,n,o,p,q,r,s),t)=>ai (aa (c<b)) (bindE (Y:=List Int×Int×Int×Mth×Mth×List Fld) (af (aa (0<=c)&&aa (c<(t.length:Int))) (aq t c.toNat fun u=>ah (q_ u.2.1) fun v=>ai v (af (aa (0<=u.2.2)&&aa (u.2.2<(a.length:Int))) (aq a u.2.2.toNat fun u=>af (aa (0<=c)&&aa (c<(t.length:Int))) (aq t c.toNat fun v=>U (ao (a,b,c,(d,e,f,g,h,i,j,k),(l,m,n,o,p,q,r,s),List.set t c.toNat (v.1,v.2.1,u)))))) (U (ao (a,b,c,(d,e,f,g,h,i,j,k),(l,m,n,o,p,q,r,s),t))))) fun(a,b,c,(d,e,f,g,h,i,j,k),(l,m,n,o,p,q,r,s),t)=>U (ao (a,b,wrap .i64 (c+1),(d,e,f,g,h,i,j,k),(l,m,n,o,p,q,r,s),t))) (U (an (ao (a,t,(d,e,f,g,h,i,j,k),l,m,n,o,p,q,r,s))))) ((List.set a (aw (i.length:Int)) c,(b.length:Int),(0:Int),(d,e,f,g,h,i,j,k),(l,m,n,o,p,q,r,s),b))) fun(a,b,(c,d,e,f,g,h,i,j),k,l,m,n,o,p,q,r)=>let a:=fun(b:zBy)=>bindE (Y:=List Int×Mth×Mth×Mth) (aE (fun(a,b,c,d,(e,f,g,h,i,j,k,l),(m,n,o,p,q,r,s,t),u,v,w,x,y,z,A,B)=>ai (aa (d<c)) (bindE (Y:=List Int×List Trp×Int×Int×Mth×Mth×Mth) (af (aa (0<=d)) (aq b d.toNat fun C=>af (aa (0<=C.1)&&aa (C.1<(a.length:Int))) (aq a C.1.toNat fun D=>af (aa (0<=C.2.1)&&aa (C.2.1<(a.length:Int))) (aq a C.2.1.toNat fun E=>af (aa (0<=C.2.2.1)&&aa (C.2.2.1<(a.length:Int))) (aq a C.2.2.1.toNat fun G=>let H:=ak (af (aa (0<=C.2.2.1)&&aa (C.2.2.1<(a.length:Int))) (af (C.2.2.1.toNat==C.2.2.1.toNat&&ae) (U ()))) (ak (aq a C.2.2.1.toNat fun a=>af (aa (a=G)) (U ())) (U ()));ak (ak (af (aa (0<=C.2.1)&&aa (C.2.1<(a.length:Int))) (af (C.2.1.toNat==C.2.1.toNat&&ae) (U ()))) (ak (aq a C.2.1.toNat fun a=>af (aa (a=E)) (U ())) H)) (ak H (ai (aa (D<E)) (af (aa (A.length+1<=9223372036854775807)&&aa ((A.length+1)*32<=140737488355328)) (U (ao (a,b,c,d,(e,f,g,h,i,j,k,l),(m,n,o,p,q,r,s,t),u,v,w,x,y,z,A++[(D,E,G,C.2.2.2)],B)))) (U (ao (a,b,c,d,(e,f,g,h,i,j,k,l),(m,n,o,p,q,r,s,t),u,v,w,x,y,z,A,B)))))))))) fun(a,b,c,d,(e,f,g,h,i,j,k,l),(m,n,o,p,q,r,s,t),u,v,w,x,y,z,A,B)=>U (ao (a,b,c,wrap .i64 (d+1),(e,f,g,h,i,j,k,l),(m,n,o,p,q,r,s,t),u,v,w,x,y,z,A,B))) (U (an (ao (a,(e,f,g,h,i,j,k,l),(m,n,o,p,q,r,s,t),u,v,w,x,y,z,A,B))))) ((a,i,(i.length:Int),(0:Int),(c,d,e,f,g,h,i,j),(k,l,m,n,o,p,q,r),c,d,e,f,g,b,[],[]))) fun(a,(_,_,_,_,_,_,_,b),(c,d,e,f,g,h,i,j),k,l,m,n,o,p,q,r)=>bindE (Y :=  Mth×Mth) (aE (fun(a,b,c,d,(e,f,g,h,i,j,k,l),m,n,o,p,q,r,s,t)=>ai (aa (d<c)) (af (aa (0<=d)) (aq b d.toNat fun u=>af (aa (0<=u.1)&&aa (u.1<(a.length:Int))) (aq a u.1.toNat fun v=>bindE (Y:=List Int×List Frm×Int×Int×Mth×Mth×Frm) (bindE (Y:=List Int×Int×List Frm×Int×Int×Bool×Mth×Mth×Frm) (ai (aa (0<(t.length:Int))) (af (aa (0<=wrap .i64 ((t.length:Int)-1))&&aa (wrap .i64 ((t.length:Int)-1)<(t.length:Int))) (aq t (aw (wrap .i64 ((t.length:Int)-1))) fun w=>U (ao (a,(t.length:Int),b,c,d,aa (w.1=v),(e,f,g,h,i,j,k,l),(m,n,o,p,q,r,s,t),v,u.2.1,u.2.2)))) (U (ao (a,(t.length:Int),b,c,d,ag,(e,f,g,h,i,j,k,l),(m,n,o,p,q,r,s,t),v,u.2.1,u.2.2)))) fun(a,b,c,d,e,f,(g,h,i,j,k,l,m,n),(o,p,q,r,s,t,u,v),w,x,y)=>ai f (af (aa (0<=wrap .i64 (b-1))&&aa (wrap .i64 (b-1)<=(v.length:Int))) (U (ao (a,c,d,e,(g,h,i,j,k,l,m,n),(o,p,q,r,s,t,u,cU (0:Nat) (de (aw (wrap .i64 (b-1))) v)),w,x,y)))) (U (ao (a,c,d,e,(g,h,i,j,k,l,m,n),(o,p,q,r,s,t,u,v),w,x,y)))) fun(a,b,c,d,(e,f,g,h,i,j,k,l),(m,n,o,p,q,r,s,t),u,v,w)=>af (aa (t.length+1<=9223372036854775807)&&aa ((t.length+1)*56<=140737488355328)) (U (ao (a,b,c,wrap .i64 (d+1),(e,f,g,h,i,j,k,l),m,n,o,p,q,r,s,t++[(u,v,w)])))))) (U (an (ao ((e,f,g,h,i,j,k,l),m,n,o,p,q,r,s,t))))) ((a,b,(b.length:Int),(0:Int),(c,d,e,f,g,h,i,j),k,l,m,n,o,p,q,r))) fun((_,_,_,_,_,_,_,_),a,b,c,d,e,f,g,h)=>U ((a,b,c,d,e,f,g,h));let h:=ak (af (aa (c=c)) (U ())) (ak (af (aa (d=d)) (U ())) (ak (af (aa (e=e)) (U ())) (ak (af (aa (f=f)) (U ())) (ak (af (aa (g=g)) (U ())) (U ())))));ca (ah (t_ b) fun b=>ak h (ak (ak (af (aa (c=c)) (U ())) (ak (af (aa (d=d)) (U ())) (ak (af (aa (e=e)) (U ())) (ak (af (aa (f=f)) (U ())) (ak (af (aa (g=g)) (U ())) (ak (af (aa (c=c)&&(aa (d=d)&&(aa (e=e)&&(aa (f=f)&&(aa (g=g)&&(aa (b=b)&&ae)))))) (U ())) (U ()))))))) (a b))) (ak h (ah (t_ b) fun b=>ak h (a b))))))
def tb38:=az 38 (aB 38 ag [] xp JV ua [.cell 2 72] 187 []) tb102
def zaJ:zTb tb38:=aC zaF zaI zaH func38 rfl call38
abbrev Dg:SPat:=⟨[(2,.ptr 2 0)],[.box 2 (pl tc)]⟩
abbrev JZ:SPat:=⟨[(2,.ptr 2 0),(3,.ptr 3 0),(13,.ar 7013),(14,.i .i64),(15,.i .i64)],[.box 2 (pl eW),.box 3 (pl [.own cD ag,.i .i64,.i .i64,.i .i64,.own (.int .i64) ag,.own bA ag,.ar 7013]),.arr 7013 cE ag]⟩
abbrev J0:SPat:=⟨[(2,.ptr 2 0),(3,.ptr 3 0)],[.box 2 (pl eW),.box 3 (pl tc)]⟩
def zaK:Nat->Option SPat:=fun k=>bif k==5 then U JZ else bif k==2000000 then U J0 else bif k==2000001 then U JZ else aj
def zaL:Nat->List Nat×a_:=fun id=>bif id==3000004 then([8000000],.fin)else bif id==8 then([0,1,2,3],(.br 4 [3] hZ [5] (.br 6 [5,4,3,2,1,0] [] [] .fin .fin) .fin))else([],.fin)
def nW:Cls->Option Cls:=fun(a,b,c,d,e,f,g)=>
 ah (F9 (a,b,c,d,e,f,g)) fun h=>
 ai (!aa (h=0))
 (U (([],(0:Int),(0:Int),(0:Int),[],[],[])))
 (ah (yL (a,b,c,d,e,f,g)) fun(a,b,c,d,e,f,g)=>
 bindE (Y :=  Cls×Cls) (aE (fun(a,b,(c,d,e,f,g,h,i),(j,k,l,m,n,o),p)=>
 ai (aa (b<a))
 (bindE (Y:=Int×Int×Cls×(List Cst×Int×Int×Int×List Int×List Fld)×List Mth) (af (aa (0<=b)&&aa (b<(p.length:Int))) (aq p b.toNat fun q=>ah (k9 q.1) fun r=>
 ai (!r)
 (ah (ua (q.1,q.2.1,q.2.2.1,q.2.2.2.1,q.2.2.2.2.1,q.2.2.2.2.2.1,q.2.2.2.2.2.2.1,q.2.2.2.2.2.2.2)) fun(q,r,s,t,u,v,w,x)=>
 ak (ak (af (aa (b=b)) (U ())) (U ())) (af (aa (0<=b)&&aa (b<(p.length:Int))) (aq p b.toNat fun _=>U (ao (a,b,(c,d,e,f,g,h,i),(j,k,l,m,n,o),List.set p b.toNat (q,r,s,t,u,v,w,x))))))
 (U (ao (a,b,(c,d,e,f,g,h,i),(j,k,l,m,n,o),p))))) fun(a,b,(c,d,e,f,g,h,i),(j,k,l,m,n,o),p)=>
 U (ao (a,wrap .i64 (b+1),(c,d,e,f,g,h,i),(j,k,l,m,n,o),p)))
 (U (an (ao ((c,d,e,f,g,h,i),j,k,l,m,n,o,p))))) (((g.length:Int),(0:Int),([],(0:Int),(0:Int),(0:Int),[],[],[]),(a,b,c,d,e,f),g))) fun((_,_,_,_,_,_,_),a,b,c,d,e,f,g)=>
 U ((a,b,c,d,e,f,g)))
def tb11:=az 11 (aB 11 ag [] gQ Dg nW [.cell 2 36] 32 []) tb38
def zaM:zTb tb11:=aC zaJ zaL zaK func11 rfl call11
abbrev zaN:SPat:=⟨[(0,.sl cw),(1,.fn 11 (pl []))],[]⟩
abbrev zaO:SPat:=⟨[(4,.own cw ae)],[]⟩
abbrev J1:SPat:=⟨[(1,.fn 11 (pl [])),(5,.ar 5),(17,.ar 5),(18,.i .i64),(19,.i .i64)],[.arr 5 cw ae]⟩
abbrev J2:SPat:=⟨[(1,.fn 11 (pl [])),(5,.ar 5),(7,.ptr 7 0),(17,.ar 5),(18,.i .i64),(19,.i .i64),(24,.ar 1022),(25,.i .i64),(26,.i .i64)],[.opn 5 cw (.all ae) (pl wR),.box 7 (pl wR),.arr 1022 lK ae,.arr 2022 my ae]⟩
abbrev zJW:SPat:=⟨[(1,.fn 11 (pl [])),(5,.ar 5),(7,.ptr 7 0),(8,.i .i64),(10,.ptr 10 0),(17,.ar 5),(18,.i .i64),(19,.i .i64),(24,.ar 1022),(25,.i .i64),(26,.i .i64),(42,.b)],[.opn 5 cw (.all ae) (pl wR),.box 7 (pl wR),.box 10 (pl ch),.arr 1022 lK ae,.arr 2022 my ae]⟩
abbrev zJV:SPat:=⟨[(5,.own cw ae)],[]⟩
abbrev zJU:SPat:=⟨[(1,.fn 11 (pl [])),(5,.ar 5),(17,.ar 5),(18,.i .i64),(19,.i .i64)],[.opn 5 cw (.all ae) (pl pd)]⟩
def zaP:Nat->Option SPat:=fun k=>bif k==5 then U J1 else bif k==8 then U J2 else bif k==1000012 then U zJW else bif k==2000000 then U zJV else bif k==2000001 then U J1 else bif k==2000002 then U zJU else bif k==2000003 then U J2 else aj
def zaQ:Nat->List Nat×a_:=fun id=>bif id==3000010 then([6000000],.fin)else bif id==3000006 then([7000000],.fin)else bif id==12 then([0,1,2,3,4],(.br 5 [4,3] hZ [] (.br 6 [5,4,3] hZ [7,8] (.br 9 gq [] [] .fin .fin) .fin) .fin))else([],.fin)
def yN:List zLdr->Option (List zLdr):=fun a=>
 ah (tK a) fun b=>
 ai (!b)
 (U ([]))
 (ah (tL a) fun a=>
 bindE (Y:=List zLdr) (aE (fun(a,b,c)=>
 ai (aa (b<a))
 (bindE (Y:=Int×Int×List zLdr) (af (aa (0<=b)&&aa (b<(c.length:Int))) (aq c b.toNat fun d=>af (aa (aw b=aw b)&&aa (aw b<c.length)) (af (aa (aw b=aw b)&&aa (aw b<c.length)) (af (aa (aw b=aw b)&&aa (aw b<c.length)) (af (aa (aw b=aw b)&&aa (aw b<c.length)) (af (aa (aw b=aw b)&&aa (aw b<c.length)) (af (aa (aw b=aw b)&&aa (aw b<c.length)) (bindE (Y:=Int×Int×List zLdr×Nat×zLdr) (af (aa (aw b=aw b)&&aa (aw b<c.length)) (af (aa (aw b=aw b)&&aa (aw b<c.length)) (aE (fun(a,b,c,d,(e,f,g),h,i,j)=>
 ai (aa (d<c))
 (bindE (Y:=Int×Int×Int×Int×(List zLdr×Nat×Int)×Int×List (zBy×zBy)×List (zBy×Int)) (af (aa (0<=d)&&aa (d<(i.length:Int))) (aq i d.toNat fun k=>ah (F8 k.2) fun(k,l,m,n,o,p,q,r)=>
 bindE (Y:=Int×Int×Int×Int×Int×Bool×(List zLdr×Nat×Int)×Int×Cls×List (zBy×zBy)×List (zBy×Int)) (ai (k)
 (ah (F9 (l,m,n,o,p,q,r)) fun k=>
 af (aa (f=f)&&aa (f<e.length)) (af (aa (f=f)&&aa (f<e.length)) (U (ao (d,a,b,c,d,aa (k=0),(e,f,g),h,(l,m,n,o,p,q,r),i,j)))))
 (af (aa (f=f)&&aa (f<e.length)) (af (aa (f=f)&&aa (f<e.length)) (U (ao (d,a,b,c,d,ag,(e,f,g),h,(l,m,n,o,p,q,r),i,j)))))) fun(a,b,c,d,e,f,(g,h,i),j,(k,l,m,n,o,p,q),r,s)=>
 ai (f)
 (ah (nW (k,l,m,n,o,p,q)) fun(f,k,l,m,n,o,p)=>
 ak (ak (af (aa (a=a)) (U ())) (U ())) (ah (px (f,k,l,m,n,o,p)) fun f=>
 ak (ak (af (aa (a=a)) (U ())) (U ())) (af (aa (0<=a)&&aa (a<(r.length:Int))) (aq r a.toNat fun k=>af (aa (h=h)&&aa (h<g.length)) (af (aa (h=h)&&aa (h<g.length)) (U (ao (b,c,d,e,(g,h,i),j,List.set r a.toNat (k.1,f),s))))))))
 (af (aa (h=h)&&aa (h<g.length)) (af (aa (h=h)&&aa (h<g.length)) (U (ao (b,c,d,e,(g,h,i),j,r,s))))))) fun(a,b,c,d,(e,f,g),h,i,j)=>
 af (aa (f=f)&&aa (f<e.length)) (af (aa (f=f)&&aa (f<e.length)) (U (ao (a,b,c,wrap .i64 (d+1),(e,f,g),h,i,j)))))
 (iD (af (aa (f<e.length)) (af (aa (f=f)&&aa (f<e.length)) (af (aa (f<e.length)) (af (aa (f=f)&&aa (f<e.length)) (U (ao (a,b,e,f,i,j,g))))))))) ((a,b,(d.1.length:Int),(0:Int),(c,aw b,d.2.2),d.2.2,d.1,d.2.1))))) fun(a,b,c,d,e,f,g)=>
 af (aa (d<c.length)) (U (ao (a,b,List.set c d (e,f,g)))))))))))) fun(a,b,c)=>
 U (ao (a,wrap .i64 (b+1),c)))
 (U (an (ao c)))) (((a.length:Int),(0:Int),a))) fun a=>
 U a)
def zWm:=az 12015 (aB 15 ae [] zaN zaO yN [.tmp 4] 55 []) tb11
def zaR:zTb zWm:=aC zaM zaQ zaP func15 rfl call15
def F5:List zLdr->Option (List zLdr):=fun a=>
 ah (yN a) fun a=>
 U (a)
def tb5:=az 5 (aB 5 ae [] mI tJ F5 [.tmp 2] 5 []) zWm
def ok5:zTb tb5:=aC zaR aI aR func5 rfl call5
def yO:zBy->Option Int:=fun a=>
 ai (aa (a=[(79:UInt8),98,106]))
 (U ((0:Int)))
 (ai (aa (a=[(69:UInt8),114,114]))
 (U ((1:Int)))
 (U ((-1:Int))))
def tb113:=az 113 (aB 113 ae [] fy kr yO [.tmp 2] 8 []) tb5
def zaS:zTb tb113:=aC ok5 aI aR func113 rfl call113
abbrev zaT:SPat:=⟨[(0,.agg (pl qP)),(1,.agg (pl gu))],[]⟩
abbrev Dh:SPat:=⟨[(2,.ptr 2 0),(3,.ptr 3 0),(5,.i .i64)],[.box 2 (pl qP),.box 3 (pl gu)]⟩
abbrev zaU:SPat:=⟨[(2,.ptr 2 0),(3,.ptr 3 0),(5,.i .i64),(6,.ptr 6 0),(7,.i .i64)],[.box 2 (pl qP),.box 3 (pl gu),.box 6 (pl [.s,.s])]⟩
abbrev J3:SPat:=⟨[(2,.ptr 2 0),(3,.ptr 3 0),(8,.i .i64)],[.box 2 (pl qP),.box 3 (pl gu)]⟩
abbrev zOz:SPat:=⟨[(2,.ptr 2 0),(3,.ptr 3 0),(5,.i .i64),(6,.ptr 6 0)],[.box 2 (pl qP),.box 3 (pl gu),.box 6 (pl [.s,.s])]⟩
abbrev J4:SPat:=⟨[(2,.ptr 2 0),(3,.ptr 3 0)],[.box 2 (pl qP),.box 3 (pl gu)]⟩
def zaV:Nat->Option SPat:=fun k=>bif k==2 then U Dh else bif k==8 then U zaU else bif k==13 then U J3 else bif k==1000007 then U zOz else bif k==2000000 then U J4 else bif k==2000001 then U Dh else bif k==2000002 then U Dh else bif k==2000004 then U J4 else bif k==2000005 then U J3 else aj
def zaW:Nat->List Nat×a_:=fun id=>bif id==10 then(lN,.fin)else bif id==15 then(fT,(.br 6 [5,4,3,2,1,0] [] [7,8,9,10,11,12,13,14,15,16,17,18] (.br 19 wM [] [20,21,22,23,24,25,26,27,28,29,30,31,32,33,34,35,36,37,38,39,40,41] .fin .fin) .fin))else([],.fin)
def yP:zWor×zLdr->Option Bool:=fun((a,b,c,d),e,f,g)=>
 bindE (Y:=zWor×zLdr) (aE (fun(a,(b,c,d,e),f,g,h)=>
 ai (aa (a<(f.length:Int)))
 (bindE (Y:=Int×zWor×zLdr) (af (aa (0<=a)) (aq f a.toNat fun i=>bindE (Y:=Int×zWor×(zLdr)×zBy×zBy) (ah (kZ i.1) fun j=>
 ai (!j)
 (U (an (an (an (an ag)))))
 (ah (yO i.1) fun j=>
 ai (aa (0<=j))
 (U (an (an (an (an ag)))))
 (ai (aa (900<(i.2.length:Int)))
 (U (an (an (an (an ag)))))
 (U (ao (a,(b,c,d,e),(f,g,h),i.1,i.2)))))) fun(a,(b,c,d,e),(f,g,h),i,j)=>
 bindE (Y:=Int×zWor×zLdr) (aE (fun(a,b,(c,d,e,f),(g,h,i),j,k)=>
 ai (aa (b<a))
 (af (aa (0<=b)) (aq g b.toNat fun l=>ai (aa (l.1=j))
 (U (an (an (an (an (an ag))))))
 (U (ao (a,wrap .i64 (b+1),(c,d,e,f),(g,h,i),j,k)))))
 (U (an (ao (a,(c,d,e,f),g,h,i))))) ((a,(0:Int),(b,c,d,e),(f,g,h),i,j))) fun(a,(b,c,d,e),f,g,h)=>
 U (ao (a,(b,c,d,e),f,g,h)))) fun(a,(b,c,d,e),f,g,h)=>
 U (ao (wrap .i64 (a+1),(b,c,d,e),f,g,h)))
 (U (an (ao ((b,c,d,e),f,g,h))))) (((0:Int),(a,b,c,d),e,f,g))) fun((a,b,c,d),e,f,g)=>
 bindE (Y:=zWor×zLdr) (aE (fun(a,(b,c,d,e),f,g,h)=>
 ai (aa (a<(g.length:Int)))
 (bindE (Y:=Int×zWor×zLdr) (af (aa (0<=a)) (aq g a.toNat fun i=>ah (kZ i.1) fun i=>
 ai (!i)
 (U (an (an (an ag))))
 (af (aa (0<=a)) (aq g a.toNat fun i=>ah (eY (i.2,(0:Int),wrap .i64 ((b.length:Int)-1))) fun i=>
 ai (!i)
 (U (an (an (an ag))))
 (ai (aa (0<a))
 (af (aa (0<=a)) (aq g a.toNat fun i=>af (aa (0<=wrap .i64 (a-1))) (aq g (aw (wrap .i64 (a-1))) fun j=>ai (Op.bytesLess i.1 j.1||aa (i.1=j.1))
 (U (an (an (an ag))))
 (U (ao (a,(b,c,d,e),f,g,h))))))
 (U (ao (a,(b,c,d,e),f,g,h)))))))) fun(a,(b,c,d,e),f,g,h)=>
 U (ao (wrap .i64 (a+1),(b,c,d,e),f,g,h)))
 (U (an (ao ((b,c,d,e),f,g,h))))) (((0:Int),(a,b,c,d),e,f,g))) fun((a,_,_,_),b,c,d)=>
 ai (aa ((b.length:Int)<=5))
 (ai (aa ((c.length:Int)<=4))
 (ah (eY (d,(-1:Int),wrap .i64 ((a.length:Int)-1))) fun a=>
 U a)
 (U ag))
 (U ag)
def tb48:=az 48 (aB 48 ae [] zaT dp yP [.tmp 4] 119 []) tb113
def zaX:zTb tb48:=aC zaS zaW zaV func48 rfl call48
abbrev zaY:SPat:=⟨[(0,.sl cw),(3,.i .i64)],[]⟩
def zaZ:Nat->Option SPat:=fun k=>bif k==2 then U zaY else bif k==2000000 then U mI else aj
def yQ:List zLdr->Option Bool:=fun a=>
 bindE (Y:=List zLdr) (aE (fun(a,b)=>
 ai (aa (b<(a.length:Int)))
 (af (aa (0<=b)) (aq a b.toNat fun c=>ah (yP ((a,[],[],[]),c.1,c.2.1,c.2.2)) fun c=>
 ai (!c)
 (U (an (an ag)))
 (U (ao (a,wrap .i64 (b+1))))))
 (U (an (ao a)))) ((a,(0:Int)))) fun a=>
 ah (eY ((a.length:Int),1,3)) fun a=>
 U (a)
def tb16:=az 16 (aB 16 ae [] mI e7 yQ [.tmp 2] 21 []) tb48
def za0:zTb tb16:=aC zaX aI zaZ func16 rfl call16
abbrev za1:SPat:=⟨[(0,.sl cw),(3,.own cw ae),(4,.i .i64)],[]⟩
def za2:Nat->Option SPat:=fun k=>bif k==3 then U za1 else bif k==2000000 then U CS else aj
def yR:List zLdr->Option (List zLdr):=fun a=>
 bindE (Y:=List zLdr) (aE (fun(a,b,c)=>
 ai (aa (c<(a.length:Int)))
 (af (aa (0<=c)) (aq a c.toNat fun d=>af (aa (d.1.length<=9223372036854775807)&&aa (d.1.length*32<=140737488355328)) (af (aa (d.2.1.length<=9223372036854775807)&&aa (d.2.1.length*24<=140737488355328)) (af (aa (b.length+1<=9223372036854775807)&&aa ((b.length+1)*56<=140737488355328)) (U (ao (a,b++[(d.1,d.2.1,d.2.2)],wrap .i64 (c+1))))))))
 (U (an (ao b)))) ((a,[],(0:Int)))) fun a=>
 U (a)
def tb17:=az 17 (aB 17 ae [] mI tJ yR [.tmp 2] 32 []) tb16
def za3:zTb tb17:=aC za0 aI za2 func17 rfl call17
def yS:Cls->Option Int:=fun(a,b,c,d,e,f,g)=>
 ah (tw (a,b,c,d,e,f,g)) fun h=>
 ai (aa (h=[]))
 (U ((1:Int)))
 (ah (pq (a,b,c,d,e,f,g)) fun a=>
 U a)
def tb60:=az 60 (aB 60 ae [] gQ kr yS [.tmp 2] 8 []) tb17
def za4:zTb tb60:=aC za3 aI aR func60 rfl call60
abbrev za5:SPat:=⟨[(2,.ptr 2 0)],[.box 2 (pl Cv)]⟩
abbrev za6:SPat:=⟨[(1,.ptr 1 0),(2,.ptr 2 0),(3,.ptr 3 0),(4,.i .i64)],[.box 1 (pl cy),.box 2 (pl fR),.box 3 (pl Cv)]⟩
abbrev zNF:SPat:=⟨[(2,.ptr 2 0),(3,.ptr 3 0)],[.box 2 (pl fR),.box 3 (pl Cv)]⟩
def za7:Nat->Option SPat:=fun k=>bif k==5 then U za6 else bif k==2000000 then U zNF else aj
def ub:Mth->Option Mth:=fun(a,b,c,d,e,f,g,h)=>
 af (aa (g.length<=9223372036854775807)&&aa (g.length*32<=140737488355328)) (bindE (Y :=  Mth×Mth) (aE (fun(a,(b,c,d,e,f,g,h,i),(j,k,l,m,n,o,p,q),r,s,t,u,v,w,x,y)=>
 ai (aa (a<(i.length:Int)))
 (af (aa (0<=a)) (aq i a.toNat fun z=>af (aa (z.2.1.length<=9223372036854775807)&&aa (z.2.1.length*16<=140737488355328)) (af (aa (z.2.2.length<=9223372036854775807)&&aa (z.2.2.length*16<=140737488355328)) (af (aa (y.length+1<=9223372036854775807)&&aa ((y.length+1)*56<=140737488355328)) (U (ao (wrap .i64 (a+1),(b,c,d,e,f,g,h,i),(j,k,l,m,n,o,p,q),r,s,t,u,v,w,x,y++[(z.1,z.2.1,z.2.2)])))))))
 (U (an (ao ((j,k,l,m,n,o,p,q),r,s,t,u,v,w,x,y))))) (((0:Int),(a,b,c,d,e,f,g,h),((0:Int),(0:Int),(0:Int),(0:Int),(0:Int),[],[],[]),a,b,c,d,e,f,g,[]))) fun((_,_,_,_,_,_,_,_),a,b,c,d,e,f,g,h)=>
 U ((a,b,c,d,e,f,g,h)))
def tb133:=az 133 (aB 133 ae [] xp za5 ub [.cell 2 72] 42 []) tb60
def za8:zTb tb133:=aC za4 aI za7 func133 rfl call133
abbrev za9:SPat:=⟨[(1,.ptr 1 0),(2,.ptr 2 0),(3,.ptr 3 0),(4,.i .i64)],[.box 1 (pl ch),.box 2 (pl ID),.box 3 (pl tc)]⟩
abbrev zOv:SPat:=⟨[(2,.ptr 2 0),(3,.ptr 3 0)],[.box 2 (pl ID),.box 3 (pl tc)]⟩
def zba:Nat->Option SPat:=fun k=>bif k==7 then U za9 else bif k==2000000 then U zOv else aj
def zbb:Nat->List Nat×a_:=fun id=>bif id==3000009 then([6500000],.fin)else bif id==9 then(fK,(.br 7 [6,5,4,3,2] [0,1] [] (.br 8 [7,6,5,4,3,2] [0,1] [] (.br 9 gq [] [10] (.br 11 fw [] [] .fin .fin) .fin) .fin) .fin))else([],.fin)
def yT:Cls->Option Cls:=fun(a,b,c,d,e,f,g)=>
 af (aa (a.length<=9223372036854775807)&&aa (a.length*40<=140737488355328)) (af (aa (e.length<=9223372036854775807)&&aa (e.length*8<=140737488355328)) (af (aa (f.length<=9223372036854775807)&&aa (f.length*24<=140737488355328)) (bindE (Y :=  Cls×Cls) (aE (fun(a,(b,c,d,e,f,g,h),(i,j,k,l,m,n,o),p,q,r,s,t,u,v)=>
 ai (aa (a<(h.length:Int)))
 (af (aa (0<=a)) (aq h a.toNat fun w=>ah (ub (w.1,w.2.1,w.2.2.1,w.2.2.2.1,w.2.2.2.2.1,w.2.2.2.2.2.1,w.2.2.2.2.2.2.1,w.2.2.2.2.2.2.2)) fun(w,x,y,z,A,B,C,D)=>
 af (aa (v.length+1<=9223372036854775807)&&aa ((v.length+1)*104<=140737488355328)) (U (ao (wrap .i64 (a+1),(b,c,d,e,f,g,h),(i,j,k,l,m,n,o),p,q,r,s,t,u,v++[(w,x,y,z,A,B,C,D)])))))
 (U (an (ao ((i,j,k,l,m,n,o),p,q,r,s,t,u,v))))) (((0:Int),(a,b,c,d,e,f,g),([],(0:Int),(0:Int),(0:Int),[],[],[]),a,b,c,d,e,f,[]))) fun((_,_,_,_,_,_,_),a,b,c,d,e,f,g)=>
 U ((a,b,c,d,e,f,g)))))
def tb61:=az 61 (aB 61 ag [] gQ Dg yT [.cell 2 36] 41 []) tb133
def zbc:zTb tb61:=aC za8 zbb zba func61 rfl call61
def uc:List Fld×Int->Option Bool:=fun(a,b)=>
 af (aa (0<=b)) (aq a b.toNat fun c=>ai (!aa (c.2.1=0))
 (U ae)
 (U (aa (b=wrap .i64 ((a.length:Int)-1)))))
def tb135:=az 135 (aB 135 ae [] CP dp uc [.tmp 4] 18 []) tb61
def zbd:zTb tb135:=aC zbc aI aR func135 rfl call135
abbrev zbe:SPat:=⟨[(2,.own (.int .i64) ae),(3,.i .i64)],[]⟩
abbrev J5:SPat:=⟨[(0,.sl bA),(4,.own (.int .i64) ae),(5,.i .i64),(6,.i .i64)],[]⟩
abbrev zNE:SPat:=⟨[(4,.own (.int .i64) ae),(5,.i .i64)],[]⟩
def zbf:Nat->Option SPat:=fun k=>bif k==4 then U J5 else bif k==2000000 then U zNE else bif k==2000001 then U J5 else aj
def yU:List Fld->Option (List Int×Int):=fun a=>
 bindE (Y:=List Int×Int) (aE (fun(a,b,c,d)=>
 ai (aa (d<(a.length:Int)))
 (bindE (Y:=List Fld×List Int×Int×Int) (af (aa (b.length+1<=9223372036854775807)&&aa ((b.length+1)*8<=140737488355328)) (ah (uc (a,d)) fun e=>
 ai (e)
 (af (aa (0<=d)) (aq a d.toNat fun e=>ah (kY e.2.1) fun e=>
 U (ao (a,b++[c],wrap .i64 (wrap .i64 (c+1)+e),d))))
 (U (ao (a,b++[c],c,d))))) fun(a,b,c,d)=>
 U (ao (a,b,c,wrap .i64 (d+1))))
 (U (an (ao (b,c))))) ((a,[],(0:Int),(0:Int)))) fun(a,b)=>
 U ((a,b))
def tb134:=az 134 (aB 134 ae [] wZ zbe yU [.tmp 2,.tmp 3] 32 []) tb135
def zbg:zTb tb134:=aC zbd aI zbf func134 rfl call134
abbrev zbh:SPat:=⟨[(0,.sl bA),(1,.sl (.int .i64)),(2,.i .i64),(3,.i .i64)],[]⟩
abbrev zbi:SPat:=⟨[(8,.i .i64)],[]⟩
def nX:List Fld×List Int×Int×Int->Option Int:=fun(a,b,c,d)=>
 ah (lS (a,d)) fun a=>
 ai (aa (a<0))
 (U c)
 (af (aa (0<=a)) (aq b a.toNat fun a=>U a))
def tb136:=az 136 (aB 136 ae [] zbh zbi nX [.tmp 8] 20 []) tb134
def zbj:zTb tb136:=aC zbg aI aR func136 rfl call136
abbrev zbk:SPat:=⟨[(0,.agg (pl cy)),(1,.sl bA),(2,.sl (.int .i64)),(3,.i .i64)],[]⟩
abbrev zbl:SPat:=⟨[(8,.own cO ae)],[]⟩
abbrev J6:SPat:=⟨[(1,.sl bA),(2,.sl (.int .i64)),(3,.i .i64),(4,.ptr 4 0),(9,.own cO ae),(10,.i .i64)],[.box 4 (pl cy)]⟩
abbrev zND:SPat:=⟨[(1,.sl bA),(2,.sl (.int .i64)),(3,.i .i64),(4,.ptr 4 0),(9,.own cO ae),(10,.i .i64),(11,.ptr 11 0),(56,.b)],[.box 4 (pl cy),.box 11 (pl [.i .i64,.own c9 ag,.own c9 ag])]⟩
abbrev zNC:SPat:=⟨[(9,.own cO ae)],[]⟩
def zbm:Nat->Option SPat:=fun k=>bif k==3 then U J6 else bif k==1000010 then U zND else bif k==2000000 then U zNC else bif k==2000001 then U J6 else aj
def zbn:Nat->List Nat×a_:=fun id=>bif id==9 then([0,1,2,3,4,5,6,7,8,9,10,11,12,13,14],.fin)else([],.fin)
def yV :  Mth×List Fld×List Int×Int->Option (List Frm):=fun((a,b,c,d,e,f,g,h),i,j,k)=>
 bindE (Y:=List Frm) (aE (fun(a,b,c,d,e,f,g,h,i,j,k,l,m)=>
 ai (aa (e<(m.length:Int)))
 (bindE (Y:=List Fld×List Int×Int×List Frm×Int×Mth) (af (aa (0<=e)) (aq m e.toNat fun n=>ah (nX (a,b,c,n.1)) fun o=>
 af (aa (n.2.1.length<=9223372036854775807)&&aa (n.2.1.length*16<=140737488355328)) (af (aa (n.2.2.length<=9223372036854775807)&&aa (n.2.2.length*16<=140737488355328)) (bindE (Y:=List Fld×List Int×Int×List Frm×Int×Bool×Mth×Frm) (ai (aa (0<(d.length:Int)))
 (af (aa (0<=wrap .i64 ((d.length:Int)-1))&&aa (wrap .i64 ((d.length:Int)-1)<(d.length:Int))) (aq d (aw (wrap .i64 ((d.length:Int)-1))) fun p=>U (ao (a,b,c,d,e,aa (p.1=o),(f,g,h,i,j,k,l,m),o,n.2.1,n.2.2))))
 (U (ao (a,b,c,d,e,ag,(f,g,h,i,j,k,l,m),o,n.2.1,n.2.2)))) fun(a,b,c,d,e,f,(g,h,i,j,k,l,m,n),o,p,q)=>
 ai (f)
 (af (aa (0<=wrap .i64 ((d.length:Int)-1))&&aa (wrap .i64 ((d.length:Int)-1)<=(d.length:Int))) (af (aa (au (cU (0:Nat) (de (aw (wrap .i64 ((d.length:Int)-1))) d))+1<=9223372036854775807)&&aa ((au (cU (0:Nat) (de (aw (wrap .i64 ((d.length:Int)-1))) d))+1)*56<=140737488355328)) (U (ao (a,b,c,cU (0:Nat) (de (aw (wrap .i64 ((d.length:Int)-1))) d)++[(o,p,q)],e,g,h,i,j,k,l,m,n)))))
 (af (aa (d.length+1<=9223372036854775807)&&aa ((d.length+1)*56<=140737488355328)) (U (ao (a,b,c,d++[(o,p,q)],e,g,h,i,j,k,l,m,n)))))))) fun(a,b,c,d,e,f,g,h,i,j,k,l,m)=>
 U (ao (a,b,c,d,wrap .i64 (e+1),f,g,h,i,j,k,l,m)))
 (U (an (ao d)))) ((i,j,k,[],(0:Int),a,b,c,d,e,f,g,h))) fun a=>
 U (a)
def tb138:=az 138 (aB 138 ae [] zbk zbl yV [.tmp 8] 67 []) tb136
def zbo:zTb tb138:=aC zbj zbn zbm func138 rfl call138
abbrev J7:SPat:=⟨[(1,.ptr 1 0),(2,.ptr 2 0),(3,.own bA ae),(5,.own (.int .i64) ae),(6,.i .i64),(7,.ptr 7 0),(8,.own bA ae),(9,.i .i64)],IE⟩
abbrev J8:SPat:=⟨[(1,.ptr 1 0),(2,.ptr 2 0),(3,.own bA ae),(5,.own (.int .i64) ae),(6,.i .i64),(7,.ptr 7 0),(11,.i .i64)],[.box 1 (pl cy),.box 2 (pl fR),.box 7 (pl IF)]⟩
abbrev zOu:SPat:=⟨[(1,.ptr 1 0),(2,.ptr 2 0),(3,.own bA ae),(5,.own (.int .i64) ae),(6,.i .i64),(7,.ptr 7 0),(8,.own bA ae)],IE⟩
abbrev zOt:SPat:=⟨[(1,.ptr 1 0),(2,.ptr 2 0),(3,.own bA ae),(5,.own (.int .i64) ae),(6,.i .i64),(7,.ptr 7 0)],[.box 1 (pl cy),.box 2 (pl fR),.box 7 (pl IF)]⟩
def zbp:Nat->Option SPat:=fun k=>bif k==8 then U J7 else bif k==18 then U J8 else bif k==2000000 then U zOu else bif k==2000001 then U J7 else bif k==2000002 then U zOt else bif k==2000003 then U J8 else aj
def re:Mth->Option Mth:=fun(a,b,c,d,e,f,g,h)=>
 ah (ib (a,8)) fun i=>
 ai (i)
 (U ((a,b,c,d,e,f,g,h)))
 (ah (tE f) fun(i,_)=>
 ah (yU i) fun(j,k)=>
 bindE (Y:=List Fld×List Int×Int×List Fld×Mth×Mth×Mth) (aE (fun(a,b,c,d,e,(f,g,h,i,j,k,l,m),(n,o,p,q,r,s,t,u),v,w,x,y,z,A,B,C)=>
 ai (aa (e<(a.length:Int)))
 (bindE (Y:=List Fld×List Int×Int×List Fld×Int×Mth×Mth×Mth) (af (aa (0<=e)&&aa (e<(a.length:Int))) (aq a e.toNat fun D=>ah (uc (a,e)) fun E=>
 ai (!E)
 (U (ao (a,b,c,d,e,(f,g,h,i,j,k,l,m),(n,o,p,q,r,s,t,u),v,w,x,y,z,A,B,C)))
 (ah (eY (D.2.1,14,18)) fun E=>
 ai (E)
 (ah (nX (a,b,c,D.2.2)) fun E=>
 af (aa (d.length+1<=9223372036854775807)&&aa ((d.length+1)*24<=140737488355328)) (U (ao (a,b,c,d++[(D.1,D.2.1,E)],e,(f,g,h,i,j,k,l,m),(n,o,p,q,r,s,t,u),v,w,x,y,z,A,B,C))))
 (af (aa (d.length+1<=9223372036854775807)&&aa ((d.length+1)*24<=140737488355328)) (U (ao (a,b,c,d++[(D.1,D.2.1,D.2.2)],e,(f,g,h,i,j,k,l,m),(n,o,p,q,r,s,t,u),v,w,x,y,z,A,B,C))))))) fun(a,b,c,d,e,(f,g,h,i,j,k,l,m),(n,o,p,q,r,s,t,u),v,w,x,y,z,A,B,C)=>
 U (ao (a,b,c,d,wrap .i64 (e+1),(f,g,h,i,j,k,l,m),(n,o,p,q,r,s,t,u),v,w,x,y,z,A,B,C)))
 (U (an (ao (a,b,c,d,(f,g,h,i,j,k,l,m),(n,o,p,q,r,s,t,u),v,w,x,y,z,A,B,C))))) ((i,j,k,[],(0:Int),(a,b,c,d,e,f,g,h),((0:Int),(0:Int),(0:Int),(0:Int),(0:Int),[],[],[]),a,b,c,d,e,f,g,h))) fun(a,b,c,d,(e,f,g,h,i,j,k,l),(m,n,o,p,q,r,s,t),u,v,w,x,y,_,_,z)=>
 ah (ph d) fun d=>
 bindE (Y:=List Fld×List Int×Int×Mth×Mth×Mth) (aE (fun(a,b,c,d,(e,f,g,h,i,j,k,l),(m,n,o,p,q,r,s,t),u,v,w,x,y,z,A,B)=>
 ai (aa (d<(k.length:Int)))
 (bindE (Y:=List Fld×List Int×Int×Int×Mth×Mth×Mth) (af (aa (0<=d)) (aq k d.toNat fun C=>ah (nX (a,b,c,C.1)) fun D=>
 ah (nX (a,b,c,C.2.1)) fun E=>
 ah (nX (a,b,c,C.2.2.1)) fun G=>
 ai (aa (D<E))
 (af (aa (A.length+1<=9223372036854775807)&&aa ((A.length+1)*32<=140737488355328)) (U (ao (a,b,c,d,(e,f,g,h,i,j,k,l),(m,n,o,p,q,r,s,t),u,v,w,x,y,z,A++[(D,E,G,C.2.2.2)],B))))
 (U (ao (a,b,c,d,(e,f,g,h,i,j,k,l),(m,n,o,p,q,r,s,t),u,v,w,x,y,z,A,B))))) fun(a,b,c,d,(e,f,g,h,i,j,k,l),(m,n,o,p,q,r,s,t),u,v,w,x,y,z,A,B)=>
 U (ao (a,b,c,wrap .i64 (d+1),(e,f,g,h,i,j,k,l),(m,n,o,p,q,r,s,t),u,v,w,x,y,z,A,B)))
 (U (an (ao (a,b,c,(e,f,g,h,i,j,k,l),(m,n,o,p,q,r,s,t),u,v,w,x,y,z,A,B))))) ((a,b,c,(0:Int),(e,f,g,h,i,j,k,l),(m,n,o,p,q,r,s,t),u,v,w,x,y,d,[],z))) fun(a,b,c,(d,e,f,g,h,i,j,k),(_,_,_,_,_,_,_,_),l,m,n,o,p,q,r,_)=>
 ah (yV ((d,e,f,g,h,i,j,k),a,b,c)) fun a=>
 U ((l,m,n,o,p,q,r,a)))
def tb62:=az 62 (aB 62 ag [] xp JV re [.cell 2 72] 113 []) tb138
def zbq:zTb tb62:=aC zbo aI zbp func62 rfl call62
abbrev zbr:SPat:=⟨[(2,.ptr 2 0),(3,.ptr 3 0),(4,.i .i64)],[.box 2 (pl eW),.box 3 (pl tc)]⟩
def zbs:Nat->Option SPat:=fun k=>bif k==5 then U zbr else bif k==2000000 then U J0 else aj
def zbt:Nat->List Nat×a_:=fun id=>bif id==7 then([0,1,2,3,4,5,6,7],(.br 8 [7,6,5,4,3] hZ [9] (.br 10 dG [] [] .fin .fin) .fin))else([],.fin)
def pD:Cls->Option Cls:=fun(a,b,c,d,e,f,g)=>
 ah (yS (a,b,c,d,e,f,g)) fun h=>
 ai (!aa (h=0))
 (U (([],(0:Int),(0:Int),(0:Int),[],[],[])))
 (ah (yT (a,b,c,d,e,f,g)) fun(a,b,c,d,e,f,g)=>
 bindE (Y :=  Cls×Cls) (aE (fun(a,(b,c,d,e,f,g,h),i,j,k,l,m,n,o)=>
 ai (aa (a<(o.length:Int)))
 (af (aa (0<=a)&&aa (a<(o.length:Int))) (aq o a.toNat fun p=>ah (re (p.1,p.2.1,p.2.2.1,p.2.2.2.1,p.2.2.2.2.1,p.2.2.2.2.2.1,p.2.2.2.2.2.2.1,p.2.2.2.2.2.2.2)) fun(p,q,r,s,t,u,v,w)=>
 ak (ak (af (aa (a=a)) (U ())) (U ())) (af (aa (0<=a)&&aa (a<(o.length:Int))) (aq o a.toNat fun _=>U (ao (wrap .i64 (a+1),(b,c,d,e,f,g,h),i,j,k,l,m,n,List.set o a.toNat (p,q,r,s,t,u,v,w)))))))
 (U (an (ao ((b,c,d,e,f,g,h),i,j,k,l,m,n,o))))) (((0:Int),([],(0:Int),(0:Int),(0:Int),[],[],[]),a,b,c,d,e,f,g))) fun((_,_,_,_,_,_,_),a,b,c,d,e,f,g)=>
 U ((a,b,c,d,e,f,g)))
def tb21:=az 21 (aB 21 ag [] gQ Dg pD [.cell 2 36] 29 []) tb62
def zbu:zTb tb21:=aC zbq zbt zbs func21 rfl call21
abbrev Di:SPat:=⟨[(3,.own cw ae),(4,.i .i64)],[]⟩
abbrev J9:SPat:=⟨[(3,.own cw ae),(4,.i .i64),(5,.i .i64)],[]⟩
abbrev zRS:SPat:=⟨[(3,.ar 3),(4,.i .i64),(5,.i .i64),(6,.ptr 6 0),(47,.b)],[.opn 3 cw (.all ae) (pl pd),.box 6 (pl ch)]⟩
def tv6:Nat->Option SPat:=fun k=>bif k==5 then U Di else bif k==8 then U J9 else bif k==1000012 then U zRS else bif k==2000000 then U CS else bif k==2000001 then U Di else bif k==2000002 then U Di else bif k==2000003 then U J9 else aj
def tp6:Nat->List Nat×a_:=fun id=>bif id==3000010 then([6000000],.fin)else bif id==12 then(fK,(.br 7 [6] fT [] (.br 8 [7,6] fT [9,10] (.br 11 fw [] [] .fin .fin) .fin) .fin))else([],.fin)
def F6:List zLdr->Option (List zLdr):=fun a=>ah (yQ a) fun b=>ai (!b) (U ([])) (ah (yR a) fun a=>bindE (Y:=List zLdr) (aE (fun(a,b)=>ai (aa (b<(a.length:Int))) (bindE (Y:=List zLdr×Int) (bindE (Y:=List zLdr×Int) (aE (fun(a,b,c)=>af (aa (0<=b)&&aa (b<(a.length:Int))) (aq a b.toNat fun d=>af (aa (aw b=aw b)&&aa (aw b<a.length)) (af (aa (aw b=aw b)&&aa (aw b<a.length)) (af (aa (aw b=aw b)&&aa (aw b<a.length)) (ai (aa (c<(d.1.length:Int))) (bindE (Y:=List zLdr×Int×Int) (af (aa (0<=b)&&aa (b<(a.length:Int))) (af (aa (aw b=aw b)&&aa (aw b<a.length)) (af (aa (aw b=aw b)&&aa (aw b<a.length)) (af (aa (0<=c)&&aa (c<(d.1.length:Int))) (aq d.1 c.toNat fun e=>ah (kt e.2) fun(e,f,g,h,i,j,k,l)=>bindE (Y:=Int×Int×Bool×(List zLdr×Nat×zLdr)×Cls) (ai e (ah (pq (f,g,h,i,j,k,l)) fun e=>af (aa (aw b<a.length)) (af (aa (aw b=aw b)&&aa (aw b<a.length)) (U (ao (b,c,aa (e=0),(a,aw b,d.1,d.2.1,d.2.2),f,g,h,i,j,k,l))))) (af (aa (aw b<a.length)) (af (aa (aw b=aw b)&&aa (aw b<a.length)) (U (ao (b,c,ag,(a,aw b,d.1,d.2.1,d.2.2),f,g,h,i,j,k,l)))))) fun(a,b,c,(d,e,f,g,h),i,j,k,l,m,n,o)=>ai c (af (aa (0<=a)&&aa (a<(d.length:Int))) (af (aa (aw a=e)&&aa (e<d.length)) (af (aa (aw a=e)&&aa (e<d.length)) (af (aa (aw a=e)&&aa (e<d.length)) (ah (pD (i,j,k,l,m,n,o)) fun(c,i,j,k,l,m,n)=>let o:=ak (af (aa (a=a)) (U ())) (ak (af (aa (0<=a)&&aa (a<(d.length:Int))) (af (aw a==aw a&&ae) (U ()))) (ak (af (aw a==aw a&&ae) (U ())) (ak (af (aa (aw a=e)&&aa (e<d.length)) (af (aa (aw a=e)&&aa (e<d.length)) (af (aa (aw a=e)&&aa (e<d.length)) (U ())))) (ak (af (aa (b=b)) (U ())) (U ())))));ak o (ah (mF (c,i,j,k,l,m,n)) fun c=>ak o (af (aa (0<=b)&&aa (b<(f.length:Int))) (aq f b.toNat fun i=>af (aa (e<d.length)) (af (aa (e=e)&&aa (e<d.length)) (af (aa (e<d.length)) (U (ao (List.set d e (List.set f b.toNat (i.1,c),g,h),a,b))))))))))))) (af (aa (e<d.length)) (U (ao (List.set d e (f,g,h),a,b))))))))) fun(a,b,c)=>U (ao (a,b,wrap .i64 (c+1)))) (iD (af (aa (aw b<a.length)) (af (aa (aw b=aw b)&&aa (aw b<a.length)) (af (aa (aw b<a.length)) (U (ao (List.set a b.toNat (d.1,d.2.1,d.2.2),b)))))))))))) ((a,b,(0:Int)))) fun(a,b)=>U (ao (a,b))) fun(a,b)=>U (ao (a,wrap .i64 (b+1)))) (U (an (ao a)))) ((a,(0:Int)))) fun a=>U a)
def tb6:=az 6 (aB 6 ae [] mI tJ F6 [.tmp 2] 60 []) tb21
def ok6:zTb tb6:=aC zbu tp6 tv6 func6 rfl call6
abbrev ti7:SPat:=⟨[(0,.agg (pl gu)),(1,.agg (pl gu))],[]⟩
abbrev zbv:SPat:=⟨[(2,.ptr 2 0),(3,.ptr 3 0),(5,.i .i64)],[.box 2 (pl gu),.box 3 (pl gu)]⟩
abbrev zbw:SPat:=⟨[(2,.ptr 2 0),(3,.ptr 3 0),(6,.i .i64)],[.box 2 (pl gu),.box 3 (pl gu)]⟩
abbrev J_:SPat:=⟨[(2,.ptr 2 0),(3,.ptr 3 0)],[.box 2 (pl gu),.box 3 (pl gu)]⟩
def tv7:Nat->Option SPat:=fun k=>bif k==4 then U zbv else bif k==9 then U zbw else bif k==1000003 then U J_ else bif k==2000000 then U J_ else bif k==2000002 then U dH else aj
def tp7:Nat->List Nat×a_:=fun id=>bif id==6 then(lM,.fin)else bif id==11 then(lM,.fin)else([],.fin)
def F7:(zLdr)×zLdr->Option Bool:=fun((a,b,c),d,e,f)=>
 bindE (Y:=(zLdr)×zLdr) (ai (!aa (c=f))
 (U (an ag))
 (ai (!aa ((a.length:Int)=(d.length:Int)))
 (U (an ag))
 (ai (!aa ((b.length:Int)=(e.length:Int)))
 (U (an ag))
 (U (ao ((a,b,c),d,e,f)))))) fun((a,b,c),d,e,f)=>
 bindE (Y:=(zLdr)×zLdr) (aE (fun(a,(b,c,d),e,f,g)=>
 ai (aa (a<(b.length:Int)))
 (af (aa (0<=a)) (aq b a.toNat fun h=>af (aa (0<=a)) (aq e a.toNat fun i=>ai (!(aa (h.1=i.1)&&(aa (h.2=i.2)&&ae)))
 (U (an (an ag)))
 (U (ao (wrap .i64 (a+1),(b,c,d),e,f,g))))))
 (U (an (ao ((b,c,d),e,f,g))))) (((0:Int),(a,b,c),d,e,f))) fun((a,b,c),d,e,f)=>
 bindE (aE (fun(a,(b,c,d),e,f,g)=>
 ai (aa (a<(c.length:Int)))
 (af (aa (0<=a)) (aq c a.toNat fun h=>af (aa (0<=a)) (aq f a.toNat fun i=>ai (!(aa (h.1=i.1)&&(aa (h.2=i.2)&&ae)))
 (U (an (an ag)))
 (U (ao (wrap .i64 (a+1),(b,c,d),e,f,g))))))
 (U (an (ao ())))) (((0:Int),(a,b,c),d,e,f))) fun _=>
 U (ae)
def tb7:=az 7 (aB 7 ae [] ti7 dp F7 [.tmp 4] 66 []) tb6
def ok7:zTb tb7:=aC ok6 tp7 tv7 func7 rfl call7
abbrev zbx:SPat:=⟨[(0,.own s4 ae)],[]⟩
def Dj:PUnit->Option (List (zBy×Int×Cls×Int×List Int×Int×Int×List Knd×List (zBy×zBy×Int×Int)×List Knd)):=fun _=>
 U ([([(79:UInt8),98,106],(-1:Int),([],(0:Int),(0:Int),(0:Int),[],[],[]),(-1:Int),[],(2:Int),(2:Int),[],[],[]),([(69:UInt8),114,114],(-1:Int),([],(0:Int),(0:Int),(0:Int),[],[],[]),(0:Int),[],(2:Int),(2:Int),[],[],[])])
def tb41:=az 41 (aB 41 ae [] dH zbx Dj [.tmp 0] 4 []) tb7
def zby:zTb tb41:=aC ok7 aI aR func41 rfl call41
abbrev zbz:SPat:=⟨[(2,.ptr 2 0)],[.box 2 (pl [.own cw ae,.own s4 ae,.own Cr ae,.own wH ae])]⟩
def yW:List zLdr->Option zWor:=fun a=>
 ah (tK a) fun b=>
 ai (!b)
 (U (([],[],[],[])))
 (ah (tL a) fun a=>
 ah (Dj ()) fun b=>
 U ((a,b,[],[])))
def tb12:=az 12 (aB 12 ae [] mI zbz yW [.cell 2 48] 11 []) tb41
def zbA:zTb tb12:=aC zby aI aR func12 rfl call12
abbrev yX:SPat:=⟨[(3,.sl cw),(4,.sl cw),(5,.sl cw),(6,.sl cw),(7,.i .i64)],[]⟩
abbrev Ka:SPat:=⟨[(3,.sl cw),(4,.sl cw),(5,.sl cw),(6,.sl cw),(7,.i .i64),(8,.i .i64)],[]⟩
abbrev zRW:SPat:=⟨[(3,.sl cw),(4,.sl cw),(5,.sl cw),(29,.b)],[]⟩
abbrev zRV:SPat:=⟨[(4,.sl cw)],[]⟩
def Kb:Nat->Option SPat:=fun k=>bif k==10 then U yX else bif k==15 then U Ka else bif k==1000007 then U zRW else bif k==1000014 then U yX else bif k==2000000 then U zRV else bif k==2000001 then U yX else bif k==2000002 then U yX else bif k==2000003 then U Ka else aj
def Kc:Nat->List Nat×a_:=fun id=>bif id==3000020 then([9500000],.fin)else bif id==3000017 then([6000000],.fin)else bif id==3000008 then([9500000],.fin)else bif id==3000005 then([9500000],.fin)else bif id==3000004 then([9500000],.fin)else bif id==3000003 then([9500000],.fin)else bif id==12 then([0,1,2,3,4,5,6,7],(.br 8 i_ [] [9,10,11,12,13,14,15,16,17,18] (.br 19 wM [] [20,21] .fin .fin) .fin))else bif id==18 then(hZ,(.br 3 gp [] [4,5,6,7,8,9,10,11,12,13,14,15,16] (.br 17 [16,6,5,4,3,2,1,0] [7,8,9,10,11,12,13,14,15] [] (.br 18 [17,16,6,5,4,3,2,1,0] [7,8,9,10,11,12,13,14,15] [19,20] .fin .fin) .fin) .fin))else([],.fin)
def F3:zBy->Option Bool:=fun a=>ai (aa (1048576<(a.length:Int))) (U ae) (ah (F4 a) fun a=>ah (F5 a) fun b=>ah (F6 a) fun c=>bindE (Y:=List zLdr×List zLdr×List zLdr×Bool) (ai (!aa ((b.length:Int)=(c.length:Int))) (U (ao (a,b,c,ae))) (U (ao (a,b,c,aa ((b.length:Int)=0))))) fun(a,b,c,d)=>ai d (U (aa ((b.length:Int)=(c.length:Int)))) (ah (F5 b) fun d=>bindE (Y:=List zLdr) (aE (fun(a,b,c,d,e)=>ai (aa (e<(b.length:Int))) (bindE (Y:=List zLdr×List zLdr×List zLdr×List zLdr×Int) (bindE (Y:=List zLdr×List zLdr×List zLdr×List zLdr×Int) (af (aa (0<=e)) (aq b e.toNat fun f=>af (aa (0<=e)) (aq c e.toNat fun g=>ah (F7 ((f.1,f.2.1,f.2.2),g.1,g.2.1,g.2.2)) fun f=>ai (!f) (U (an (an (an (an ag))))) (af (aa (0<=e)) (aq d e.toNat fun f=>af (aa (0<=e)) (aq b e.toNat fun g=>ah (F7 ((f.1,f.2.1,f.2.2),g.1,g.2.1,g.2.2)) fun f=>ai (!f) (U (an (an (an (an ag))))) (U (ao (a,b,c,d,e))))))))) fun(a,b,c,d,e)=>bindE (Y:=List zLdr×List zLdr×List zLdr×List zLdr×Int) (aE (fun(a,b,c,d,e,f)=>af (aa (0<=e)) (aq b e.toNat fun g=>ai (aa (f<(g.1.length:Int))) (bindE (Y:=List zLdr×List zLdr×List zLdr×List zLdr×Int×Int) (af (aa (0<=e)) (aq a e.toNat fun g=>af (aa (0<=f)) (aq g.1 f.toNat fun g=>ah (F8 g.2) fun(g,h,i,j,k,l,m,n)=>ai g (ah (F9 (h,i,j,k,l,m,n)) fun g=>ai (aa (g=0)) (af (aa (0<=e)) (aq b e.toNat fun g=>af (aa (0<=f)) (aq g.1 f.toNat fun o=>ah (nW (h,i,j,k,l,m,n)) fun(h,i,j,k,l,m,n)=>let g:=ak (af (aa (b=b)) (U ())) (ak (af (aa (e=e)) (U ())) (ak (af (aa (0<=e)) (aq b e.toNat fun a=>af (aa (a.1=g.1)&&(aa (a.2.1=g.2.1)&&(aa (a.2.2=g.2.2)&&ae))) (U ()))) (ak (af (aa (g.1=g.1)&&(aa (g.2.1=g.2.1)&&(aa (g.2.2=g.2.2)&&ae))) (U ())) (ak (af (aa (g.1=g.1)) (U ())) (ak (af (aa (f=f)) (U ())) (ak (af (aa (0<=f)) (aq g.1 f.toNat fun a=>af (aa (a.1=o.1)&&(aa (a.2=o.2)&&ae)) (U ()))) (ak (af (aa (o.2=o.2)&&ae) (U ())) (ak (af (aa (o.2=o.2)) (U ())) (U ())))))))));ak g (ah (px (h,i,j,k,l,m,n)) fun h=>ak g (ai (!aa (o.2=h)) (U (an (an (an (an (an (an ag))))))) (U (ao (a,b,c,d,e,f)))))))) (U (ao (a,b,c,d,e,f)))) (U (ao (a,b,c,d,e,f)))))) fun(a,b,c,d,e,f)=>U (ao (a,b,c,d,e,wrap .i64 (f+1)))) (U (an (ao (a,b,c,d,e)))))) ((a,b,c,d,e,(0:Int)))) fun(a,b,c,d,e)=>U (ao (a,b,c,d,e))) fun(a,b,c,d,e)=>U (ao (a,b,c,d,wrap .i64 (e+1)))) (U (an (ao b)))) ((a,b,c,d,(0:Int)))) fun a=>ah (yW a) fun(_,a,_,_)=>U (aa ((a.length:Int)=2))))
def r3 x:sZ T tb12 Kc 114 Kb (Ip Tryz.f3) td e7 x=F3 x:=by kernel_rfl
def te3:=aB 3 ae [] td e7 F3 [.tmp 2] 114 []
def c3:kg Tryz.prog 3 te3.W:=Cl zbA Cp Cw ae _ td e7 [] Kc Kb func3 rfl results3 ntmps3 (by kernel_rfl) (by kernel_rfl) call3 F3 fun x _ h=>(r3 x).trans h
end
section
open Go Go.AM Go.TM Go.RowKit Go.ChangeShapes Go.WideShapes Go.ChangeAt
def zbB (x:List UInt8)(h:F3 x=U ae):AC Tryz.prog 3 (aO ag (.sl .byte) x) [] fun sv _=>sv = .b ae :=
 Pm c3 x ae rfl rfl h rfl
set_option maxRecDepth 100000 in
def zbC (hall:∀ x:List UInt8,F3 x=U ae)(os:Os)(started:os.Started)(H:Type)(enc:TypeId×Value->H) :
  ReturnsInHanded {} Tryz.checked os 3 .any (Rows.fnTidyAllSpec.pre6 enc Tryz.prog Tryz.f3 [] ag) (Rows.fnTidyAllSpec.post enc Tryz.prog Tryz.f3 ag ae ag ag):=by
 refine returnsInHanded_of_change_sized (C:=Tryz.checked) own started (by kernel_rfl) Tryz.func3
  (ChangeSpec.witness6 (enc:=enc) (C:=Tryz.checked) ag ⟨#[],#[.slice aj 0 0],[]⟩ 8 (by kernel_rfl) (by kernel_rfl) (by kernel_rfl) (by kernel_rfl)) ?_
 intro W base args ds gs before hval0 hW _ hsz0 _;have hval:∀(j:Nat) t v,Tryz.f3.params[j]? = U t->args[j]? = U v->Value.okWide Tryz.prog W .any base t v:=hval0;have hsz:(DataW.weightsEach Tryz.prog (Tryz.f3.params.toList++[]) (ds++gs)).all (· <= reachBytes)=ae:=hsz0;have hW':=hW;obtain⟨p,q,hA0,hV,rfl,hfz,hnd⟩:=hW;have hA:DataW.TrodAll enc Tryz.prog W 0 (fun _=>ae) ae Tryz.f3.params.toList args.toList ds p:=hA0;rw[Tryz.params3]at hA hval hsz;obtain⟨v0,d0,rfl,rfl,h0⟩:=trodAll_one hA;obtain⟨rfl,rfl⟩:=trodVars_none hV;obtain⟨b0,n0,k0,rfl⟩:=okWide_slice Tryz.underlying22 (hval 0 22 v0 rfl rfl);have h0k:=h0;obtain⟨fuel,ht⟩:=h0
 obtain⟨x,sx,lx,ox,rx⟩:=Pj 8 fuel (.sl .byte) 22 [.slice b0 n0 k0] d0 p Po ht (fun m hm=>by
  have:=List.all_eq_true.1 hsz m (by simpa[DataW.weightsEach]using hm)
  simpa using this)
 have hlt:∀z∈p,z.block<W.heap.size:=fun z hz=>hW'.lt z (by simpa using hz)
 refine(Pk Tryz.func3 (by kernel_rfl) (by kernel_rfl) (zbB x (hall x)) (fun _ _ h=>h) rfl (fun G hG=>rx G hG)).mono fun e W' ⟨he,hb⟩=>?_
 subst he;exact⟨_,rfl,[d0],[],p++[],[],p,[],hW',trodAll_mk1 (shut_bool Tryz.underlying4 ae),trodAll_mk1 (Below.trod Pn (by kernel_rfl) (of_decide_eq_true (by kernel_rfl)) h0k hb hlt),rfl,hb.frame _,fun h=>by cases h⟩
set_option maxHeartbeats 4000000 in
def zbD:joinedFacts Tryz.pinned.checked.prog 3 Tryz.f3 Rows.fnTidyAllSpec Rows.fnTidyAllRow=ae:=by
 unfold joinedFacts
 repeat' with_reducible apply Pp
 all_goals (as_aux_lemma=>kernel_rfl)
def fnTidyAll_of (hall:∀ x:List UInt8,F3 x=U ae):Rows.FnTidyAllSaid :=
 OpenClaim.holds_of_wide 3 Tryz.f3 rfl rfl rfl rfl rfl rfl rfl ⟨rfl,rfl,rfl,rfl,rfl⟩ rfl rfl rfl rfl rfl (by kernel_rfl) Tryz.func3 zbD
  (of_decide_eq_true (by kernel_rfl)) (by unfold Func.isWrapper;first|(rw[if_pos (by decide +kernel)];kernel_rfl)|(rw[if_neg (by decide +kernel)];exact⟨rfl,rfl⟩))
  (fun os started H enc _=>zbC hall os started H enc)
end
end Go.Proofs.YtmjlecabpbiigaaGreat
section
namespace Go.TM
open Go.AM
section
variable {α β X Y R:Type}{Q:R->Prop}
def ad (r:Option R)(Q:R->Prop):Prop:=∃a,r=U a/\Q a
def ad.ret {a:R}(h:Q a):ad (U a) Q:=⟨a,rfl,h⟩
def ad.mono {r:Option R}{Q':R->Prop}(h:ad r Q)(g:∀ a,Q a->Q' a):ad r Q':=by
 obtain⟨a,e,h⟩:=h;exact⟨a,e,g a h⟩
def ad.bind {x:Option α}{P:α->Prop}{k:α->Option R}(h:ad x P)(hk:∀ a,P a->ad (k a) Q):ad (ah x k) Q:=by
 obtain⟨a,rfl,h⟩:=h;exact hk a h
def av {t:Bool}{k:Option R}(ht:t=ae)(h:ad k Q):ad (af t k) Q:=by subst ht;exact h
def aA {t:Bool}{a b:Option R}(h1:t=ae->ad a Q)(h2:t=ag->ad b Q):ad (ai t a b) Q:=by
 cases t
 ·exact h2 rfl
 ·exact h1 rfl
def ad.at {l:List α}{n:Nat}{k:α->Option R}(hn:n<l.length)(h:∀ x,l[n]? = U x->ad (k x) Q):ad (aq l n k) Q:=by
 have e:l[n]? = U l[n]:=bI hn;show ad (match l[n]? with|some x=>k x|none=>aj) Q;rw[e];exact h _ e
def cg {l:List α}{n:Nat}{k:α->Option R}{x:α}(e:l[n]? = U x)(h:ad (k x) Q):ad (aq l n k) Q:=by
 show ad (match l[n]? with|some x=>k x|none=>aj) Q;rw[e];exact h
def ad.seq {u:Option Unit}{k:Option R}(h1:ad u fun _=>True)(h:ad k Q):ad (ak u k) Q:=by
 obtain⟨a,rfl,_⟩:=h1;exact h
def ad.bindE {x:Option (Y⊕R)}{k:Y->Option R}(P:Y->Prop)(h:ad x (Sum.elim P Q))(hk:∀ y,P y->ad (k y) Q):ad (bindE x k) Q:=by
 obtain⟨a,rfl,h⟩:=h;cases a with
 |inl y=>exact hk y h
 |inr r=>exact⟨r,rfl,h⟩
def ad.loop {f:X->Option (X⊕R)}(I:X->Prop)(μ:X->Nat)(hs:∀ x,I x->ad (f x) (Sum.elim (fun y=>I y/\μ y<μ x) Q)):∀{x:X},I x->ad (aE f x) Q:=by
 have key:∀n x,μ x<=n->I x->ad (aE f x) Q:=by
  intro n
  induction n with
  | zero=>
    intro x hx hi;obtain⟨a,e,h⟩:=hs x hi;rw[eV,e];cases a with
    |inl y=>exact absurd h.2 (by omega)
    |inr r=>exact⟨r,rfl,h⟩
  | succ n ih=>
    intro x hx hi;obtain⟨a,e,h⟩:=hs x hi;rw[eV,e];cases a with
    |inl y=>exact ih y (by have:=h.2;omega) h.1
    |inr r=>exact⟨r,rfl,h⟩
 intro x hi;exact key _ x (bJ _) hi
def jd (a:Option R):ca a a=a:=by unfold ca;rw[if_pos rfl]
end
end Go.TM
end
section
namespace Go.TM
open Go.AM
section
variable {R α X Y:Type}
@[simp] def aN (A B:Option R):ai ae A B=A:=rfl
@[simp] def aM (A B:Option R):ai ag A B=B:=rfl
@[simp] def aG {p:Prop}[Decidable p](A B:Option R):ai (aa p) A B=if p then A else B:=by
  by_cases h:p<;>simp[h]
@[simp] def bW (b:Bool)(A B:Option R):ai (!b) A B=ai b B A:=by cases b<;>rfl
@[simp] def aD (A:Option R):af ae A=A:=rfl
def cb {p:Prop}[Decidable p]{A:Option R}(h:p):af (aa p) A=A:=by simp[h]
def mJ (a b:Bool)(A:Option R):af (a&&b) A=af a (af b A):=by cases a<;>rfl
@[simp] def ax (a:α)(k:α->Option R):ah (U a) k=k a:=rfl
@[simp] def aJ (y:Y)(k:Y->Option R):bindE (U (.inl y)) k=k y:=rfl
@[simp] def aV (r:R)(k:Y->Option R):bindE (U (.inr r)) k=U r:=rfl
@[simp] def bE (u:Unit)(k:Option R):ak (U u) k=k:=rfl
@[simp] def Kd (r:R):(iD (U r):Option (Y⊕R))=U (.inr r):=rfl
def pE {l:List α}{n:Nat}{x:α}{k:α->Option R}(h:l[n]? = U x):aq l n k=k x:=by unfold aq;rw[h]
def bq {l:List α}{n:Nat}{k:α->Option R}(h:n<l.length):aq l n k=k l[n]:=pE (bI h)
def fC {c:Prop}[Decidable c](A B:Option (Y⊕R))(k:Y->Option R):bindE (if c then A else B) k=if c then bindE A k else bindE B k:=by split<;>rfl
def kv {l:List α}{n:Nat}(h:n<l.length):l.drop n=l[n]::l.drop (n+1):=List.drop_eq_getElem_cons h
end
end Go.TM
end
section
namespace Go.TM
open Go.AM
section
variable {α β:Type}
end
end Go.TM
end
namespace Go.Proofs.YtmjlecabpbiigaaGreat
section
open Go Go.AM Go.TM
def nY (c:Cst):Prop:=c.2.1.length<=1048576
def kx (l:List Knd):Prop:=l.length<=1048576
def mK (f:Frm):Prop:=kx f.2.1/\kx f.2.2
def ld (m:Mth):Prop:=m.2.2.2.2.2.1.length<=1048576/\m.2.2.2.2.2.2.1.length<=1048576/\m.2.2.2.2.2.2.2.length<=1048576/\∀f∈m.2.2.2.2.2.2.2,mK f
def je (c:Cls):Prop:=(c.1.length<=1048576/\∀x∈c.1,nY x)/\c.2.2.2.2.1.length<=1048576/\c.2.2.2.2.2.1.length<=1048576/\c.2.2.2.2.2.2.length<=1048576/\∀x∈c.2.2.2.2.2.2,ld x
end
end Go.Proofs.YtmjlecabpbiigaaGreat
section
namespace Go.TM
open Go.AM
section
variable {σ α β:Type}
def Sm (Re:σ->Option (List UInt8)->Prop)(r:Option (α×σ))(m:Option (α×List UInt8)):Prop :=
 ∃v s,r=U (v,s)/\Re s (m.map (·.2))/\∀v' l,m=U (v',l)->v=v'
variable {Re:σ->Option (List UInt8)->Prop}
def Sm.bind {r:Option (α×σ)}{m:Option (α×List UInt8)}{k:α×σ->Option (β×σ)}{k':α->List UInt8->Option (β×List UInt8)}(h:Sm Re r m)
  (hk:∀v s st,Re s st->(∀l,st=U l->m=U (v,l))->Sm Re (k (v,s)) (st.bind (k' v))):Sm Re (ah r k) (m.bind fun p=>k' p.1 p.2):=by
 obtain⟨v,s,rfl,h1,h2⟩:=h;rw[ax]
 have:=hk v s (m.map (·.2)) h1 (by
  intro l hl;cases m with
  |none=>cases hl
  |some p=>obtain⟨a,b⟩:=p;simp only[Option.map_some,aF]at hl;subst hl;rw[h2 a b rfl])
 cases m with
 |none=>exact this
 | some p=>
   obtain⟨a,b⟩:=p;have e:=h2 a b rfl;subst e;exact this
def Sm.ret {s:σ}{st:Option (List UInt8)}(h:Re s st)(v:α):Sm Re (U (v,s)) (st.bind fun l=>U (v,l)):=by
 refine⟨v,s,rfl,?_,fun v' l hl=>?_⟩
 ·cases st with
  |none=>exact h
  |some l=>exact h
 ·cases st with
  |none=>cases hl
  |some l=>simp only[bh,aF,bm]at hl;exact hl.1
def bR (g:List UInt8->Option (β×List UInt8)):Nat->List UInt8->Option (List β×List UInt8)
 |0,l=>U ([],l)
 |n+1,l=>(g l).bind fun p=>(bR g n p.2).bind fun q=>U (p.1::q.1,q.2)
def Dk {g:List UInt8->Option (β×List UInt8)}:∀(n:Nat) (l:List UInt8) (vs:List β) (l':List UInt8),bR g n l=U (vs,l')->vs.length=n
 |0,l,vs,l',h=>by simp only[bR,aF,bm]at h;rw[<-h.1];rfl
 | n+1,l,vs,l',h=>by
   simp only[bR]at h;cases hg:g l with
   |none=>rw[hg]at h;cases h
   | some p=>
     rw[hg]at h;simp only[bh]at h;cases hr:bR g n p.2 with
     |none=>rw[hr]at h;cases h
     | some q=>
       rw[hr]at h;simp only[bh,aF,bm]at h;rw[<-h.1,bL,Dk n p.2 q.1 q.2 hr]
def Ke {g:List UInt8->Option (β×List UInt8)}{P:β->Prop}(hg:∀ l v l',g l=U (v,l')->P v):∀(n:Nat) (l:List UInt8) (vs:List β) (l':List UInt8),bR g n l=U (vs,l')->∀v∈vs,P v
 |0,l,vs,l',h=>by simp only[bR,aF,bm]at h;rw[<-h.1];simp
 | n+1,l,vs,l',h=>by
   simp only[bR]at h;cases hgl:g l with
   |none=>rw[hgl]at h;cases h
   | some p=>
     rw[hgl]at h;simp only[bh]at h;cases hr:bR g n p.2 with
     |none=>rw[hr]at h;cases h
     | some q=>
       rw[hr]at h;simp only[bh,aF,bm]at h;rw[<-h.1];intro v hv;simp only[List.mem_cons]at hv;rcases hv with rfl|hv
       ·exact hg l _ _ hgl
       ·exact Ke hg n p.2 q.1 q.2 hr v hv
def zbE {X Y:Type}{f:X->Option (X⊕Y)}(mk:List β->Nat->σ->X)(fin:List β->σ->Y)(n:Nat)(g:List UInt8->Option (β×List UInt8))
  (hbad:∀out i s,i<=n->Re s aj->f (mk out i s)=U (.inr (fin out s)))
  (hend:∀out s l,Re s (U l)->f (mk out n s)=U (.inr (fin out s)))
  (hstep:∀out i s l,i<n->out.length=i->Re s (U l)->∃v s',f (mk out i s)=U (.inl (mk (out++[v]) (i+1) s'))/\Re s' ((g l).map (·.2))/\∀v' l',g l=U (v',l')->v=v') :
  ∀(out:List β) (i:Nat) (s:σ) (st:Option (List UInt8)),i<=n->(∀l,st=U l->out.length=i)->Re s st ->
   ∃out' s',aE f (mk out i s)=U (fin out' s')/\Re s' ((st.bind (bR g (n-i))).map (·.2))/\∀vs l',st.bind (bR g (n-i))=U (vs,l')->out'=out++vs:=by
 intro out i s st hi;generalize hm:n-i=m
 induction m generalizing out i s st with
 | zero=>
   intro ho h;have:i=n:=by omega
   subst this;rw[eV];cases st with
   |none=>rw[hbad out i s hi h];exact⟨out,s,rfl,h,fun _ _ h=>by cases h⟩
   | some l=>
     rw[hend out s l h];exact⟨out,s,rfl,h,fun vs l' h=>by simp only[bh,bR,aF,bm]at h;simp[<-h.1]⟩
 | succ m ih=>
   intro ho h;rw[eV];cases st with
   |none=>rw[hbad out i s hi h];exact⟨out,s,rfl,h,fun _ _ h=>by cases h⟩
   | some l=>
     obtain⟨v,s',h1,h2,h3⟩:=hstep out i s l (by omega) (ho l rfl) h;rw[h1];obtain⟨out',s'',q1,q2,q3⟩:=ih (out++[v]) (i+1) s' ((g l).map (·.2)) (by omega) (by omega) (by intro l' hl;simp[ho l rfl]) h2;refine⟨out',s'',q1,?_,fun vs l' hv=>?_⟩
     ·cases hg:g l with
      |none=>rw[hg]at q2;simpa[bR,hg]using q2
      | some p=>
        rw[hg]at q2;simp only[Option.map_some,bh]at q2;simp only[bh,bR,hg]
        cases hr:bR g m p.2 with
        |none=>rw[hr]at q2;exact q2
        |some q=>rw[hr]at q2;exact q2
     ·cases hg:g l with
      |none=>simp[bR,hg]at hv
      | some p=>
        obtain⟨a,b⟩:=p;have e:=h3 a b hg;subst e;rw[hg]at q3;simp only[Option.map_some,bh]at q3;simp only[bh,bR,hg]at hv;cases hr:bR g m b with
        |none=>rw[hr]at hv;cases hv
        | some q=>
          rw[hr]at hv;simp only[bh,aF,bm]at hv;rw[q3 q.1 q.2 hr,<-hv.1];simp
end
def g1:List UInt8->Option (Int×List UInt8)
 |[]=>aj
 |x::l=>U ((x.toNat:Int),l)
def g2 (l:List UInt8):Option (Int×List UInt8):=(g1 l).bind fun p=>(g1 p.2).bind fun q=>U (p.1*256+q.1,q.2)
def gT (n:Int)(l:List UInt8):Option (List UInt8×List UInt8):=if n<=l.length then U (l.take n.toNat,l.drop n.toNat)else aj
def f8 {l l':List UInt8}{v:Int}(h:g1 l=U (v,l')):0<=v/\v<=255:=by
 cases l with
 |nil=>cases h
 | cons x l=>
   simp only[g1,aF,bm]at h;have:=x.toNat_lt;omega
def yY {l l':List UInt8}{v:Int}(h:g2 l=U (v,l')):0<=v/\v<=65535:=by
 unfold g2 at h;cases h1:g1 l with
 |none=>rw[h1]at h;cases h
 | some p=>
   rw[h1]at h;simp only[bh]at h;cases h2:g1 p.2 with
   |none=>rw[h2]at h;cases h
   | some q=>
     rw[h2]at h;simp only[bh,aF,bm]at h;have:=f8 (l:=l) (v:=p.1) (l':=p.2) h1;have:=f8 (l:=p.2) (v:=q.1) (l':=q.2) h2;omega
end Go.TM
end
namespace Go.Proofs.YtmjlecabpbiigaaGreat
section
open Go Go.AM Go.TM
def dw (s0:List UInt8)(p:List UInt8×Int×Bool)(st:Option (List UInt8)):Prop :=
 p.1=s0/\0<=p.2.1/\p.2.1<=s0.length/\s0.length<=900/\(st=aj->p.2.2=ae)/\∀l,st=U l->p.2.2=ag/\l=s0.drop p.2.1.toNat
def dV (p:List UInt8×Bool)(st:Option (List UInt8)):Prop :=
 p.1.length<=900/\(st=aj->p.2=ae)/\∀l,st=U l->p.2=ag/\l=p.1
def wI {x:Int}(h1 : -9223372036854775808<=x)(h2:x<=9223372036854775807):IntKind.wrap .i64 x=x:=AM.wrapI h1 h2
def dw.bad {s0:List UInt8}{p:List UInt8×Int×Bool}{st:Option (List UInt8)}(h:dw s0 p st):dw s0 (p.1,p.2.1,ae) aj:=⟨h.1,h.2.1,h.2.2.1,h.2.2.2.1,fun _=>rfl,fun _ h=>by cases h⟩
def dV.bad {p:List UInt8×Bool}{st:Option (List UInt8)}(h:dV p st):dV (p.1,ae) aj:=⟨h.1,fun _=>rfl,fun _ h=>by cases h⟩
def ic {s0:List UInt8}(s:List UInt8×Int×Bool)(st:Option (List UInt8))(h:dw s0 s st):Sm (dw s0) (fA s) (st.bind g1):=by
 obtain⟨o0,o1,o2⟩:=s;obtain⟨h1,h2,h3,h4,h5,h6⟩:=h;simp only at h1 h2 h3 h5 h6;subst h1;cases st with
 | none=>
   have:=h5 rfl;subst this;refine⟨0,(o0,o1,ae),rfl,⟨rfl,h2,h3,h4,fun _=>rfl,fun _ h=>by cases h⟩,fun _ _ h=>by cases h⟩
 | some l=>
   obtain⟨rfl,rfl⟩:=h6 l rfl;simp only[fA,aM,aJ,aG]
   by_cases hl:(o0.length:Int)<=o1
   ·rw[if_pos hl];have:o0.drop o1.toNat=[]:=List.drop_eq_nil_of_le (by omega);refine⟨_,_,rfl,?_,?_⟩
    ·simp only[bh,this,g1,Option.map_none]
     exact⟨rfl,h2,h3,h4,fun _=>rfl,fun _ h=>by cases h⟩
    ·intro v' l' hv;simp[this,g1]at hv
   ·rw[if_neg hl];rw[wI (x:=o1+1) (by omega) (by omega),wI (x:=o1+1-1) (by omega) (by omega),show o1+1-1=o1 by omega];have hn:o1.toNat<o0.length:=by omega
    rw[cb h2,bq hn];have hr:=o0[o1.toNat].toNat_lt;rw[wI (by omega) (by omega)];refine⟨_,_,rfl,?_,?_⟩
    ·simp only[bh,kv hn,g1,Option.map_some]
     refine⟨rfl,by simp only;omega,by simp only;omega,h4,(fun h=>by cases h),fun l h=>⟨rfl,?_⟩⟩;simp only[aF]at h;rw[<-h];simp only
     rw[show(o1+1).toNat=o1.toNat+1 by omega]
    ·intro v' l' hv;simp only[bh,kv hn,g1,aF,bm]at hv;exact hv.1
def ie {s0:List UInt8}(s:List UInt8×Int×Bool)(st:Option (List UInt8))(h:dw s0 s st):Sm (dw s0) (e_ s) (st.bind g2):=by
 have e:st.bind g2=(st.bind g1).bind fun p=>(g1 p.2).bind fun q=>U (p.1*256+q.1,q.2):=by cases st<;>rfl
 rw[e];refine Sm.bind (k':=fun a l=>(g1 l).bind fun q=>U (a*256+q.1,q.2)) (ic s st h) fun v s1 st1 h1 e1=>?_
 have e:(st1.bind fun l=>(g1 l).bind fun q=>U (v*256+q.1,q.2))=(st1.bind g1).bind fun q=>U (v*256+q.1,q.2):=by cases st1<;>rfl
 rw[e];refine Sm.bind (k':=fun a l=>U (v*256+a,l)) (ic s1 st1 h1) fun v2 s2 st2 h2 e2=>?_
 cases st2 with
 |none=>exact⟨_,_,rfl,h2,fun _ _ h=>by cases h⟩
 | some l2=>
   have q2:=e2 l2 rfl;cases st1 with
   |none=>cases q2
   | some l1=>
     have q1:=e1 l1 rfl;cases st with
     |none=>cases q1
     | some l=>
       have r1:=f8 (l:=l) q1;have r2:=f8 (l:=l1) q2;refine⟨_,_,rfl,h2,fun v' l' hv=>?_⟩;simp only[bh,aF,bm]at hv;rw[<-hv.1];rw[wI (x:=v*256) (by omega) (by omega),wI (by omega) (by omega)]
def Dl {s0:List UInt8}(n:Int)(s:List UInt8×Int×Bool)(st:Option (List UInt8))(h:dw s0 s st)(hn:∀ l,st=U l->0<=n/\n<=65535):Sm (dw s0) (qT (n,s)) (st.bind (gT n)):=by
 obtain⟨o0,o1,o2⟩:=s;obtain⟨h1,h2,h3,h4,h5,h6⟩:=h;simp only at h1 h2 h3 h5 h6;subst h1;cases st with
 | none=>
   have:=h5 rfl;subst this;refine⟨[],(o0,o1,ae),rfl,⟨rfl,h2,h3,h4,fun _=>rfl,fun _ h=>by cases h⟩,fun _ _ h=>by cases h⟩
 | some l=>
   obtain⟨rfl,rfl⟩:=h6 l rfl;obtain⟨n0,n1⟩:=hn _ rfl;simp only[qT,aM,aJ,aG]
   rw[wI (x:=o1+n) (by omega) (by omega),wI (x:=o1+n-n) (by omega) (by omega),show o1+n-n=o1 by omega];by_cases hl:(o0.length:Int)<o1+n
   ·rw[if_pos hl];refine⟨_,_,rfl,?_,?_⟩
    ·have:¬n<=((o0.drop o1.toNat).length:Int):=by simp only[dx];omega
     simp only[bh,gT,if_neg this,Option.map_none]
     exact⟨rfl,h2,h3,h4,fun _=>rfl,fun _ h=>by cases h⟩
    ·intro v' l' hv;have:¬n<=((o0.drop o1.toNat).length:Int):=by simp only[dx];omega
     simp only[bh,gT,if_neg this]at hv;cases hv
   ·rw[if_neg hl];have hle:n<=((o0.drop o1.toNat).length:Int):=by simp only[dx];omega
    rw[mJ,mJ,cb h2,cb (by omega),cb (by omega)];refine⟨_,_,rfl,?_,?_⟩
    ·simp only[bh,gT,if_pos hle,Option.map_some]
     refine⟨rfl,by simp only;omega,by simp only;omega,h4,(fun h=>by cases h),fun l h=>⟨rfl,?_⟩⟩;simp only[aF]at h;rw[<-h,List.drop_drop];simp only
     rw[show(o1+n).toNat=o1.toNat+n.toNat by omega]
    ·intro v' l' hv;simp only[bh,gT,if_pos hle,aF,bm]at hv;rw[<-hv.1,show(o1+n).toNat=o1.toNat+n.toNat by omega,List.drop_take];congr 1;omega
def yZ (n:Int)(s:List UInt8×Bool)(st:Option (List UInt8))(h:dV s st)(hn:∀ l,st=U l->0<=n):Sm dV (pw (n,s)) (st.bind (gT n)):=by
 obtain⟨o0,o1⟩:=s;obtain⟨h4,h5,h6⟩:=h;simp only at h4 h5 h6;cases st with
 | none=>
   have:=h5 rfl;subst this;refine⟨[],(o0,ae),rfl,⟨h4,fun _=>rfl,fun _ h=>by cases h⟩,fun _ _ h=>by cases h⟩
 | some l=>
   obtain⟨rfl,rfl⟩:=h6 l rfl;have n0:=hn _ rfl;simp only[pw,aM,aJ,aG]
   by_cases hl:(l.length:Int)<n
   ·rw[if_pos hl];refine⟨_,_,rfl,?_,?_⟩
    ·simp only[bh,gT,if_neg (show ¬n<=(l.length:Int)by omega),Option.map_none]
     exact⟨h4,fun _=>rfl,fun _ h=>by cases h⟩
    ·intro v' l' hv;simp only[bh,gT,if_neg (show ¬n<=(l.length:Int)by omega)]at hv;cases hv
   ·rw[if_neg hl];have hle:n<=(l.length:Int):=by omega
    rw[mJ,cb n0,cb hle,mJ,mJ,cb n0,cb hle,cb (Int.le_refl _)];have et:de (aw (l.length:Int)) l=l:=by rw[show aw (l.length:Int)=l.length by omega,List.take_length]
    refine⟨_,_,rfl,?_,?_⟩
    ·simp only[bh,gT,if_pos hle,Option.map_some]
     refine⟨by rw[et];simp only[dx];omega,(fun h=>by cases h),fun l' h=>⟨rfl,?_⟩⟩;simp only[aF]at h;rw[<-h,et]
    ·intro v' l' hv;simp only[bh,gT,if_pos hle,aF,bm]at hv;rw[<-hv.1,List.drop_zero]
def ig (s:List UInt8×Bool)(st:Option (List UInt8))(h:dV s st):Sm dV (fB s) (st.bind g1):=by
 obtain⟨v,s1,e1,e2,e3⟩:=yZ 1 s st h fun _ _=>by omega
 obtain⟨o0,o1⟩:=s;obtain⟨p0,p1⟩:=s1;simp only[fB]
 rw[e1,ax];simp only
 cases st with
 | none=>
   have:=e2.2.1 rfl;simp only at this;subst this;exact⟨_,_,rfl,e2,fun _ _ h=>by cases h⟩
 | some l=>
   cases l with
   | nil=>
     have hb:=e2.2.1 (by simp[gT]);simp only at hb;subst hb;refine⟨_,_,rfl,?_,fun _ _ h=>by simp[g1]at h⟩;simpa[gT,g1]using e2
   | cons x l=>
     have hg:(U (x::l)).bind (gT 1)=U ([x],l):=by simp[gT];omega
     rw[hg]at e2 e3;have:=e3 _ _ rfl;subst this;have hb:=(e2.2.2 l rfl).1;simp only at hb;subst hb;have hr:=x.toNat_lt;simp only[aM,aq,List.getElem?_cons_zero,Int.toNat_zero]
     rw[wI (by omega) (by omega)];exact⟨_,_,rfl,e2,fun v' l' hv=>by simp only[bh,g1,aF,bm]at hv;exact hv.1⟩
def ij (s:List UInt8×Bool)(st:Option (List UInt8))(h:dV s st):Sm dV (ff s) (st.bind g2):=by
 have e:st.bind g2=(st.bind g1).bind fun p=>(g1 p.2).bind fun q=>U (p.1*256+q.1,q.2):=by cases st<;>rfl
 rw[e];refine Sm.bind (k':=fun a l=>(g1 l).bind fun q=>U (a*256+q.1,q.2)) (ig s st h) fun v s1 st1 h1 e1=>?_
 have e:(st1.bind fun l=>(g1 l).bind fun q=>U (v*256+q.1,q.2))=(st1.bind g1).bind fun q=>U (v*256+q.1,q.2):=by cases st1<;>rfl
 rw[e];refine Sm.bind (k':=fun a l=>U (v*256+a,l)) (ig s1 st1 h1) fun v2 s2 st2 h2 e2=>?_
 cases st2 with
 |none=>exact⟨_,_,rfl,h2,fun _ _ h=>by cases h⟩
 | some l2=>
   have q2:=e2 l2 rfl;cases st1 with
   |none=>cases q2
   | some l1=>
     have q1:=e1 l1 rfl;cases st with
     |none=>cases q1
     | some l=>
       have r1:=f8 (l:=l) q1;have r2:=f8 (l:=l1) q2;refine⟨_,_,rfl,h2,fun v' l' hv=>?_⟩;simp only[bh,aF,bm]at hv;rw[<-hv.1];rw[wI (x:=256*v) (by omega) (by omega),wI (by omega) (by omega)];omega
end
end Go.Proofs.YtmjlecabpbiigaaGreat
section
namespace Go.TM
open Go.AM
section
variable {σ α β R Y:Type}
def kB {r:Option α}{k:α->Option (Y⊕R)}{k2:Y->Option R}:bindE (ah r k) k2=ah r fun x=>bindE (k x) k2:=by cases r<;>rfl
def mL {c:Prop}[Decidable c](A B:Y)(k:Y->Option R):bindE (ai (aa c) (U (.inl A)) (U (.inl B))) k=k (if c then A else B):=by by_cases h:c<;>simp[h]
variable {Re:σ->Option (List UInt8)->Prop}
def ct {F:Option (α×σ)}{g:List UInt8->Option (α×List UInt8)}{st:Option (List UInt8)}{k:α×σ->Option (β×σ)}{k':α->List UInt8->Option (β×List UInt8)}
  (hF:Sm Re F (st.bind g)) (hk:∀v s' st',Re s' st'->(∀l',st'=U l'->∃l,st=U l/\g l=U (v,l'))->Sm Re (k (v,s')) (st'.bind (k' v))) :
  Sm Re (ah F k) (st.bind fun l=>(g l).bind fun p=>k' p.1 p.2):=by
 have e:(st.bind fun l=>(g l).bind fun p=>k' p.1 p.2)=(st.bind g).bind fun p=>k' p.1 p.2:=by cases st<;>rfl
 rw[e];refine Sm.bind hF fun v s' st' h1 h2=>hk v s' st' h1 fun l' hl=>?_
 have:=h2 l' hl;cases st with
 |none=>cases this
 |some l=>exact⟨l,rfl,this⟩
def gx {c:Prop}[Decidable c](st:Option (List UInt8))(M:List UInt8->Option (β×List UInt8)):(st.bind fun l=>if c then aj else M l)=(if c then aj else st).bind M:=by
 by_cases h:c<;>cases st<;>simp[h]
def Kf {X Y:Type}{f:X->Option (X⊕Y)}(mk:List β->Nat->σ->X)(fin:List β->σ->Y)(n:Nat)(g:List UInt8->Option (β×List UInt8))(s:σ)(st:Option (List UInt8))(h:Re s st)
  (hbad:∀out i s,Re s aj->f (mk out i s)=U (.inr (fin out s)))
  (hg:∀l,st=U l->(∀out s l,Re s (U l)->f (mk out n s)=U (.inr (fin out s))) /\
   ∀out i s l,i<n->out.length=i->Re s (U l)->∃v s',f (mk out i s)=U (.inl (mk (out++[v]) (i+1) s'))/\Re s' ((g l).map (·.2))/\∀v' l',g l=U (v',l')->v=v') :
   ∃out' s',aE f (mk [] 0 s)=U (fin out' s')/\Re s' ((st.bind (bR g n)).map (·.2))/\∀vs l',st.bind (bR g n)=U (vs,l')->out'=vs:=by
 cases st with
 | none=>
   rw[eV,hbad [] 0 s h];exact⟨[],s,rfl,h,fun _ _ h=>by cases h⟩
 | some l=>
   obtain⟨h1,h2⟩:=hg l rfl;obtain⟨o,s',q1,q2,q3⟩:=zbE mk fin n g (fun out i s _ h=>hbad out i s h) h1 h2 [] 0 s (U l) (Nat.zero_le _) (fun _ _=>rfl) h;exact⟨o,s',q1,q2,fun vs l' h=>by simpa using q3 vs l' h⟩
def Sm.loop {X Y γ:Type}{f:X->Option (X⊕(Y⊕(γ×σ)))}(mk:List β->Nat->σ->X)(fin:List β->σ->Y)(n:Nat)(g:List UInt8->Option (β×List UInt8)){s:σ}{st:Option (List UInt8)}(h:Re s st)
  {k:Y->Option (γ×σ)} {k':List β->List UInt8->Option (γ×List UInt8)} {x0:X} (hx:x0=mk [] 0 s)
  (hbad:∀out i s,Re s aj->f (mk out i s)=U (.inr (.inl (fin out s))))
  (hg:∀l,st=U l->(∀out s l,Re s (U l)->f (mk out n s)=U (.inr (.inl (fin out s)))) /\
   ∀out i s l,i<n->out.length=i->Re s (U l)->∃v s',f (mk out i s)=U (.inl (mk (out++[v]) (i+1) s'))/\Re s' ((g l).map (·.2))/\∀v' l',g l=U (v',l')->v=v')
  (hk:∀out s' st',Re s' st'->Sm Re (k (fin out s')) (st'.bind (k' out))) :
  Sm Re (bindE (aE f x0) k) (st.bind fun l=>(bR g n l).bind fun p=>k' p.1 p.2):=by
 obtain⟨o,s',q1,q2,q3⟩:=Kf mk (fun out s=>(.inl (fin out s):Y⊕(γ×σ))) n g s st h hbad hg;rw[hx,q1,aJ];have:=hk o s' _ q2;have e:(st.bind fun l=>(bR g n l).bind fun p=>k' p.1 p.2)=(st.bind (bR g n)).bind fun p=>k' p.1 p.2:=by cases st<;>rfl
 rw[e];cases hm:st.bind (bR g n)with
 |none=>rw[hm]at this;exact this
 | some p=>
   rw[hm]at this;rw[q3 p.1 p.2 hm]at this ⊢;exact this
def Sm.one {X Y:Type}{r:Option (β×σ)}{m:Option (β×List UInt8)}{q:Option (X⊕Y)}{mk:β->σ->X}(h:Sm Re r m)(hq:∀ v s,r=U (v,s)->q=U (.inl (mk v s))) :
  ∃v s',q=U (.inl (mk v s'))/\Re s' (m.map (·.2))/\∀v' l',m=U (v',l')->v=v':=by
 obtain⟨v,s,h1,h2,h3⟩:=h;exact⟨v,s,hq v s h1,h2,h3⟩
end
end Go.TM
namespace Go.Proofs.YtmjlecabpbiigaaGreat
open Go Go.AM Go.TM
def dw.cut {s0 a:List UInt8}{b:Int}{t:Bool}{st:Option (List UInt8)}(c:Prop)[Decidable c](h:dw s0 (a,b,t) st):dw s0 (a,b,if c then ae else t) (if c then aj else st):=by
 by_cases hc:c
 ·simp only[if_pos hc];exact h.bad
 ·simp only[if_neg hc];exact h
def iJ (t:Int)(l:List UInt8):Option (Cst×List UInt8) :=
 if t=1 then(g1 l).bind fun p=>(gT p.1 p.2).bind fun q=>U ((1,q.1,0,0),q.2)
 else if t=2 then(g2 l).bind fun p=>U ((2,[],p.1,0),p.2)
 else if t=3\/t=4\/t=5\/t=6 then(g2 l).bind fun p=>(g2 p.2).bind fun q=>U ((t,[],p.1,q.1),q.2)
 else aj
def gy (l:List UInt8):Option (Cst×List UInt8):=(g1 l).bind fun p=>iJ p.1 p.2
def zbF {s0:List UInt8}(s:List UInt8×Int×Bool)(st:Option (List UInt8))(h:dw s0 s st):Sm (dw s0) (xt s) (st.bind gy):=by
 obtain⟨o0,o1,o2⟩:=s;simp only[xt]
 refine ct (ic _ st h) (k':=iJ) fun v ⟨a,b,c⟩ st1 h1 e1=>?_
 simp only[aG,fC]
 by_cases t1:v=1
 ·subst t1;simp only[iJ,if_true,kB,aJ]
  refine ct (ic _ st1 h1) (k':=fun n l=>(gT n l).bind fun q=>U ((1,q.1,0,0),q.2)) fun n ⟨a2,b2,c2⟩ st2 h2 e2=>?_
  simp only[kB,aJ]
  refine ct (Dl n _ st2 h2 fun l hl=>?_) (k':=fun q l=>U ((1,q,0,0),l)) fun n ⟨a3,b3,c3⟩ st3 h3 e3=>Sm.ret h3 _
  obtain⟨_,_,hg⟩:=e2 l hl;have:=f8 hg;omega
 ·by_cases t2:v=2
  ·subst t2;simp only[iJ,t1,if_false,if_true,kB,aJ]
   exact ct (ie _ st1 h1) (k':=fun n l=>U ((2,[],n,0),l)) fun n ⟨a2,b2,c2⟩ st2 h2 e2=>Sm.ret h2 _
  ·by_cases t3:v=3\/v=4\/v=5\/v=6
   ·have two:Sm (dw s0) (ah (e_ (a,b,c)) fun x=>match x with
      | (y4,y5,y6,y7)=>ah (e_ (y5,y6,y7)) fun x=>match x with
        |(y8,y9,y10,y11)=>U ((v,([]:List UInt8),y4,y8),y9,y10,y11)) (st1.bind fun l=>(g2 l).bind fun p=>(g2 p.2).bind fun q=>U ((v,[],p.1,q.1),q.2)) :=
     ct (ie _ st1 h1) (k':=fun n l=>(g2 l).bind fun q=>U ((v,[],n,q.1),q.2)) fun n ⟨a2,b2,c2⟩ st2 h2 e2=>
      ct (ie _ st2 h2) (k':=fun q l=>U ((v,[],n,q),l)) fun n ⟨a3,b3,c3⟩ st3 h3 e3=>Sm.ret h3 _
    rcases t3 with rfl|rfl|rfl|rfl <;>
    ·simp only[iJ,Int.reduceEq,↓reduceIte,kB,aJ,aN,ay,or_true,true_or]
     exact two
   ·have h3:¬v=3:=fun h=>t3 (.inl h)
    have h4:¬v=4:=fun h=>t3 (.inr (.inl h))
    have h5:¬v=5:=fun h=>t3 (.inr (.inr (.inl h)))
    have h6:¬v=6:=fun h=>t3 (.inr (.inr (.inr h)))
    simp only[t1,t2,h3,h4,h5,h6,↓reduceIte,aJ,aM,bc]
    refine⟨_,_,rfl,?_,?_⟩
    ·cases st1<;>simp only[Option.bind_none,bh,iJ,t1,t2,h3,h4,h5,h6,↓reduceIte,or_false]<;>exact h1.bad
    ·intro _ _ h;cases st1<;>simp only[Option.bind_none,bh,iJ,t1,t2,h3,h4,h5,h6,↓reduceIte,or_false]at h<;>cases h
def i60 (s:List UInt8×Bool)(st:Option (List UInt8))(h:dV s st):Sm dV (yd s) (st.bind gy):=by
 obtain⟨o0,o1⟩:=s;simp only[yd]
 refine ct (ig _ st h) (k':=iJ) fun v ⟨a,c⟩ st1 h1 e1=>?_
 simp only[aG,fC]
 by_cases t1:v=1
 ·subst t1;simp only[iJ,if_true,kB,aJ]
  refine ct (ig _ st1 h1) (k':=fun n l=>(gT n l).bind fun q=>U ((1,q.1,0,0),q.2)) fun n ⟨a2,c2⟩ st2 h2 e2=>?_
  simp only[kB,aJ]
  refine ct (yZ n _ st2 h2 fun l hl=>?_) (k':=fun q l=>U ((1,q,0,0),l)) fun n ⟨a3,c3⟩ st3 h3 e3=>Sm.ret h3 _
  obtain⟨_,_,hg⟩:=e2 l hl;have:=f8 hg;omega
 ·by_cases t2:v=2
  ·subst t2;simp only[iJ,t1,if_false,if_true,kB,aJ]
   exact ct (ij _ st1 h1) (k':=fun n l=>U ((2,[],n,0),l)) fun n ⟨a2,c2⟩ st2 h2 e2=>Sm.ret h2 _
  ·by_cases t3:v=3\/v=4\/v=5\/v=6
   ·have two:Sm dV (ah (ff (a,c)) fun x=>match x with
      | (y4,y5,y7)=>ah (ff (y5,y7)) fun x=>match x with
        |(y8,y9,y11)=>U ((v,([]:List UInt8),y4,y8),y9,y11)) (st1.bind fun l=>(g2 l).bind fun p=>(g2 p.2).bind fun q=>U ((v,[],p.1,q.1),q.2)) :=
     ct (ij _ st1 h1) (k':=fun n l=>(g2 l).bind fun q=>U ((v,[],n,q.1),q.2)) fun n ⟨a2,c2⟩ st2 h2 e2=>
      ct (ij _ st2 h2) (k':=fun q l=>U ((v,[],n,q),l)) fun n ⟨a3,c3⟩ st3 h3 e3=>Sm.ret h3 _
    rcases t3 with rfl|rfl|rfl|rfl <;>
    ·simp only[iJ,Int.reduceEq,↓reduceIte,kB,aJ,aN,ay,or_true,true_or]
     exact two
   ·have h3:¬v=3:=fun h=>t3 (.inl h)
    have h4:¬v=4:=fun h=>t3 (.inr (.inl h))
    have h5:¬v=5:=fun h=>t3 (.inr (.inr (.inl h)))
    have h6:¬v=6:=fun h=>t3 (.inr (.inr (.inr h)))
    simp only[t1,t2,h3,h4,h5,h6,↓reduceIte,aJ,aM,bc]
    refine⟨_,_,rfl,?_,?_⟩
    ·cases st1<;>simp only[Option.bind_none,bh,iJ,t1,t2,h3,h4,h5,h6,↓reduceIte,or_false]<;>exact h1.bad
    ·intro _ _ h;cases st1<;>simp only[Option.bind_none,bh,iJ,t1,t2,h3,h4,h5,h6,↓reduceIte,or_false]at h<;>cases h
def cP {β:Type}(most:Int)(g:List UInt8->Option (β×List UInt8))(l:List UInt8):Option (List β×List UInt8) :=
 (g1 l).bind fun p=>if most<p.1 then aj else bR g p.1.toNat p.2
def zbG {s0:List UInt8}(s:List UInt8×Int×Bool)(st:Option (List UInt8))(h:dw s0 s st):Sm (dw s0) (xu s) (st.bind (cP 60 gy)):=by
 obtain⟨o0,o1,o2⟩:=s;simp only[xu]
 refine ct (ic _ st h) (k':=fun n l=>if 60<n then aj else bR gy n.toNat l) fun v ⟨a,b,c⟩ st1 h1 e1=>?_
 simp only[mL]
 rw[show(if(60:Int)<v then(([]:List Cst),v,a,b,ae)else([],v,a,b,c))=([],v,a,b,if 60<v then ae else c)by split<;>rfl];simp only
 rw[gx];have h2:=h1.cut (60<v)
 have e:((if 60<v then aj else st1).bind fun l=>bR gy v.toNat l)=(if 60<v then aj else st1).bind fun l=>(bR gy v.toNat l).bind fun p=>U (p.1,p.2):=by
  congr 1;funext l;cases bR gy v.toNat l<;>rfl
 rw[e];refine Sm.loop (fun out i s=>(out,v,(i:Int),s)) (fun out s=>(out,s)) v.toNat gy h2 (k':=fun p l=>U (p,l)) rfl ?_ ?_ ?_
 ·intro out i ⟨a,b,c⟩ hs;have:=hs.2.2.2.2.1 rfl;simp only at this;subst this;by_cases hi:(i:Int)<v<;>simp only[hi,ay,bc,aN,aM,Bool.not_true,aV]
 ·intro l hl
  have hv:0<=v/\v<=60:=by
   split at hl
   ·cases hl
   ·obtain⟨_,_,hg⟩:=e1 l hl;have:=f8 hg;omega
  refine⟨fun out ⟨a,b,c⟩ l hs=>?_,fun out i ⟨a,b,c⟩ l hi ho hs=>?_⟩
  ·have hi:¬((v.toNat:Int)<v):=by omega
   simp only[hi,bc,aM,aV]
  ·have hi':(i:Int)<v:=by omega
   have hc:=(hs.2.2.2.2.2 l rfl).1;simp only at hc;subst hc;obtain⟨w,⟨a2,b2,c2⟩,r1,r2,r3⟩:=zbF (a,b,ag) (U l) hs;simp only[hi',ay,aN,Bool.not_false,aJ,r1,ax]
   rw[mJ,cb (by omega),cb (by omega),wI (by omega) (by omega)];exact⟨w,_,rfl,r2,r3⟩
 ·intro out ⟨a,b,c⟩ st' hs;exact Sm.ret hs _
end Go.Proofs.YtmjlecabpbiigaaGreat
end
