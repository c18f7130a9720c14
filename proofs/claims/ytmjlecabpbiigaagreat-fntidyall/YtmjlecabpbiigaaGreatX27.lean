/- Part 28 of the proof of FnTidyAll; no condition. -/
import Derived.Test.YtmjlecabpbiigaaGreatX26
open Option renaming some -> U
open Decidable renaming decide -> aa
open Bool renaming true -> ae
open Bool renaming false -> ag
open Option renaming none -> aj
open Sum renaming inr -> an
open Sum renaming inl -> ao
open List renaming length -> au
open Int renaming toNat -> aw
open List renaming drop -> cU
open List renaming take -> de
set_option autoImplicit true
set_option relaxedAutoImplicit true
set_option linter.all false
namespace Go.Proofs.YtmjlecabpbiigaaGreat
noncomputable section
open Go Go.AM Go.TM
open Go.Proofs.Tryz
open Sum (inl inr)
open Go.IntKind (wrap)
set_option maxRecDepth 100000
set_option maxHeartbeats 4000000
abbrev I5:SPat:=⟨[(0,.agg (pl cy)),(1,.agg (pl cy))],[]⟩
abbrev T5:SPat:=⟨[(2,.ptr 2 0),(3,.ptr 3 0),(5,.i .i64)],[.box 2 (pl cy),.box 3 (pl cy)]⟩
abbrev I6:SPat:=⟨[(2,.ptr 2 0),(3,.ptr 3 0)],[.box 2 (pl cy),.box 3 (pl cy)]⟩
def T6:Nat->Option SPat:=fun k=>bif k==4 then U T5 else bif k==1000003 then U I6 else bif k==2000000 then U I6 else aj
def T7:Nat->List Nat×a_:=fun id=>bif id==6 then(lM,.fin)else([],.fin)
def xz :  Mth×Mth->Option Bool:=fun((a,b,c,d,e,f,g,h),i,j,k,l,m,n,o,p)=>
 bindE (Y :=  Mth×Mth) (ai (!aa (a=i))
 (U (an ag))
 (ai (!aa (b=j))
 (U (an ag))
 (ai (!aa (c=k))
 (U (an ag))
 (ai (!aa (d=l))
 (U (an ag))
 (ai (!aa (e=m))
 (U (an ag))
 (ai (!aa (f=n))
 (U (an ag))
 (ai (!aa ((g.length:Int)=(o.length:Int)))
 (U (an ag))
 (U (ao ((a,b,c,d,e,f,g,h),i,j,k,l,m,n,o,p)))))))))) fun((a,b,c,d,e,f,g,h),i,j,k,l,m,n,o,p)=>
 bindE (Y :=  Mth×Mth) (aE (fun(a,(b,c,d,e,f,g,h,i),j,k,l,m,n,o,p,q)=>
 ai (aa (a<(h.length:Int)))
 (af (aa (0<=a)) (aq h a.toNat fun r=>af (aa (0<=a)) (aq p a.toNat fun s=>ai (!(aa (r.1=s.1)&&(aa (r.2.1=s.2.1)&&(aa (r.2.2.1=s.2.2.1)&&(aa (r.2.2.2=s.2.2.2)&&ae)))))
 (U (an (an ag)))
 (U (ao (wrap .i64 (a+1),(b,c,d,e,f,g,h,i),j,k,l,m,n,o,p,q))))))
 (U (an (ao ((b,c,d,e,f,g,h,i),j,k,l,m,n,o,p,q))))) (((0:Int),(a,b,c,d,e,f,g,h),i,j,k,l,m,n,o,p))) fun((_,_,_,_,_,_,_,a),_,_,_,_,_,_,_,b)=>
 ah (xy (a,b)) fun a=>
 U (a)
def tb194:=az 194 (aB 194 ae [] I5 dp xz [.tmp 4] 78 []) tb215
def T8:zTb tb194:=aC T4 T7 T6 func194 rfl call194
abbrev I7:SPat:=⟨[(0,.agg (pl ch)),(1,.agg (pl ch))],[]⟩
abbrev T9:SPat:=⟨[(2,.ptr 2 0),(3,.ptr 3 0),(5,.i .i64)],wO⟩
abbrev T_:SPat:=⟨[(2,.ptr 2 0),(3,.ptr 3 0),(6,.i .i64)],wO⟩
abbrev Ua:SPat:=⟨[(2,.ptr 2 0),(3,.ptr 3 0),(7,.i .i64)],wO⟩
abbrev CL:SPat:=⟨[(2,.ptr 2 0),(3,.ptr 3 0)],wO⟩
def Ub:Nat->Option SPat:=fun k=>bif k==4 then U T9 else bif k==9 then U T_ else bif k==14 then U Ua else bif k==1000003 then U CL else bif k==2000000 then U CL else bif k==2000002 then U CL else bif k==2000004 then U dH else aj
def Uc:Nat->List Nat×a_:=fun id=>bif id==6 then(lM,.fin)else bif id==11 then(lM,.fin)else bif id==16 then(nI,(.br 10 dG [] [11] .fin .fin))else([],.fin)
def xA :  Cls×Cls->Option Bool:=fun((a,b,c,d,e,f,g),h,i,j,k,l,m,n)=>
 bindE (Y :=  Cls×Cls) (ah (xx (a,h)) fun o=>
 ai (!o)
 (U (an ag))
 (ai (!aa (b=i))
 (U (an ag))
 (ai (!aa (c=j))
 (U (an ag))
 (ai (!aa (d=k))
 (U (an ag))
 (ai (!aa ((e.length:Int)=(l.length:Int)))
 (U (an ag))
 (ai (!aa ((f.length:Int)=(m.length:Int)))
 (U (an ag))
 (ai (!aa ((g.length:Int)=(n.length:Int)))
 (U (an ag))
 (U (ao ((a,b,c,d,e,f,g),h,i,j,k,l,m,n)))))))))) fun((a,b,c,d,e,f,g),h,i,j,k,l,m,n)=>
 bindE (Y :=  Cls×Cls) (aE (fun(a,(b,c,d,e,f,g,h),i,j,k,l,m,n,o)=>
 ai (aa (a<(f.length:Int)))
 (af (aa (0<=a)) (aq f a.toNat fun p=>af (aa (0<=a)) (aq m a.toNat fun q=>ai (!aa (p=q))
 (U (an (an ag)))
 (U (ao (wrap .i64 (a+1),(b,c,d,e,f,g,h),i,j,k,l,m,n,o))))))
 (U (an (ao ((b,c,d,e,f,g,h),i,j,k,l,m,n,o))))) (((0:Int),(a,b,c,d,e,f,g),h,i,j,k,l,m,n))) fun((a,b,c,d,e,f,g),h,i,j,k,l,m,n)=>
 bindE (Y :=  Cls×Cls) (aE (fun(a,(b,c,d,e,f,g,h),i,j,k,l,m,n,o)=>
 ai (aa (a<(g.length:Int)))
 (af (aa (0<=a)) (aq g a.toNat fun p=>af (aa (0<=a)) (aq n a.toNat fun q=>ai (!(aa (p.1=q.1)&&(aa (p.2.1=q.2.1)&&(aa (p.2.2=q.2.2)&&ae))))
 (U (an (an ag)))
 (U (ao (wrap .i64 (a+1),(b,c,d,e,f,g,h),i,j,k,l,m,n,o))))))
 (U (an (ao ((b,c,d,e,f,g,h),i,j,k,l,m,n,o))))) (((0:Int),(a,b,c,d,e,f,g),h,i,j,k,l,m,n))) fun((a,b,c,d,e,f,g),h,i,j,k,l,m,n)=>
 bindE (aE (fun(a,(b,c,d,e,f,g,h),i,j,k,l,m,n,o)=>
 ai (aa (a<(h.length:Int)))
 (af (aa (0<=a)) (aq h a.toNat fun p=>af (aa (0<=a)) (aq o a.toNat fun q=>ah (xz ((p.1,p.2.1,p.2.2.1,p.2.2.2.1,p.2.2.2.2.1,p.2.2.2.2.2.1,p.2.2.2.2.2.2.1,p.2.2.2.2.2.2.2),q.1,q.2.1,q.2.2.1,q.2.2.2.1,q.2.2.2.2.1,q.2.2.2.2.2.1,q.2.2.2.2.2.2.1,q.2.2.2.2.2.2.2)) fun p=>
 ai (!p)
 (U (an (an ag)))
 (U (ao (wrap .i64 (a+1),(b,c,d,e,f,g,h),i,j,k,l,m,n,o))))))
 (U (an (ao ())))) (((0:Int),(a,b,c,d,e,f,g),h,i,j,k,l,m,n))) fun _=>
 U (ae)
def tb178:=az 178 (aB 178 ae [] I7 dp xA [.tmp 4] 117 []) tb194
def Ud:zTb tb178:=aC T8 Uc Ub func178 rfl call178
def tw:Cls->Option zBy:=fun(a,b,c,d,e,f,g)=>
 ah (xm (a,b,c,d,e,f,g)) fun h=>
 ai (!h)
 (U ([]))
 (ah (mF (a,b,c,d,e,f,g)) fun h=>
 ah (kt h) fun(i,j,k,l,m,n,o,p)=>
 ai (!i)
 (U ([]))
 (ah (xA ((j,k,l,m,n,o,p),a,b,c,d,e,f,g)) fun a=>
 ai (!a)
 (U ([]))
 (U h)))
def tb132:=az 132 (aB 132 ae [] gQ fW tw [.tmp 2] 25 []) tb178
def Ue:zTb tb132:=aC Ud aI aR func132 rfl call132
abbrev I8:SPat:=⟨[(2,.own .str ae),(3,.s),(4,.b)],[]⟩
abbrev CM:SPat:=⟨[(0,.s),(5,.own .str ae),(6,.i .i64)],[]⟩
abbrev Uf:SPat:=⟨[(0,.s),(5,.own .str ae)],[]⟩
abbrev Ug:SPat:=⟨[(0,.s),(5,.own .str ae),(6,.i .i64),(7,.i .i64)],[]⟩
def Uh:Nat->Option SPat:=fun k=>bif k==5 then U CM else bif k==1000004 then U Uf else bif k==1000006 then U CM else bif k==1000009 then U Ug else bif k==2000000 then U CM else aj
def tz:zBy->Option (List zBy×zBy×Bool):=fun a=>
 bindE (Y:=zBy×List zBy) (ai (aa ((a.length:Int)=0))
 (U (an ([],[],ag)))
 (aq a 0 fun b=>ai (!aa ((b.toNat:Int)=40))
 (U (an ([],[],ag)))
 (U (ao (a,[]))))) fun(a,b)=>
 bindE (Y:=zBy×List zBy×Int) (aE (fun(a,b,c)=>
 bindE (Y:=zBy×List zBy×Int) (ai (aa (c<(a.length:Int)))
 (af (aa (0<=c)) (aq a c.toNat fun d=>ai (!aa ((d.toNat:Int)=41))
 (U (ao (a,b,c)))
 (U (an (an (ao (a,b,c)))))))
 (U (an (an (ao (a,b,c)))))) fun(a,b,c)=>
 ah (qS (a,c)) fun d=>
 bindE (Y:=zBy×List zBy×Int×Int) (ai (aa (d<0))
 (U (an (an (an ([],[],ag)))))
 (ai (aa (4<=(b.length:Int)))
 (U (an (an (an ([],[],ag)))))
 (U (ao (a,b,c,d))))) fun(a,b,c,d)=>
 af (aa (0<=c)&&aa (c<=d)&&aa (d<=(a.length:Int))) (af (aa (b.length+1<=9223372036854775807)&&aa ((b.length+1)*16<=140737488355328)) (U (ao (a,b++[cU c.toNat (de d.toNat a)],d))))) ((a,b,(1:Int)))) fun(a,b,c)=>
 ai (aa ((a.length:Int)<=c))
 (U (([],[],ag)))
 (af (aa (0<=wrap .i64 (c+1))&&aa (wrap .i64 (c+1)<=(a.length:Int))&&aa ((a.length:Int)<=(a.length:Int))) (ai (!aa (cU (aw (wrap .i64 (c+1))) (de (aw (a.length:Int)) a)=[(86:UInt8)]))
 (ah (mD (cU (aw (wrap .i64 (c+1))) (de (aw (a.length:Int)) a))) fun d=>
 ai (!d)
 (U (([],[],ag)))
 (U ((b,cU (aw (wrap .i64 (c+1))) (de (aw (a.length:Int)) a),ae))))
 (U ((b,cU (aw (wrap .i64 (c+1))) (de (aw (a.length:Int)) a),ae)))))
def tb171:=az 171 (aB 171 ae [] fy I8 tz [.tmp 2,.tmp 3,.tmp 4] 63 []) tb132
def Ui:zTb tb171:=aC Ue aI Uh func171 rfl call171
def pk:zBy->Option Bool:=fun a=>
 ah (tz a) fun(_,_,a)=>
 U (a)
def tb124:=az 124 (aB 124 ae [] fy e7 pk [.tmp 2] 13 []) tb171
def Uj:zTb tb124:=aC Ui aI aR func124 rfl call124
abbrev pn:SPat:=⟨[(0,.sl cD),(1,.i .i64)],[]⟩
abbrev I9:SPat:=⟨[(4,.ptr 4 0)],[.box 4 (pl dM)]⟩
def mG:List Cst×Int->Option Cst:=fun(a,b)=>
 ah (eY (b,1,(a.length:Int))) fun c=>
 ai (c)
 (af (aa (0<=wrap .i64 (b-1))) (aq a (aw (wrap .i64 (b-1))) fun a=>U ((a.1,a.2.1,a.2.2.1,a.2.2.2))))
 (U (((0:Int),[],(0:Int),(0:Int))))
def tb169:=az 169 (aB 169 ae [] pn I9 mG [.cell 4 65] 15 []) tb124
def Uk:zTb tb169:=aC Uj aI aR func169 rfl call169
abbrev CN:SPat:=⟨[(4,.s)],[]⟩
def jc:List Cst×Int->Option zBy:=fun(a,b)=>
 ah (mG (a,b)) fun(b,_,c,_)=>
 ah (mG (a,c)) fun(a,c,_,_)=>
 ai (!aa (b=2))
 (U ([]))
 (ai (!aa (a=1))
 (U ([]))
 (ah (kZ c) fun a=>
 ai (!a)
 (U ([]))
 (U c)))
def tb120:=az 120 (aB 120 ae [] pn CN jc [.tmp 4] 30 []) tb169
def Ul:zTb tb120:=aC Uk aI aR func120 rfl call120
def fZ:List Cst×Int->Option zBy:=fun(a,b)=>
 ah (mG (a,b)) fun(a,b,_,_)=>
 ai (!aa (a=1))
 (U ([]))
 (U b)
def tb122:=az 122 (aB 122 ae [] pn CN fZ [.tmp 4] 14 []) tb120
def Um:zTb tb122:=aC Ul aI aR func122 rfl call122
abbrev Un:SPat:=⟨[(4,.s),(5,.s),(6,.s)],[]⟩
def Uo:Nat->List Nat×a_:=fun id=>bif id==3 then([0,1,2,4,5,6,8,9,10],(.br 3 gp [4,5,6,8,9,10] [] (.br 7 dv [8,9,10] [] (.br 11 fw [] [] (.br 12 ko [] [] (.br 13 jA [] [] (.br 14 jB [] [] .fin .fin) .fin) .fin) .fin) .fin) .fin))else([],.fin)
def xB:List Cst×Int->Option (zBy×zBy×zBy):=fun(a,b)=>
 ah (mG (a,b)) fun(_,_,b,c)=>
 ah (mG (a,c)) fun(_,_,c,d)=>
 ah (jc (a,b)) fun b=>
 ak (ak (af (aa (a=a)) (U ())) (ak (af (aa (c=c)) (U ())) (ak (af (aa (a=a)) (U ())) (ak (af (aa (d=d)) (U ())) (U ()))))) (ah (fZ (a,c)) fun c=>
 ak (ak (af (aa (a=a)) (U ())) (ak (af (aa (d=d)) (U ())) (U ()))) (ah (fZ (a,d)) fun a=>
 U ((b,c,a))))
def tb167:=az 167 (aB 167 ae [] pn Un xB [.tmp 4,.tmp 5,.tmp 6] 28 []) tb122
def Up:zTb tb167:=aC Um Uo aR func167 rfl call167
abbrev Uq:SPat:=⟨[(0,.sl cD),(1,.i .i64),(2,.i .i64)],[]⟩
def tA:List Cst×Int×Int->Option Bool:=fun(a,b,c)=>
 ah (mG (a,b)) fun(a,_,_,_)=>
 U (aa (a=c))
def tb168:=az 168 (aB 168 ae [] Uq lR tA [.tmp 6] 13 []) tb167
def Ur:zTb tb168:=aC Up aI aR func168 rfl call168
abbrev Us:SPat:=⟨[(5,.ptr 5 0),(9,.s)],[.box 5 (pl dM)]⟩
def Ut:Nat->Option SPat:=fun k=>bif k==1000013 then U Us else aj
def tB:List Cst×Int->Option Bool:=fun(a,b)=>
 af (aa (0<=b)) (aq a b.toNat fun c=>ai (aa (c.1=1))
 (ai (aa (c.2.2.1=0))
 (ai (aa (c.2.2.2=0))
 (ah (kZ c.2.1) fun a=>
 ai (a)
 (U ae)
 (ah (mD c.2.1) fun a=>
 ai (a)
 (U ae)
 (ah (pk c.2.1) fun a=>
 U a)))
 (U ag))
 (U ag))
 (ai (aa (c.1=2))
 (ai (aa (c.2.1=[]))
 (ai (aa (c.2.2.2=0))
 (ah (jc (a,wrap .i64 (b+1))) fun a=>
 U (!aa (a=[])))
 (U ag))
 (U ag))
 (ai (aa (c.1=3))
 (ah (fZ (a,c.2.2.2)) fun b=>
 ai (aa (c.2.1=[]))
 (ah (fZ (a,c.2.2.1)) fun a=>
 ah (kZ a) fun a=>
 ai (a)
 (ah (mD b) fun a=>
 ai (a)
 (U ae)
 (ah (pk b) fun a=>
 U a))
 (U ag))
 (U ag))
 (ah (xB (a,wrap .i64 (b+1))) fun(_,_,b)=>
 bindE (Y:=zBy×Cst) (ah (eY (c.1,4,6)) fun d=>
 ai (!d)
 (U (an ag))
 (ai (!aa (c.2.1=[]))
 (U (an ag))
 (ah (jc (a,c.2.2.1)) fun d=>
 ai (aa (d=[]))
 (U (an ag))
 (ah (tA (a,c.2.2.2,3)) fun a=>
 ai (!a)
 (U (an ag))
 (U (ao (b,c.1,c.2.1,c.2.2.1,c.2.2.2))))))) fun(a,b,_,_,_)=>
 ai (aa (b=4))
 (ah (mD a) fun a=>
 U a)
 (ah (pk a) fun a=>
 U a)))))
def tb119:=az 119 (aB 119 ae [] pn dp tB [.tmp 4] 120 []) tb168
def Uu:zTb tb119:=aC Ur aI Ut func119 rfl call119
abbrev xC:SPat:=⟨[(0,.sl cD)],[]⟩
abbrev I_:SPat:=⟨[(0,.sl cD),(3,.i .i64)],[]⟩
def Uv:Nat->Option SPat:=fun k=>bif k==2 then U I_ else bif k==1000004 then U I_ else bif k==2000000 then U xC else aj
def xD:List Cst->Option Int:=fun a=>
 bindE (Y:=List Cst) (aE (fun(a,b)=>
 bindE (Y:=List Cst×Int) (ai (aa (b<(a.length:Int)))
 (ai (aa (b<60))
 (U (ao (a,b)))
 (U (an (an (ao a)))))
 (U (an (an (ao a))))) fun(a,b)=>
 ah (tB (a,b)) fun c=>
 ai (!c)
 (U (an (an (wrap .i64 (b+1)))))
 (U (ao (a,wrap .i64 (b+1))))) ((a,(0:Int)))) fun a=>
 ai (aa (60<(a.length:Int)))
 (U ((61:Int)))
 (U ((0:Int)))
def tb51:=az 51 (aB 51 ae [] xC kr xD [.tmp 2] 23 []) tb119
def Uw:zTb tb51:=aC Uu aI Uv func51 rfl call51
abbrev Ux:SPat:=⟨[(1,.ptr 1 0),(3,.s),(4,.i .i64),(5,.i .i64)],iG⟩
def Uy:Nat->Option SPat:=fun k=>bif k==5 then U xr else bif k==10 then U Ux else bif k==1000004 then U mE else bif k==1000016 then U mE else bif k==2000000 then U mE else bif k==2000001 then U xr else bif k==2000002 then U xr else aj
def Uz:Nat->List Nat×a_:=fun id=>bif id==7 then(fK,(.br 7 dv [] [8] .fin .fin))else bif id==12 then([0,1,2,3,4,5,6,8,9,10,11,12,13,14],(.br 7 dv [8,9,10,11,12,13,14] [] (.br 15 s7 [] [16] .fin .fin) .fin))else([],.fin)
def xE:Cls->Option Bool:=fun(a,b,c,d,e,f,g)=>
 ah (jc (a,d)) fun h=>
 bindE (Y:=zBy×Cls) (ah (jc (a,c)) fun i=>
 ai (aa (i=[]))
 (U (an ag))
 (ai (aa (h=[]))
 (U (an ag))
 (ah (jc (a,c)) fun i=>
 ai (aa (h=i))
 (U (an ag))
 (ah (eY (b,0,7)) fun i=>
 ai (!i)
 (U (an ag))
 (U (ao (h,a,b,c,d,e,f,g))))))) fun(a,b,c,d,e,f,g,h)=>
 bindE (Y:=zBy×Cls) (aE (fun(a,b,c,d,e,f,g,h,i)=>
 ai (aa (b<(g.length:Int)))
 (bindE (Y:=zBy×Int×Cls) (af (aa (0<=b)) (aq g b.toNat fun j=>ah (jc (c,j)) fun j=>
 ai (aa (j=[]))
 (U (an (an (an ag))))
 (bindE (Y:=zBy×Int×Cls) (aE (fun(a,b,c,d,e,f,g,h,i,j)=>
 ai (aa (c<b))
 (af (aa (0<=c)) (aq h c.toNat fun k=>af (aa (0<=b)) (aq h b.toNat fun l=>ah (jc (d,k)) fun k=>
 ak (ak (af (aa (d=d)) (U ())) (ak (af (aa (h=h)) (U ())) (ak (af (aa (b=b)) (U ())) (ak (af (aa (0<=b)) (aq h b.toNat fun a=>af (aa (a=l)&&ae) (U ()))) (ak (af (aa (l=l)) (U ())) (U ())))))) (ah (jc (d,l)) fun l=>
 ai (aa (k=l))
 (U (an (an (an (an (an ag))))))
 (U (ao (a,b,wrap .i64 (c+1),d,e,f,g,h,i,j)))))))
 (U (an (ao (a,b,d,e,f,g,h,i,j))))) ((a,b,(0:Int),c,d,e,f,g,h,i))) fun(a,b,c,d,e,f,g,h,i)=>
 U (ao (a,b,c,d,e,f,g,h,i))))) fun(a,b,c,d,e,f,g,h,i)=>
 U (ao (a,wrap .i64 (b+1),c,d,e,f,g,h,i)))
 (U (an (ao (a,c,d,e,f,g,h,i))))) ((a,(0:Int),b,c,d,e,f,g,h))) fun(a,b,c,d,e,f,g,h)=>
 bindE (Y:=zBy×Cls) (ah (ib (c,2)) fun i=>
 ai (i)
 (ah (ib (c,4)) fun i=>
 ai (i)
 (U (an ag))
 (U (ao (a,b,c,d,e,f,g,h))))
 (U (ao (a,b,c,d,e,f,g,h)))) fun(a,_,b,_,_,_,_,_)=>
 ah (ib (b,1)) fun c=>
 ai (!c)
 (U ae)
 (ah (ib (b,4)) fun b=>
 ai (b)
 (U (aa (a=[(79:UInt8),98,106])))
 (U ag))
def tb52:=az 52 (aB 52 ae [] gQ e7 xE [.tmp 2] 95 []) tb51
def UA:zTb tb52:=aC Uw Uz Uy func52 rfl call52
abbrev po:SPat:=⟨[(1,.ptr 1 0),(3,.i .i64)],iG⟩
abbrev UB:SPat:=⟨[(1,.ptr 1 0),(3,.i .i64),(4,.ptr 4 0),(5,.i .i64)],[.box 1 (pl ch),.box 4 (pl fx)]⟩
abbrev Ja:SPat:=⟨[(1,.ptr 1 0),(3,.i .i64),(4,.ptr 4 0)],[.box 1 (pl ch),.box 4 (pl fx)]⟩
def UC:Nat->Option SPat:=fun k=>bif k==2 then U po else bif k==10 then U UB else bif k==1000007 then U Ja else bif k==1000009 then U Ja else bif k==2000000 then U dH else bif k==2000001 then U po else bif k==2000002 then U po else aj
def UD:Nat->List Nat×a_:=fun id=>bif id==12 then([0,1,2,3,4,5,6,7,9,10,11,12],(.br 8 i_ [9,10,11,12] [] (.br 13 jA [] [14] .fin .fin) .fin))else([],.fin)
def xF:Cls->Option Bool:=fun(a,b,c,d,e,f,g)=>
 bindE (aE (fun(a,b,c,d,e,f,g,h)=>
 ai (aa (a<(g.length:Int)))
 (bindE (Y:=Int×Cls) (af (aa (0<=a)) (aq g a.toNat fun i=>bindE (Y:=Int×Cls×Int×Int×Int) (ah (fZ (b,i.2.1)) fun j=>
 ah (kZ j) fun j=>
 ai (!j)
 (U (an (an (an (an ag)))))
 (ah (fZ (b,i.2.2)) fun j=>
 ah (mD j) fun j=>
 ai (!j)
 (U (an (an (an (an ag)))))
 (ah (eY (i.1,0,3)) fun j=>
 ai (!j)
 (U (an (an (an (an ag)))))
 (U (ao (a,(b,c,d,e,f,g,h),i.1,i.2.1,i.2.2)))))) fun(a,(b,c,d,e,f,g,h),i,j,k)=>
 bindE (Y:=Int×Cls×Int×Int×Int) (ah (ib (c,1)) fun l=>
 ai (l)
 (ai (!aa (i=1))
 (U (an (an (an (an ag)))))
 (U (ao (a,(b,c,d,e,f,g,h),i,j,k))))
 (U (ao (a,(b,c,d,e,f,g,h),i,j,k)))) fun(a,(b,c,d,e,f,g,h),i,j,k)=>
 bindE (Y:=Int×Cls) (aE (fun(a,b,(c,d,e,f,g,h,i),j,k,l)=>
 ai (aa (b<a))
 (af (aa (0<=b)) (aq h b.toNat fun m=>ah (fZ (c,m.2.1)) fun m=>
 ak (ak (af (aa (c=c)) (U ())) (ak (af (aa (k=k)) (U ())) (U ()))) (ah (fZ (c,k)) fun n=>
 ai (aa (m=n))
 (U (an (an (an (an (an ag))))))
 (U (ao (a,wrap .i64 (b+1),(c,d,e,f,g,h,i),j,k,l))))))
 (U (an (ao (a,c,d,e,f,g,h,i))))) ((a,(0:Int),(b,c,d,e,f,g,h),i,j,k))) fun(a,b,c,d,e,f,g,h)=>
 U (ao (a,b,c,d,e,f,g,h)))) fun(a,b,c,d,e,f,g,h)=>
 U (ao (wrap .i64 (a+1),b,c,d,e,f,g,h)))
 (U (an (ao ())))) (((0:Int),a,b,c,d,e,f,g))) fun _=>
 U (ae)
def tb53:=az 53 (aB 53 ae [] gQ e7 xF [.tmp 2] 68 []) tb52
def UE:zTb tb53:=aC UA UD UC func53 rfl call53
abbrev xG:SPat:=⟨[(0,.agg (pl ch)),(1,.agg (pl cy))],[]⟩
abbrev UF:SPat:=⟨[(2,.ptr 2 0),(3,.ptr 3 0)],pc⟩
def UG:Nat->Option SPat:=fun k=>bif k==1000005 then U UF else aj
def tC :  Cls×Mth->Option Bool:=fun((a,b,c,d,e,f,g),h,i,j,k,l,m,n,o)=>
 ah (eY (h,0,15)) fun p=>
 ai (!p)
 (U ag)
 (bindE (Y :=  Cls×Mth) (ah (fZ (a,i)) fun p=>
 ai (aa (p=[(98:UInt8),101,103,105,110]))
 (ai (!aa (h=1))
 (U (an ag))
 (ah (fZ (a,j)) fun p=>
 ai (!aa (p=[(40:UInt8),41,86]))
 (U (an ag))
 (U (ao ((a,b,c,d,e,f,g),h,i,j,k,l,m,n,o)))))
 (U (ao ((a,b,c,d,e,f,g),h,i,j,k,l,m,n,o)))) fun((_,a,_,_,_,_,_),b,_,_,_,_,_,_,_)=>
 ah (ib (b,8)) fun c=>
 ai (c)
 (ai (aa (b=8))
 (ah (ib (a,4)) fun a=>
 U a)
 (U ag))
 (ah (ib (a,1)) fun a=>
 ai (!a)
 (U ae)
 (U (aa (b=1)))))
def tb125:=az 125 (aB 125 ae [] xG dp tC [.tmp 4] 48 []) tb53
def UH:zTb tb125:=aC UE aI UG func125 rfl call125
abbrev Jb:SPat:=⟨[(1,.ptr 1 0),(3,.i .i64),(4,.ptr 4 0),(5,.i .i64)],[.box 1 (pl ch),.box 4 (pl cy)]⟩
abbrev UI:SPat:=⟨[(1,.ptr 1 0),(3,.i .i64),(4,.ptr 4 0)],[.box 1 (pl ch),.box 4 (pl cy)]⟩
def UJ:Nat->Option SPat:=fun k=>bif k==2 then U po else bif k==8 then U Jb else bif k==1000007 then U UI else bif k==2000000 then U dH else bif k==2000001 then U po else bif k==2000002 then U po else bif k==2000003 then U Jb else aj
def UK:Nat->List Nat×a_:=fun id=>bif id==10 then([0,1,2,3,4,5,6,7,9,10,11,12],(.br 8 i_ [9,10,11,12] [] (.br 13 jA [] [14,15,16,17,18,19,20,21,22,23,25,26,27,28] (.br 24 Iw [25,26,27,28] [] (.br 29 [28,27,26,25,24,23,22,21,20,19,18,17,16,15,14,13,12,11,10,9,8,7,6,5,4,3,2,1,0] [] [30,31] .fin .fin) .fin) .fin) .fin))else([],.fin)
def xH:Cls->Option Bool:=fun(a,b,c,d,e,f,g)=>
 bindE (aE (fun(a,b,c,d,e,f,g,h)=>
 ai (aa (a<(h.length:Int)))
 (bindE (Y:=Int×Cls) (af (aa (0<=a)) (aq h a.toNat fun i=>bindE (Y:=Int×Cls×Mth) (ah (fZ (b,i.2.1)) fun j=>
 ah (kZ j) fun j=>
 ai (!j)
 (U (an (an (an (an ag)))))
 (ah (fZ (b,i.2.2.1)) fun j=>
 ah (pk j) fun j=>
 ai (!j)
 (U (an (an (an (an ag)))))
 (ah (tC ((b,c,d,e,f,g,h),i.1,i.2.1,i.2.2.1,i.2.2.2.1,i.2.2.2.2.1,i.2.2.2.2.2.1,i.2.2.2.2.2.2.1,i.2.2.2.2.2.2.2)) fun j=>
 ai (!j)
 (U (an (an (an (an ag)))))
 (U (ao (a,(b,c,d,e,f,g,h),i.1,i.2.1,i.2.2.1,i.2.2.2.1,i.2.2.2.2.1,i.2.2.2.2.2.1,i.2.2.2.2.2.2.1,i.2.2.2.2.2.2.2)))))) fun(a,(b,c,d,e,f,g,h),i,j,k,l,m,n,o,p)=>
 bindE (Y:=Int×Cls) (aE (fun(a,b,(c,d,e,f,g,h,i),j,k,l,m,n,o,p,q)=>
 ai (aa (b<a))
 (bindE (Y:=Int×Int×Cls×Mth) (af (aa (0<=b)) (aq i b.toNat fun r=>ah (fZ (c,r.2.1)) fun r=>
 ak (ak (af (aa (c=c)) (U ())) (ak (af (aa (k=k)) (U ())) (U ()))) (ah (fZ (c,k)) fun s=>
 ai (aa (r=s))
 (af (aa (0<=b)) (aq i b.toNat fun r=>ah (fZ (c,r.2.2.1)) fun r=>
 ak (ak (af (aa (c=c)) (U ())) (ak (af (aa (l=l)) (U ())) (U ()))) (ah (fZ (c,l)) fun s=>
 ai (aa (r=s))
 (U (an (an (an (an (an (an ag)))))))
 (U (ao (a,b,(c,d,e,f,g,h,i),j,k,l,m,n,o,p,q))))))
 (U (ao (a,b,(c,d,e,f,g,h,i),j,k,l,m,n,o,p,q)))))) fun(a,b,(c,d,e,f,g,h,i),j,k,l,m,n,o,p,q)=>
 U (ao (a,wrap .i64 (b+1),(c,d,e,f,g,h,i),j,k,l,m,n,o,p,q)))
 (U (an (ao (a,c,d,e,f,g,h,i))))) ((a,(0:Int),(b,c,d,e,f,g,h),i,j,k,l,m,n,o,p))) fun(a,b,c,d,e,f,g,h)=>
 U (ao (a,b,c,d,e,f,g,h)))) fun(a,b,c,d,e,f,g,h)=>
 U (ao (wrap .i64 (a+1),b,c,d,e,f,g,h)))
 (U (an (ao ())))) (((0:Int),a,b,c,d,e,f,g))) fun _=>
 U (ae)
def tb54:=az 54 (aB 54 ae [] gQ e7 xH [.tmp 2] 77 []) tb125
def UL:zTb tb54:=aC UH UK UJ func54 rfl call54
abbrev UM:SPat:=⟨[(1,.i .i64),(5,.i .i64)],[]⟩
def UN:Nat->Option SPat:=fun k=>bif k==1000006 then U UM else aj
def tD:zBy×Int->Option Int:=fun(a,b)=>
 ai (aa ((a.length:Int)=0))
 (U ((0:Int)))
 (aq a 0 fun c=>bindE (ai (aa ((a.length:Int)=2))
 (aq a 1 fun a=>U (ao (b,wrap .i64 (wrap .i64 (wrap .i64 (c.toNat:Int)*256)+wrap .i64 (a.toNat:Int)))))
 (U (ao (b,wrap .i64 (c.toNat:Int))))) fun(a,b)=>
 ai (aa (a=1))
 (ai (aa (32768<=b))
 (U (wrap .i64 (b-65536)))
 (U b))
 (U b))
def tb173:=az 173 (aB 173 ae [] xi mC tD [.tmp 4] 30 []) tb54
def UO:zTb tb173:=aC UL aI UN func173 rfl call173
abbrev Jc:SPat:=⟨[(2,.own bA ae),(3,.b)],[]⟩
abbrev CO:SPat:=⟨[(0,.s),(4,.own bA ae),(5,.i .i64)],[]⟩
abbrev UP:SPat:=⟨[(0,.s),(4,.own bA ae),(5,.i .i64),(6,.i .i64),(7,.i .i64)],[]⟩
abbrev Jd:SPat:=⟨[(4,.own bA ae)],[]⟩
def UQ:Nat->Option SPat:=fun k=>bif k==3 then U CO else bif k==1000008 then U UP else bif k==2000000 then U Jd else aj
def tE:zBy->Option (List Fld×Bool):=fun a=>
 bindE (Y:=List Fld) (aE (fun(a,b,c)=>
 ai (aa (c<(a.length:Int)))
 (af (aa (0<=c)) (aq a c.toNat fun d=>ah (kY (wrap .i64 (d.toNat:Int))) fun e=>
 bindE (Y:=zBy×List Fld×Int×Int×Int) (ai (aa (e<0))
 (U (an (an (an ([],ag)))))
 (ai (aa ((a.length:Int)<wrap .i64 (wrap .i64 (c+1)+e)))
 (U (an (an (an ([],ag)))))
 (U (ao (a,b,c,wrap .i64 (d.toNat:Int),e))))) fun(a,b,c,d,e)=>
 af (aa (0<=wrap .i64 (c+1))&&aa (wrap .i64 (c+1)<=wrap .i64 (wrap .i64 (c+1)+e))&&aa (wrap .i64 (wrap .i64 (c+1)+e)<=(a.length:Int))) (ah (tD (cU (aw (wrap .i64 (c+1))) (de (aw (wrap .i64 (wrap .i64 (c+1)+e))) a),d)) fun f=>
 af (aa (b.length+1<=9223372036854775807)&&aa ((b.length+1)*24<=140737488355328)) (U (ao (a,b++[(c,d,f)],wrap .i64 (wrap .i64 (c+1)+e)))))))
 (U (an (ao b)))) ((a,[],(0:Int)))) fun a=>
 U ((a,aa (0<(a.length:Int))))
def tb126:=az 126 (aB 126 ae [] fy Jc tE [.tmp 2,.tmp 3] 54 []) tb173
def UR:zTb tb126:=aC UO aI UQ func126 rfl call126
def xI :  Cls×Mth->Option Int:=fun((a,_,_,_,_,_,_),b,_,c,_,_,_,_,_)=>
 ah (fZ (a,c)) fun a=>
 ah (tz a) fun(a,_,_)=>
 ah (ib (b,1)) fun b=>
 ai (b)
 (U ((a.length:Int)))
 (U (wrap .i64 ((a.length:Int)+1)))
def tb127:=az 127 (aB 127 ae [] xG mC xI [.tmp 4] 26 []) tb126
def US:zTb tb127:=aC UR aI aR func127 rfl call127
abbrev CP:SPat:=⟨[(0,.sl bA),(1,.i .i64)],[]⟩
abbrev UT:SPat:=⟨[(0,.sl bA),(1,.i .i64),(5,.i .i64)],[]⟩
def UU:Nat->Option SPat:=fun k=>bif k==2 then U UT else bif k==2000000 then U dH else aj
def lS:List Fld×Int->Option Int:=fun(a,b)=>
 bindE (aE (fun(a,b,c)=>
 ai (aa (c<(a.length:Int)))
 (af (aa (0<=c)) (aq a c.toNat fun d=>ai (aa (d.1=b))
 (U (an (an c)))
 (U (ao (a,b,wrap .i64 (c+1))))))
 (U (an (ao ())))) ((a,b,(0:Int)))) fun _=>
 U ((-1:Int))
def tb174:=az 174 (aB 174 ae [] CP mC lS [.tmp 4] 20 []) tb127
def UV:zTb tb174:=aC US aI UU func174 rfl call174
abbrev UW:SPat:=⟨[(0,.agg (pl ch)),(1,.agg (pl cy)),(2,.sl bA),(3,.agg (pl fx))],[]⟩
abbrev Je:SPat:=⟨[(8,.b)],[]⟩
def xJ :  Cls×Mth×List Fld×Int×Int×Int->Option Bool:=fun((a,_,_,_,_,_,_),(_,_,_,_,b,_,_,_),c,_,d,e)=>
 ah (eY (d,3,6)) fun f=>
 ai (f)
 (U (aa (e<b)))
 (ah (eY (d,14,18)) fun b=>
 ai (b)
 (ah (lS (c,e)) fun a=>
 U (aa (0<=a)))
 (ah (pf d) fun b=>
 ai (aa (b=0))
 (U ae)
 (ah (tA (a,e,b)) fun a=>
 U a)))
def tb128:=az 128 (aB 128 ae [] UW Je xJ [.tmp 8] 39 []) tb174
def UX:zTb tb128:=aC UV aI aR func128 rfl call128
abbrev UY:SPat:=⟨[(0,.agg (pl ch)),(1,.agg (pl cy)),(2,.sl bA),(3,.agg (pl Cu))],[]⟩
abbrev UZ:SPat:=⟨[(4,.ptr 4 0),(7,.ptr 7 0)],[.box 4 (pl ch),.box 7 (pl Cu)]⟩
def U0:Nat->Option SPat:=fun k=>bif k==1000003 then U UZ else aj
def xK :  Cls×Mth×List Fld×Int×Int×Int×Int->Option Bool:=fun((a,b,c,d,e,f,g),(_,_,_,_,_,h,_,_),i,j,k,l,m)=>
 bindE (Y :=  Cls×Int×Int×Int×Int) (ai (aa (k<=j))
 (U (an ag))
 (ah (lS (i,j)) fun n=>
 ai (aa (n<0))
 (U (an ag))
 (ai (!aa (k=(h.length:Int)))
 (ah (lS (i,k)) fun h=>
 ai (aa (h<0))
 (U (an ag))
 (ah (lS (i,l)) fun h=>
 ai (aa (h<0))
 (U (an ag))
 (U (ao ((a,b,c,d,e,f,g),j,k,l,m)))))
 (ah (lS (i,l)) fun h=>
 ai (aa (h<0))
 (U (an ag))
 (U (ao ((a,b,c,d,e,f,g),j,k,l,m))))))) fun((a,_,_,_,_,_,_),_,_,_,b)=>
 ai (aa (b=0))
 (U ae)
 (ah (jc (a,b)) fun a=>
 U (!aa (a=[])))
def tb129:=az 129 (aB 129 ae [] UY Je xK [.tmp 8] 54 []) tb128
def U1:zTb tb129:=aC UX aI U0 func129 rfl call129
abbrev Jf:SPat:=⟨[(0,.agg (pl ch)),(1,.sl c9)],[]⟩
abbrev Jg:SPat:=⟨[(1,.sl c9),(2,.ptr 2 0),(5,.i .i64)],[.box 2 (pl ch)]⟩
def U2:Nat->Option SPat:=fun k=>bif k==2 then U Jg else bif k==2000000 then U dH else bif k==2000001 then U Jg else aj
def U3:Nat->List Nat×a_:=fun id=>bif id==4 then([0,1,2,3,4],(.br 5 iE [] [6,7,8,9,10,11,12,13,14,15,16,17,18,19,20,21] (.br 22 wK [] [23,24,25,26,27,28,29,30,31,32,33,34,35,36,37,38,39,40,41] .fin .fin) .fin))else([],.fin)
def mH :  Cls×List Knd->Option Bool:=fun((a,b,c,d,e,f,g),h)=>
 bindE (aE (fun(a,b,c,d,e,f,g,h,i)=>
 ai (aa (b<(a.length:Int)))
 (bindE (Y:=List Knd×Int×Cls) (af (aa (0<=b)) (aq a b.toNat fun j=>ah (eY (j.1,0,3)) fun j=>
 ai (!j)
 (U (an (an (an ag))))
 (af (aa (0<=b)) (aq a b.toNat fun j=>ai (aa (j.1=3))
 (af (aa (0<=b)) (aq a b.toNat fun j=>ah (jc (c,j.2)) fun j=>
 ai (aa (j=[]))
 (U (an (an (an ag))))
 (af (aa (0<=b)) (aq a b.toNat fun j=>ai (!aa (j.1=3))
 (af (aa (0<=b)) (aq a b.toNat fun j=>ai (!aa (j.2=0))
 (U (an (an (an ag))))
 (U (ao (a,b,c,d,e,f,g,h,i)))))
 (U (ao (a,b,c,d,e,f,g,h,i)))))))
 (af (aa (0<=b)) (aq a b.toNat fun j=>ai (!aa (j.1=3))
 (af (aa (0<=b)) (aq a b.toNat fun j=>ai (!aa (j.2=0))
 (U (an (an (an ag))))
 (U (ao (a,b,c,d,e,f,g,h,i)))))
 (U (ao (a,b,c,d,e,f,g,h,i))))))))) fun(a,b,c,d,e,f,g,h,i)=>
 U (ao (a,wrap .i64 (b+1),c,d,e,f,g,h,i)))
 (U (an (ao ())))) ((h,(0:Int),a,b,c,d,e,f,g))) fun _=>
 U (ae)
def tb176:=az 176 (aB 176 ae [] Jf dp mH [.tmp 4] 54 []) tb129
def U4:zTb tb176:=aC U1 U3 U2 func176 rfl call176
abbrev U5:SPat:=⟨[(0,.agg (pl ch)),(1,.agg (pl cy)),(2,.sl bA)],[]⟩
abbrev Jh:SPat:=⟨[(2,.sl bA),(3,.ptr 3 0),(4,.ptr 4 0),(7,.i .i64)],[.box 3 (pl ch),.box 4 (pl cy)]⟩
def U6:Nat->Option SPat:=fun k=>bif k==2 then U Jh else bif k==2000000 then U dH else bif k==2000001 then U Jh else aj
def U7:Nat->List Nat×a_:=fun id=>bif id==5 then(hZ,(.br 3 gp [] [4,5,6,7,8,9,10,11,12,13,14,15,16,17,18,19,20,21,22,23,24,25,26,27,28,29,30,31,32,33,34,35,36,37,38,39,40] (.br 41 [40,39,38,37,36,35,34,33,32,31,30,29,28,27,26,25,24,23,22,21,20,19,18,17,16,15,14,13,12,11,10,9,8,7,6,5,4,3,2,1,0] [] [42,43,44,45,46,47] (.br 48 [47,46,45,44,43,42,41,40,39,38,37,36,35,34,33,32,31,30,29,28,27,26,25,24,23,22,21,20,19,18,17,16,15,14,13,12,11,10,9,8,7,6,5,4,3,2,1,0] [] [49,50] .fin .fin) .fin) .fin))else([],.fin)
def xL :  Cls×Mth×List Fld->Option Bool:=fun((a,b,c,d,e,f,g),(h,i,j,k,l,m,n,o),p)=>
 bindE (aE (fun(a,b,(c,d,e,f,g,h,i),j,k,l,m,n,o,p,q)=>
 ai (aa (b<(q.length:Int)))
 (bindE (Y:=List Fld×Int×Cls×Mth) (af (aa (0<=b)) (aq q b.toNat fun r=>ah (lS (a,r.1)) fun s=>
 ai (aa (s<0))
 (U (an (an (an ag))))
 (ai (aa (0<b))
 (af (aa (0<=wrap .i64 (b-1))) (aq q (aw (wrap .i64 (b-1))) fun s=>ai (aa (r.1<=s.1))
 (U (an (an (an ag))))
 (ai (!aa ((r.2.1.length:Int)=n))
 (U (an (an (an ag))))
 (ai (aa (m<(r.2.2.length:Int)))
 (U (an (an (an ag))))
 (ah (mH ((c,d,e,f,g,h,i),r.2.1)) fun s=>
 ai (!s)
 (U (an (an (an ag))))
 (ah (mH ((c,d,e,f,g,h,i),r.2.2)) fun r=>
 ai (!r)
 (U (an (an (an ag))))
 (U (ao (a,b,(c,d,e,f,g,h,i),j,k,l,m,n,o,p,q)))))))))
 (ai (!aa ((r.2.1.length:Int)=n))
 (U (an (an (an ag))))
 (ai (aa (m<(r.2.2.length:Int)))
 (U (an (an (an ag))))
 (ah (mH ((c,d,e,f,g,h,i),r.2.1)) fun s=>
 ai (!s)
 (U (an (an (an ag))))
 (ah (mH ((c,d,e,f,g,h,i),r.2.2)) fun r=>
 ai (!r)
 (U (an (an (an ag))))
 (U (ao (a,b,(c,d,e,f,g,h,i),j,k,l,m,n,o,p,q)))))))))) fun(a,b,(c,d,e,f,g,h,i),j,k,l,m,n,o,p,q)=>
 U (ao (a,wrap .i64 (b+1),(c,d,e,f,g,h,i),j,k,l,m,n,o,p,q)))
 (U (an (ao ())))) ((p,(0:Int),(a,b,c,d,e,f,g),h,i,j,k,l,m,n,o))) fun _=>
 U (ae)
def tb130:=az 130 (aB 130 ae [] U5 lR xL [.tmp 6] 72 []) tb176
def U8:zTb tb130:=aC U4 U7 U6 func130 rfl call130
abbrev U9:SPat:=⟨[(2,.ptr 2 0),(3,.ptr 3 0),(5,.own bA ae),(7,.i .i64)],pc⟩
abbrev U_:SPat:=⟨[(2,.ptr 2 0),(3,.ptr 3 0),(5,.own bA ae),(8,.i .i64)],pc⟩
abbrev qU:SPat:=⟨[(2,.ptr 2 0),(3,.ptr 3 0),(5,.own bA ae)],pc⟩
def Va:Nat->Option SPat:=fun k=>bif k==7 then U U9 else bif k==12 then U U_ else bif k==1000006 then U qU else bif k==2000000 then U qU else bif k==2000002 then U qU else aj
def Vb:Nat->List Nat×a_:=fun id=>bif id==4 then([0,1,2,3,4,5,6,7,8,9,10,11],(.br 12 [11,10,7,6,5,4,3,2,1,0] [8,9] [] (.br 13 jA [] [14,15] .fin .fin) .fin))else bif id==9 then(fK,(.br 7 dv [] [8] .fin .fin))else bif id==14 then([0,1,2,3,4,5,6,7],(.br 8 i_ [] [9] .fin .fin))else([],.fin)
def tF :  Cls×Mth->Option Bool:=fun((a,b,c,d,e,f,g),h,i,j,k,l,m,n,o)=>
 ah (ib (h,8)) fun p=>
 ai (p)
 (U ae)
 (ah (tE m) fun(p,q)=>
 bindE (Y:=List Fld×Cls×Mth) (ai (!q)
 (U (an ag))
 (ai (aa (8<k))
 (U (an ag))
 (ah (xI ((a,b,c,d,e,f,g),h,i,j,k,l,m,n,o)) fun q=>
 ak (ak (af (aa (l=l)) (U ())) (U ())) (ah (eY (l,q,8)) fun q=>
 ai (!q)
 (U (an ag))
 (U (ao (p,(a,b,c,d,e,f,g),h,i,j,k,l,m,n,o))))))) fun(a,(b,c,d,e,f,g,h),i,j,k,l,m,n,o,p)=>
 bindE (Y:=List Fld×Cls×Mth) (aE (fun(a,b,(c,d,e,f,g,h,i),j,k,l,m,n,o,p,q)=>
 ai (aa (b<(a.length:Int)))
 (af (aa (0<=b)&&aa (b<(a.length:Int))) (aq a b.toNat fun r=>ah (xJ ((c,d,e,f,g,h,i),(j,k,l,m,n,o,p,q),a,r.1,r.2.1,r.2.2)) fun r=>
 ai (!r)
 (U (an (an ag)))
 (U (ao (a,wrap .i64 (b+1),(c,d,e,f,g,h,i),j,k,l,m,n,o,p,q)))))
 (U (an (ao (a,(c,d,e,f,g,h,i),j,k,l,m,n,o,p,q))))) ((a,(0:Int),(b,c,d,e,f,g,h),i,j,k,l,m,n,o,p))) fun(a,(b,c,d,e,f,g,h),i,j,k,l,m,n,o,p)=>
 bindE (Y:=List Fld×Cls×Mth) (aE (fun(a,b,(c,d,e,f,g,h,i),j,k,l,m,n,o,p,q)=>
 ai (aa (b<(p.length:Int)))
 (af (aa (0<=b)) (aq p b.toNat fun r=>ah (xK ((c,d,e,f,g,h,i),(j,k,l,m,n,o,p,q),a,r.1,r.2.1,r.2.2.1,r.2.2.2)) fun r=>
 ai (!r)
 (U (an (an ag)))
 (U (ao (a,wrap .i64 (b+1),(c,d,e,f,g,h,i),j,k,l,m,n,o,p,q)))))
 (U (an (ao (a,(c,d,e,f,g,h,i),j,k,l,m,n,o,p,q))))) ((a,(0:Int),(b,c,d,e,f,g,h),i,j,k,l,m,n,o,p))) fun(a,(b,c,d,e,f,g,h),i,j,k,l,m,n,o,p)=>
 ah (xL ((b,c,d,e,f,g,h),(i,j,k,l,m,n,o,p),a)) fun a=>
 U a)
def tb55:=az 55 (aB 55 ae [] xG dp tF [.tmp 4] 70 []) tb130
def Vc:zTb tb55:=aC U8 Vb Va func55 rfl call55
def Vd:Nat->Option SPat:=fun k=>bif k==10 then U po else bif k==2000000 then U dH else aj
def Ve:Nat->List Nat×a_:=fun id=>bif id==12 then(fT,(.br 6 [5,4,3,2,1,0] [] [7] .fin .fin))else([],.fin)
def pq:Cls->Option Int:=fun(a,b,c,d,e,f,g)=>
 ah (xD a) fun h=>
 ai (!aa (h=0))
 (U ((2:Int)))
 (ah (xE (a,b,c,d,e,f,g)) fun h=>
 ai (!h)
 (U ((3:Int)))
 (ah (xF (a,b,c,d,e,f,g)) fun h=>
 ai (!h)
 (U ((4:Int)))
 (ah (xH (a,b,c,d,e,f,g)) fun h=>
 ai (!h)
 (U ((5:Int)))
 (bindE (aE (fun(a,b,c,d,e,f,g,h)=>
 ai (aa (a<(h.length:Int)))
 (af (aa (0<=a)) (aq h a.toNat fun i=>ah (tF ((b,c,d,e,f,g,h),i.1,i.2.1,i.2.2.1,i.2.2.2.1,i.2.2.2.2.1,i.2.2.2.2.2.1,i.2.2.2.2.2.2.1,i.2.2.2.2.2.2.2)) fun i=>
 ai (!i)
 (U (an (an (6:Int))))
 (U (ao (wrap .i64 (a+1),b,c,d,e,f,g,h)))))
 (U (an (ao ())))) (((0:Int),a,b,c,d,e,f,g))) fun _=>
 U ((0:Int))))))
def tb19:=az 19 (aB 19 ae [] gQ kr pq [.tmp 2] 32 []) tb55
def Vf:zTb tb19:=aC Vc Ve Vd func19 rfl call19
abbrev Ji:SPat:=⟨[(2,.ptr 2 0),(4,.ptr 25 0),(5,.own .str ae),(6,.i .i64)],[.box 2 (pl eW),.box 25 (pl jz)]⟩
abbrev Vg:SPat:=⟨[(0,.s),(2,.ptr 2 0)],[.box 2 (pl eW)]⟩
abbrev Jj:SPat:=⟨[(2,.ptr 2 0),(4,.ptr 25 0)],[.box 2 (pl eW),.box 25 (pl jz)]⟩
def Vh:Nat->Option SPat:=fun k=>bif k==6 then U Ji else bif k==1000003 then U Vg else bif k==1000008 then U Ji else bif k==1000011 then U Jj else bif k==2000000 then U Jj else aj
def xM:zBy->Option (Bool×Cls):=fun a=>
 bindE (Y:=zBy×Cls) (ai (aa (2500<(a.length:Int)))
 (U (an (ag,[],0,0,0,[],[],[])))
 (ai (aa ((a.length:Int)=0))
 (U (an (ag,[],0,0,0,[],[],[])))
 (af (aa (0<=wrap .i64 ((a.length:Int)-1))) (aq a (aw (wrap .i64 ((a.length:Int)-1))) fun b=>ai (!aa ((b.toNat:Int)=10))
 (U (an (ag,[],0,0,0,[],[],[])))
 (U (ao (a,[],0,0,0,[],[],[]))))))) fun(a,b,c,d,e,f,g,h)=>
 ah (nN (a,10,(a.length:Int))) fun a=>
 bindE (Y :=  Cls×List Cst×Int×Int×Int×List Int×List Fld×List Mth×Bool) (aE (fun(a,b,(c,d,e,f,g,h,i),j,k,l,m,n,o,p,q)=>
 bindE (Y:=List zBy×Int×Cls×List Cst×Int×Int×Int×List Int×List Fld×List Mth×Bool) (ai (aa (b<wrap .i64 ((a.length:Int)-1)))
 (ai (!q)
 (U (ao (a,b,(c,d,e,f,g,h,i),j,k,l,m,n,o,p,q)))
 (U (an (an (ao ((c,d,e,f,g,h,i),j,k,l,m,n,o,p,q))))))
 (U (an (an (ao ((c,d,e,f,g,h,i),j,k,l,m,n,o,p,q)))))) fun(a,b,(c,d,e,f,g,h,i),j,k,l,m,n,o,p,q)=>
 af (aa (0<=b)&&aa (b<(a.length:Int))) (aq a b.toNat fun r=>ah (xl (r,j,k,l,m,n,o,p,q)) fun(j,k,l,m,n,o,p,q)=>
 U (ao (a,wrap .i64 (b+1),(c,d,e,f,g,h,i),j,k,l,m,n,o,p,q)))) ((a,(0:Int),(b,c,d,e,f,g,h),[],(0:Int),(0:Int),(0:Int),[],[],[],ag))) fun((a,b,c,d,e,f,g),h,i,j,k,l,m,n,o)=>
 bindE (Y :=  Cls×List Cst×Int×Int×Int×List Int×List Fld×List Mth×Bool) (ai (o)
 (U (an (ag,[],0,0,0,[],[],[])))
 (ah (tw (h,i,j,k,l,m,n)) fun p=>
 ai (aa (p=[]))
 (U (an (ag,[],0,0,0,[],[],[])))
 (ah (pq (h,i,j,k,l,m,n)) fun p=>
 ai (!aa (p=0))
 (U (an (ag,[],0,0,0,[],[],[])))
 (U (ao ((a,b,c,d,e,f,g),h,i,j,k,l,m,n,o)))))) fun((_,_,_,_,_,_,_),a,b,c,d,e,f,g,_)=>
 U ((ae,a,b,c,d,e,f,g))
def tb163:=az 163 (aB 163 ae [] fy CK xM [.cell 2 36,.tmp 3] 75 []) tb19
def Vi:zTb tb163:=aC Vf aI Vh func163 rfl call163
def tG:zBy->Option zBy:=fun a=>
 ah (xM a) fun(a,b,c,d,e,f,g,h)=>
 ai (!a)
 (U ([(83:UInt8),84,79,87]))
 (ah (mF (b,c,d,e,f,g,h)) fun a=>
 U a)
def tb110:=az 110 (aB 110 ae [] fy fW tG [.tmp 2] 14 []) tb163
def Vj:zTb tb110:=aC Vi aI aR func110 rfl call110
abbrev Vk:SPat:=⟨[(0,.ptr 100000 0),(1,.sl .str),(2,.i .i64)],jW⟩
abbrev Vl:SPat:=⟨[(6,.ptr 6 0)],[.box 6 (pl pd),.box 100000 (pl kn)]⟩
abbrev Vm:SPat:=⟨[(0,.ptr 100000 0),(1,.sl .str),(6,.ptr 6 0),(7,.ptr 7 0),(8,.i .i64)],[.box 6 (pl pd),.box 7 (pl pd),.box 100000 (pl kn)]⟩
abbrev Vn:SPat:=⟨[(6,.ptr 6 0),(7,.ptr 7 0)],[.box 6 (pl pd),.box 7 (pl pd),.box 100000 (pl kn)]⟩
def Vo:Nat->Option SPat:=fun k=>bif k==3 then U Vm else bif k==2000000 then U Vn else aj
def Vp:Nat->List Nat×a_:=fun id=>bif id==5 then(lM,(.br 11 [10,9,8,7,6] fT [] (.br 12 [11,10,9,8,7,6] fT [13] (.br 14 [13,12,11,10,9,8,7,6,5,4,3,2] [0,1] [] (.br 15 s7 [] [16] (.br 17 jC [] [] .fin .fin) .fin) .fin) .fin) .fin))else([],.fin)
def iH:List zBy×Int×zBy×Int->Option ((zLdr)×zBy×Int):=fun(a,b,c,d)=>
 bindE (Y:=(zLdr)×(zLdr)×zBy×Int) (aE (fun(a,b,(c,d,e),(f,g,h),i,j)=>
 ai (aa (b<(a.length:Int)))
 (af (aa (0<=b)) (aq a b.toNat fun k=>af (aa (0<=b)) (aq a b.toNat fun l=>ah (wU (l,i,j)) fun(i,j,l)=>
 ak (ak (af (aa (a=a)) (U ())) (ak (af (aa (b=b)) (U ())) (ak (af (aa (0<=b)) (aq a b.toNat fun a=>af (aa (a=k)&&ae) (U ()))) (ak (af (aa (k=k)) (U ())) (U ()))))) (ah (tG i) fun i=>
 ak (ak (af (aa (a=a)) (U ())) (ak (af (aa (b=b)) (U ())) (ak (af (aa (0<=b)) (aq a b.toNat fun a=>af (aa (a=k)&&ae) (U ()))) (ak (af (aa (k=k)) (U ())) (U ()))))) (af (aa (f.length+1<=9223372036854775807)&&aa ((f.length+1)*32<=140737488355328)) (U (ao (a,wrap .i64 (b+1),(c,d,e),(f++[(k,i)],g,h),j,l))))))))
 (U (an (ao ((c,d,e),(f,g,h),i,j))))) ((a,(0:Int),([],[],(0:Int)),([],[],b),c,d))) fun((_,_,_),(a,b,c),d,e)=>
 U (((a,b,c),d,e))
def tb46:=az 46 (aB 46 ag [(0,[])] Vk Vl iH [.cell 6 30] 35 [100000]) tb110
def Vq:zTb tb46:=aC Vj Vp Vo func46 rfl call46
abbrev Vr:SPat:=⟨[(0,.ptr 100000 0),(1,.s)],kX⟩
abbrev ku:SPat:=⟨[],kX⟩
def Vs:Nat->List Nat×a_:=fun id=>bif id==1 then([0,1,2,3,4,5,7],(.br 6 [] [0,1,2,3,4,5,7] [] (.br 8 [7,6] fT [9,10] (.br 11 [10,9,8,7,6] fT [] (.br 12 [11,10,9,8,7,6] fT [13,14,15] (.br 16 s6 [] [] .fin .fin) .fin) .fin) .fin) .fin))else([],.fin)
def bM:zBy×(zBy×zBy×zBy×Int×zBy)×zBy×Int->Option ((zBy×zBy×zBy×Int×zBy)×zBy×Int):=fun(a,(b,c,d,e,f),g,h)=>
 af (aa (b.length+2<=9223372036854775807)) (af (aa (au (b++[(32:UInt8),32])+a.length<=9223372036854775807)) (af (aa (au (b++[(32:UInt8),32]++a)+1<=9223372036854775807)) (ah (th ()) fun i=>
 ak (ak (af (aa (e=e)) (U ())) (ak (af (aa (wrap .i64 (e+1)=wrap .i64 (e+1))) (U ())) (ak (af (aa (a=a)) (U ())) (U ())))) (ah (nN (a,32,1)) fun j=>
 ak (ak (af (aa (e=e)) (U ())) (ak (af (aa (wrap .i64 (e+1)=wrap .i64 (e+1))) (U ())) (U ()))) (aq j 0 fun j=>ah (qQ (i,j)) fun i=>
 ak (ak (af (aa (e=e)) (U ())) (ak (af (aa (wrap .i64 (e+1)=wrap .i64 (e+1))) (U ())) (U ()))) (ah (kY i) fun i=>
 ak (ak (af (aa (e=e)) (U ())) (ak (af (aa (wrap .i64 (e+1)=wrap .i64 (e+1))) (U ())) (U ()))) (U (((b++[(32:UInt8),32]++a++[(10:UInt8)],c,d,wrap .i64 (wrap .i64 (e+1)+i),f),g,h)))))))))
def tb185:=az 185 (aB 185 ag [(0,[]),(0,[0])] Vr ku bM [] 31 [100000,100001]) tb46
def Vt:zTb tb185:=aC Vq Vs aR func185 rfl call185
abbrev pt:SPat:=⟨[(0,.ptr 100000 0)],kX⟩
abbrev Jk:SPat:=⟨[(2,.s)],kX⟩
def gv:(zBy×zBy×zBy×Int×zBy)×zBy×Int->Option (zBy×(zBy×zBy×zBy×Int×zBy)×zBy×Int):=fun((a,b,c,d,e),f,g)=>
 ah (dn (3,f,g)) fun(f,g,h)=>
 ah (jX f) fun f=>
 U ((f,(a,b,c,d,e),g,h))
def tb189:=az 189 (aB 189 ag [(0,[]),(0,[0])] pt Jk gv [.tmp 2] 9 [100000,100001]) tb185
def Vu:zTb tb189:=aC Vt aI aR func189 rfl call189
abbrev Vv:SPat:=⟨[(0,.ptr 100000 0),(1,.sl (.int .i64))],jW⟩
def jY:List Int×zBy×Int->Option (Int×zBy×Int):=fun(a,b,c)=>
 ah (dn ((a.length:Int),b,c)) fun(b,c,d)=>
 af (aa (0<=b)) (aq a b.toNat fun a=>U ((a,c,d)))
def tb44:=az 44 (aB 44 ag [(0,[])] Vv IL jY [.tmp 4] 12 [100000]) tb189
def Vw:zTb tb44:=aC Vu aI aR func44 rfl call44
def Vx:Nat->Option SPat:=fun k=>bif k==2000000 then U ku else aj
def pv:(zBy×zBy×zBy×Int×zBy)×zBy×Int->Option ((zBy×zBy×zBy×Int×zBy)×zBy×Int):=fun((a,b,c,d,e),f,g)=>let h:=[(114:UInt8),101,102,108,111,97,100,32];let i:=[(112:UInt8),117,115,104,32];ah (dn (6,f,g)) fun(f,g,j)=>
 bindE (Y:=(zBy×zBy×zBy×Int×zBy)×zBy×Int) (ai (aa (f=0))
 (ah (gv ((a,b,c,d,e),g,j)) fun(a,(b,c,d,e,f),g,i)=>
 af (aa ((8:Nat)+a.length<=9223372036854775807)) (ah (bM (h++a,(b,c,d,e,f),g,i)) fun((a,b,c,d,e),f,g)=>
 ah (bM ([(103:UInt8),101,116,32,65,32,120,32,73],(a,b,c,d,e),f,g)) fun((a,b,c,d,e),f,g)=>
 U (ao ((a,b,c,d,e),f,g))))
 (ai (aa (f=1))
 (ah (gv ((a,b,c,d,e),g,j)) fun(a,(b,c,d,e,f),g,i)=>
 af (aa ((8:Nat)+a.length<=9223372036854775807)) (ah (bM (h++a,(b,c,d,e,f),g,i)) fun((a,b,c,d,e),f,g)=>
 ah (bM ([(118:UInt8),105,114,116,117,97,108,32,65,32,103,101,116,32,40,41,73],(a,b,c,d,e),f,g)) fun((a,b,c,d,e),f,g)=>
 U (ao ((a,b,c,d,e),f,g))))
 (ai (aa (f=2))
 (ah (bM ([(103:UInt8),101,116,97,108,108,32,65,32,115,32,73],(a,b,c,d,e),g,j)) fun((a,b,c,d,e),f,g)=>
 U (ao ((a,b,c,d,e),f,g)))
 (ai (aa (f=3))
 (ah (jY ([(0:Int),1,2,7,32767,(-32768:Int),(-1:Int)],g,j)) fun(f,g,h)=>
 ah (jX f) fun f=>
 af (aa ((5:Nat)+f.length<=9223372036854775807)) (ah (bM (i++f,(a,b,c,d,e),g,h)) fun((a,b,c,d,e),f,g)=>
 ah (jY ([(0:Int),1,3,(-2:Int)],f,g)) fun(f,g,h)=>
 ah (jX f) fun f=>
 af (aa ((5:Nat)+f.length<=9223372036854775807)) (ah (bM (i++f,(a,b,c,d,e),g,h)) fun((a,b,c,d,e),f,g)=>
 ah (df ([[(97:UInt8),100,100],[(115:UInt8),117,98],[(109:UInt8),117,108],[(100:UInt8),105,118]],f,g)) fun(f,g,h)=>
 ah (bM (f,(a,b,c,d,e),g,h)) fun((a,b,c,d,e),f,g)=>
 U (ao ((a,b,c,d,e),f,g)))))
 (ah (jY ([(0:Int),1,2,5,(-1:Int),(100:Int)],g,j)) fun(f,g,h)=>
 ah (jX f) fun f=>
 af (aa ((5:Nat)+f.length<=9223372036854775807)) (ah (bM (i++f,(a,b,c,d,e),g,h)) fun((a,b,c,d,e),f,g)=>
 U (ao ((a,b,c,d,e),f,g)))))))) fun((a,b,c,d,e),f,g)=>
 U (((a,b,c,d,e),f,g))
def tb201:=az 201 (aB 201 ag [(0,[]),(0,[0])] pt ku pv [] 59 [100000,100001]) tb44
def Vy:zTb tb201:=aC Vw aI Vx func201 rfl call201
abbrev Vz:SPat:=⟨[(0,.ptr 100000 0),(2,.ptr 100001 0),(8,.i .i64),(15,.b)],kX⟩
def VA:Nat->Option SPat:=fun k=>bif k==1000007 then U Vz else bif k==2000000 then U ku else aj
def tH:(zBy×zBy×zBy×Int×zBy)×zBy×Int->Option ((zBy×zBy×zBy×Int×zBy)×zBy×Int):=fun((a,b,c,d,e),f,g)=>let h:=[(114:UInt8),101,102,108,111,97,100,32];ah (dn (10,f,g)) fun(f,g,i)=>
 bindE (Y:=(zBy×zBy×zBy×Int×zBy)×zBy×Int) (ai (aa (f=0))
 (ah (bM ([(110:UInt8),117,108,108],(a,b,c,d,e),g,i)) fun((a,b,c,d,e),f,g)=>
 U (ao ((a,b,c,d,e),f,g)))
 (bindE (Y:=Int×Bool×(zBy×zBy×zBy×Int×zBy)×zBy×Int) (ai (aa (f=1))
 (U (ao (f,ae,(a,b,c,d,e),g,i)))
 (U (ao (f,aa (f=2),(a,b,c,d,e),g,i)))) fun(a,b,(c,d,e,f,g),i,j)=>
 ai (b)
 (ah (bM ([(110:UInt8),101,119,32,66],(c,d,e,f,g),i,j)) fun((a,b,c,d,e),f,g)=>
 U (ao ((a,b,c,d,e),f,g)))
 (ai (aa (a=3))
 (ah (bM ([(115:UInt8),116,97,116,105,99,32,65,32,109,107,32,40,41,76,65,59],(c,d,e,f,g),i,j)) fun((a,b,c,d,e),f,g)=>
 U (ao ((a,b,c,d,e),f,g)))
 (ai (aa (a=4))
 (ah (gv ((c,d,e,f,g),i,j)) fun(a,(b,c,d,e,f),g,i)=>
 af (aa ((8:Nat)+a.length<=9223372036854775807)) (ah (bM (h++a,(b,c,d,e,f),g,i)) fun((a,b,c,d,e),f,g)=>
 ah (df ([[(66:UInt8)],[(65:UInt8)],[(67:UInt8)],[(70:UInt8)]],f,g)) fun(f,g,h)=>
 af (aa ((5:Nat)+f.length<=9223372036854775807)) (ah (bM ([(99:UInt8),97,115,116,32]++f,(a,b,c,d,e),g,h)) fun((a,b,c,d,e),f,g)=>
 U (ao ((a,b,c,d,e),f,g)))))
 (ai (aa (a=5))
 (ah (gv ((c,d,e,f,g),i,j)) fun(a,(b,c,d,e,f),g,i)=>
 af (aa ((8:Nat)+a.length<=9223372036854775807)) (ah (bM (h++a,(b,c,d,e,f),g,i)) fun((a,b,c,d,e),f,g)=>
 ah (bM ([(118:UInt8),105,114,116,117,97,108,32,65,32,110,101,120,116,32,40,41,76,65,59],(a,b,c,d,e),f,g)) fun((a,b,c,d,e),f,g)=>
 U (ao ((a,b,c,d,e),f,g))))
 (ai (aa (a=6))
 (ah (df ([[(67:UInt8)],[(65:UInt8)],[(79:UInt8),98,106],[(70:UInt8)]],i,j)) fun(a,b,h)=>
 af (aa ((4:Nat)+a.length<=9223372036854775807)) (ah (bM ([(110:UInt8),101,119,32]++a,(c,d,e,f,g),b,h)) fun((a,b,c,d,e),f,g)=>
 U (ao ((a,b,c,d,e),f,g))))
 (ah (bM ([(110:UInt8),101,119,32,65],(c,d,e,f,g),i,j)) fun((a,b,c,d,e),f,g)=>
 U (ao ((a,b,c,d,e),f,g))))))))) fun((a,b,c,d,e),f,g)=>
 U (((a,b,c,d,e),f,g))
def tb202:=az 202 (aB 202 ag [(0,[]),(0,[0])] pt ku tH [] 54 [100000,100001]) tb201
def VB:zTb tb202:=aC Vy aI VA func202 rfl call202
def VC:Nat->List Nat×a_:=fun id=>bif id==1 then(wL,(.br 16 s6 [] [] .fin .fin))else([],.fin)
def qV:(zBy×zBy×zBy×Int×zBy)×zBy×Int->Option (zBy×(zBy×zBy×zBy×Int×zBy)×zBy×Int):=fun((a,b,c,d,e),f,g)=>let h:=[(44:UInt8)];af (aa (e.length+1<=9223372036854775807)) (af (aa (au (e++h)+e.length<=9223372036854775807)) (af (aa (au (e++h++e)+1<=9223372036854775807)) (af (aa (au (e++h++e++h)+e.length<=9223372036854775807)) (U ((e++h++e++h++e,(a,b,c,d,e),f,g))))))
def tb206:=az 206 (aB 206 ag [(0,[]),(0,[0])] pt Jk qV [.tmp 2] 19 [100000,100001]) tb202
def VD:zTb tb206:=aC VB VC aR func206 rfl call206
abbrev VE:SPat:=⟨[(0,.ptr 100000 0),(1,.s),(2,.s)],kX⟩
def VF:Nat->List Nat×a_:=fun id=>bif id==0 then([0,1,2,3,4,5,6,7,8,9,13,16],(.br 10 [9,8,7,6] [0,1,2,3,4,5,13,16] [11,12,14,15,17,18,19,20] (.br 21 Iz [] [] .fin .fin) .fin))else([],.fin)
def qW:zBy×zBy×(zBy×zBy×zBy×Int×zBy)×zBy×Int->Option ((zBy×zBy×zBy×Int×zBy)×zBy×Int):=fun(a,b,(c,d,e,f,g),h,i)=>let j:=[(102:UInt8),114,97,109,101,32];let k:=[(32:UInt8)];af (aa (e.length+6<=9223372036854775807)) (ah (jX f) fun l=>
 ak (ak (af (aa (e=e)) (U ())) (ak (af (aa (e.length+6<=9223372036854775807)) (af (aa (e++j=e++j)) (U ()))) (ak (af (aa (a=a)) (U ())) (ak (af (aa (b=b)) (U ())) (U ()))))) (af (aa (au (e++j)+l.length<=9223372036854775807)) (af (aa (au (e++j++l)+1<=9223372036854775807)) (af (aa (au (e++j++l++k)+a.length<=9223372036854775807)) (af (aa (au (e++j++l++k++a)+1<=9223372036854775807)) (af (aa (au (e++j++l++k++a++k)+b.length<=9223372036854775807)) (af (aa (au (e++j++l++k++a++k++b)+1<=9223372036854775807)) (U (((c,d,e++j++l++k++a++k++b++[(10:UInt8)],f,g),h,i))))))))))
def tb205:=az 205 (aB 205 ag [(0,[]),(0,[0])] VE ku qW [] 27 [100000,100001]) tb206
def VG:zTb tb205:=aC VD VF aR func205 rfl call205
abbrev VH:SPat:=⟨[(0,.ptr 100000 0),(2,.ptr 100001 0),(3,.s)],kX⟩
def VI:Nat->Option SPat:=fun k=>bif k==2000000 then U VH else aj
def xN:(zBy×zBy×zBy×Int×zBy)×zBy×Int->Option ((zBy×zBy×zBy×Int×zBy)×zBy×Int):=fun((a,b,c,d,e),f,g)=>let h:=[(114:UInt8),101,102,108,111,97,100,32];let i:=[(105:UInt8),102,110,117,108,108];let j:=[(105:UInt8),102,115,97,109,101];let k:=[(46:UInt8)];ah (df ([[(105:UInt8),102,122,101,114,111],[(105:UInt8),102,110,101,103],i,j],f,g)) fun(f,g,l)=>
 bindE (Y:=zBy×(zBy×zBy×zBy×Int×zBy)×zBy×Int) (ai (aa (f=i))
 (ah (gv ((a,b,c,d,e),g,l)) fun(a,(b,c,d,e,g),i,j)=>
 af (aa ((8:Nat)+a.length<=9223372036854775807)) (ah (bM (h++a,(b,c,d,e,g),i,j)) fun((a,b,c,d,e),g,h)=>
 U (ao (f,(a,b,c,d,e),g,h))))
 (ai (aa (f=j))
 (ah (gv ((a,b,c,d,e),g,l)) fun(a,(b,c,d,e,g),i,j)=>
 af (aa ((8:Nat)+a.length<=9223372036854775807)) (ah (bM (h++a,(b,c,d,e,g),i,j)) fun((a,b,c,d,e),g,i)=>
 ah (gv ((a,b,c,d,e),g,i)) fun(a,(b,c,d,e,g),i,j)=>
 af (aa ((8:Nat)+a.length<=9223372036854775807)) (ah (bM (h++a,(b,c,d,e,g),i,j)) fun((a,b,c,d,e),g,h)=>
 U (ao (f,(a,b,c,d,e),g,h)))))
 (ah (pv ((a,b,c,d,e),g,l)) fun((a,b,c,d,e),g,h)=>
 U (ao (f,(a,b,c,d,e),g,h))))) fun(a,(b,c,d,e,f),g,h)=>
 af (aa (a.length+1<=9223372036854775807)) (ah (jX (wrap .i64 (wrap .i64 (e+3)+4))) fun i=>
 af (aa (au (a++[(32:UInt8)])+i.length<=9223372036854775807)) (ah (bM (a++[(32:UInt8)]++i,(b,c,d,e,f),g,h)) fun((a,b,c,d,e),f,g)=>
 ah (bM ([(112:UInt8),117,115,104,32,53,48],(a,b,c,d,e),f,g)) fun((a,b,c,d,e),f,g)=>
 ah (bM ([(112:UInt8),114,105,110,116],(a,b,c,d,e),f,g)) fun((a,b,c,d,e),f,g)=>
 ah (qV ((a,b,c,d,e),f,g)) fun(a,(b,c,d,e,f),g,h)=>
 ah (df ([k,k,k,k,k,k,k,[(73:UInt8)]],g,h)) fun(g,h,i)=>
 ah (qW (a,g,(b,c,d,e,f),h,i)) fun((a,b,c,d,e),f,g)=>
 U (((a,b,c,d,e),f,g))))
def tb203:=az 203 (aB 203 ag [(0,[]),(0,[0])] pt ku xN [] 58 [100000,100001]) tb205
def VJ:zTb tb203:=aC VG aI VI func203 rfl call203
def VK:Nat->Option SPat:=fun k=>bif k==2000000 then U ku else aj
def xO:(zBy×zBy×zBy×Int×zBy)×zBy×Int->Option ((zBy×zBy×zBy×Int×zBy)×zBy×Int):=fun((a,b,c,d,e),f,g)=>let h:=[(114:UInt8),101,102,108,111,97,100,32];let i:=[(112:UInt8),114,105,110,116];ah (dn (5,f,g)) fun(f,g,j)=>bindE (Y:=(zBy×zBy×zBy×Int×zBy)×zBy×Int) (ai (aa (f=0)) (ah (gv ((a,b,c,d,e),g,j)) fun(a,(b,c,d,e,f),g,j)=>af (aa ((8:Nat)+a.length<=9223372036854775807)) (ah (bM (h++a,(b,c,d,e,f),g,j)) fun((a,b,c,d,e),f,g)=>ah (bM ([(115:UInt8),116,97,116,105,99,32,85,32,101,97,116,32,40,76,65,59,41,73],(a,b,c,d,e),f,g)) fun((a,b,c,d,e),f,g)=>ah (bM (i,(a,b,c,d,e),f,g)) fun((a,b,c,d,e),f,g)=>U (ao ((a,b,c,d,e),f,g)))) (let k:=fun(a:Int) (b:zBy) (c:zBy) (d:zBy) (e:Int) (f:zBy) (g:zBy)=>ah (gv ((b,c,d,e,f),g,a)) fun(a,(b,c,d,e,f),g,h)=>af (aa ((9:Nat)+a.length<=9223372036854775807)) (ah (bM ([(114:UInt8),101,102,115,116,111,114,101,32]++a,(b,c,d,e,f),g,h)) fun((a,b,c,d,e),f,g)=>U (ao ((a,b,c,d,e),f,g)));ai (aa (f=1)) (ah (bM ([(115:UInt8),116,97,116,105,99,32,85,32,109,97,107,101,32,40,41,76,65,59],(a,b,c,d,e),g,j)) fun((a,b,c,d,e),f,g)=>k g a b c d e f) (ai (aa (f=2)) (ah (bM ([(103:UInt8),101,116,97,108,108,32,85,32,97,32,76,65,59],(a,b,c,d,e),g,j)) fun((a,b,c,d,e),f,g)=>k g a b c d e f) (ai (aa (f=3)) (ah (gv ((a,b,c,d,e),g,j)) fun(a,(b,c,d,e,f),g,i)=>af (aa ((8:Nat)+a.length<=9223372036854775807)) (ah (bM (h++a,(b,c,d,e,f),g,i)) fun((a,b,c,d,e),f,g)=>ah (bM ([(112:UInt8),117,116,97,108,108,32,85,32,97,32,76,65,59],(a,b,c,d,e),f,g)) fun((a,b,c,d,e),f,g)=>U (ao ((a,b,c,d,e),f,g)))) (ah (bM ([(110:UInt8),101,119,32,67],(a,b,c,d,e),g,j)) fun((a,b,c,d,e),f,g)=>ah (gv ((a,b,c,d,e),f,g)) fun(a,(b,c,d,e,f),g,j)=>af (aa ((8:Nat)+a.length<=9223372036854775807)) (ah (bM (h++a,(b,c,d,e,f),g,j)) fun((a,b,c,d,e),f,g)=>ah (bM ([(102:UInt8),97,99,101,32,70,32,116,97,107,101,32,40,76,65,59,41,73],(a,b,c,d,e),f,g)) fun((a,b,c,d,e),f,g)=>ah (bM (i,(a,b,c,d,e),f,g)) fun((a,b,c,d,e),f,g)=>U (ao ((a,b,c,d,e),f,g)))))))) fun((a,b,c,d,e),f,g)=>U (((a,b,c,d,e),f,g))
def tb204:=az 204 (aB 204 ag [(0,[]),(0,[0])] pt ku xO [] 58 [100000,100001]) tb203
def VL:zTb tb204:=aC VJ aI VK func204 rfl call204
abbrev VM:SPat:=⟨[(0,.ptr 100000 0),(2,.ptr 100001 0),(8,.i .i64),(11,.b)],kX⟩
abbrev VN:SPat:=⟨[(0,.ptr 100000 0),(2,.ptr 100001 0),(8,.i .i64),(18,.b)],kX⟩
def VO:Nat->Option SPat:=fun k=>bif k==1000005 then U VM else bif k==1000010 then U VN else bif k==2000000 then U ku else aj
def xP:(zBy×zBy×zBy×Int×zBy)×zBy×Int->Option ((zBy×zBy×zBy×Int×zBy)×zBy×Int):=fun((a,b,c,d,e),f,g)=>let h:=[(114:UInt8),101,102,108,111,97,100,32];let i:=[(112:UInt8),114,105,110,116];let j:=[(110:UInt8),111,112];let k:=[(67:UInt8)];ah (dn (14,f,g)) fun(f,g,l)=>
 bindE (Y:=(zBy×zBy×zBy×Int×zBy)×zBy×Int) (bindE (Y:=Int×Bool×(zBy×zBy×zBy×Int×zBy)×zBy×Int) (ai (aa (f=0))
 (U (ao (f,ae,(a,b,c,d,e),g,l)))
 (U (ao (f,aa (f=1),(a,b,c,d,e),g,l)))) fun(a,b,(c,d,e,f,g),l,m)=>
 ai (b)
 (ah (pv ((c,d,e,f,g),l,m)) fun((a,b,c,d,e),f,g)=>
 ah (bM (i,(a,b,c,d,e),f,g)) fun((a,b,c,d,e),f,g)=>
 U (ao ((a,b,c,d,e),f,g)))
 (bindE (Y:=Int×Bool×(zBy×zBy×zBy×Int×zBy)×zBy×Int) (ai (aa (a=2))
 (U (ao (a,ae,(c,d,e,f,g),l,m)))
 (ai (aa (a=3))
 (U (ao (a,ae,(c,d,e,f,g),l,m)))
 (U (ao (a,aa (a=4),(c,d,e,f,g),l,m))))) fun(a,b,(c,d,e,f,g),l,m)=>
 ai (b)
 (ah (tH ((c,d,e,f,g),l,m)) fun((a,b,c,d,e),f,g)=>
 ah (gv ((a,b,c,d,e),f,g)) fun(a,(b,c,d,e,f),g,h)=>
 af (aa ((9:Nat)+a.length<=9223372036854775807)) (ah (bM ([(114:UInt8),101,102,115,116,111,114,101,32]++a,(b,c,d,e,f),g,h)) fun((a,b,c,d,e),f,g)=>
 U (ao ((a,b,c,d,e),f,g))))
 (ai (aa (a=5))
 (ah (gv ((c,d,e,f,g),l,m)) fun(a,(b,c,d,e,f),g,i)=>
 af (aa ((8:Nat)+a.length<=9223372036854775807)) (ah (bM (h++a,(b,c,d,e,f),g,i)) fun((a,b,c,d,e),f,g)=>
 ah (pv ((a,b,c,d,e),f,g)) fun((a,b,c,d,e),f,g)=>
 ah (bM ([(112:UInt8),117,116,32,65,32,120,32,73],(a,b,c,d,e),f,g)) fun((a,b,c,d,e),f,g)=>
 U (ao ((a,b,c,d,e),f,g))))
 (ai (aa (a=6))
 (ah (xN ((c,d,e,f,g),l,m)) fun((a,b,c,d,e),f,g)=>
 U (ao ((a,b,c,d,e),f,g)))
 (ai (aa (a=7))
 (ah (pv ((c,d,e,f,g),l,m)) fun((a,b,c,d,e),f,g)=>
 ah (bM ([(112:UInt8),117,116,97,108,108,32,65,32,115,32,73],(a,b,c,d,e),f,g)) fun((a,b,c,d,e),f,g)=>
 U (ao ((a,b,c,d,e),f,g)))
 (ai (aa (a=8))
 (ah (df ([k,k,k,[(65:UInt8)]],l,m)) fun(a,b,h)=>
 af (aa ((4:Nat)+a.length<=9223372036854775807)) (ah (bM ([(110:UInt8),101,119,32]++a,(c,d,e,f,g),b,h)) fun((a,b,c,d,e),f,g)=>
 ah (bM ([(102:UInt8),97,99,101,32,70,32,103,101,116,32,40,41,73],(a,b,c,d,e),f,g)) fun((a,b,c,d,e),f,g)=>
 ah (bM (i,(a,b,c,d,e),f,g)) fun((a,b,c,d,e),f,g)=>
 U (ao ((a,b,c,d,e),f,g))))
 (ai (aa (a=9))
 (ah (gv ((c,d,e,f,g),l,m)) fun(a,(b,c,d,e,f),g,j)=>
 af (aa ((8:Nat)+a.length<=9223372036854775807)) (ah (bM (h++a,(b,c,d,e,f),g,j)) fun((a,b,c,d,e),f,g)=>
 ah (df ([[(66:UInt8)],[(65:UInt8)],[(70:UInt8)],k],f,g)) fun(f,g,h)=>
 af (aa ((3:Nat)+f.length<=9223372036854775807)) (ah (bM ([(105:UInt8),115,32]++f,(a,b,c,d,e),g,h)) fun((a,b,c,d,e),f,g)=>
 ah (bM (i,(a,b,c,d,e),f,g)) fun((a,b,c,d,e),f,g)=>
 U (ao ((a,b,c,d,e),f,g)))))
 (ai (aa (a=10))
 (ah (gv ((c,d,e,f,g),l,m)) fun(a,(b,c,d,e,f),g,i)=>
 af (aa ((8:Nat)+a.length<=9223372036854775807)) (ah (bM (h++a,(b,c,d,e,f),g,i)) fun((a,b,c,d,e),f,g)=>
 ah (tH ((a,b,c,d,e),f,g)) fun((a,b,c,d,e),f,g)=>
 ah (bM ([(112:UInt8),117,116,32,65,32,110,32,76,65,59],(a,b,c,d,e),f,g)) fun((a,b,c,d,e),f,g)=>
 U (ao ((a,b,c,d,e),f,g))))
 (ai (aa (a=11))
 (ah (df ([j,j,[(110:UInt8),117,108,108],[(97:UInt8),100,100],[(118:UInt8),105,114,116,117,97,108,32,65,32,104,105,100,32,40,41,86],[(115:UInt8),112,101,99,105,97,108,32,65,32,103,101,116,32,40,41,73],[(103:UInt8),101,116,97,108,108,32,65,32,120,32,73],[(108:UInt8),111,97,100,32,48],[(112:UInt8),117,115,104,32,49]],l,m)) fun(a,b,h)=>
 ah (bM (a,(c,d,e,f,g),b,h)) fun((a,b,c,d,e),f,g)=>
 ah (df ([j,[(112:UInt8),111,112],[(112:UInt8),111,112],[(100:UInt8),117,112],[(115:UInt8),119,97,112]],f,g)) fun(f,g,h)=>
 ah (bM (f,(a,b,c,d,e),g,h)) fun((a,b,c,d,e),f,g)=>
 U (ao ((a,b,c,d,e),f,g)))
 (ah (xO ((c,d,e,f,g),l,m)) fun((a,b,c,d,e),f,g)=>
 U (ao ((a,b,c,d,e),f,g)))))))))))) fun((a,b,c,d,e),f,g)=>
 U (((a,b,c,d,e),f,g))
def tb187:=az 187 (aB 187 ag [(0,[]),(0,[0])] pt ku xP [] 100 [100000,100001]) tb204
def VP:zTb tb187:=aC VL aI VO func187 rfl call187
abbrev VQ:SPat:=⟨[(0,.ptr 100000 0),(1,.i .i64)],kX⟩
abbrev VR:SPat:=⟨[(0,.ptr 100000 0),(1,.i .i64),(4,.s),(5,.s)],kX⟩
def VS:Nat->Option SPat:=fun k=>bif k==1000004 then U VR else aj
def VT:Nat->List Nat×a_:=fun id=>bif id==6 then([0,1,5,9,10,11,12,16],(.br 2 [1] [0,5,9,10,11,12,16] [3,4] (.br 6 [5,2,1] [0,9,10,11,12,16,3,4] [7,8] (.br 13 [12,11,10,9,6,5,2,1] [0,16,3,4,7,8] [14,15,17,18,19,20] (.br 21 Iz [] [] .fin .fin) .fin) .fin) .fin))else([],.fin)
def xQ:Int×(zBy×zBy×zBy×Int×zBy)×zBy×Int->Option ((zBy×zBy×zBy×Int×zBy)×zBy×Int):=fun(a,(b,c,d,e,f),g,h)=>let i:=[(116:UInt8),114,97,112,32];let j:=[(32:UInt8)];ah (df ([[(45:UInt8)],[(69:UInt8),114,114],[(69:UInt8),114,114],[(65:UInt8)],[(66:UInt8)]],g,h)) fun(g,h,k)=>af (aa ((1:Nat)+g.length<=9223372036854775807)) (af (aa (au ([(76:UInt8)]++g)+1<=9223372036854775807)) (bindE (Y:=Int×zBy×zBy×(zBy×zBy×zBy×Int×zBy)×zBy×Int) (ai (aa (g=[(45:UInt8)])) (U (ao (a,g,[(76:UInt8),79,98,106,59],(b,c,d,e,f),h,k))) (U (ao (a,g,[(76:UInt8)]++g++[(59:UInt8)],(b,c,d,e,f),h,k)))) fun(a,b,c,(d,e,f,g,h),k,l)=>ah (jX (wrap .i64 (wrap .i64 (g+3)+5))) fun m=>af (aa ((3:Nat)+m.length<=9223372036854775807)) (ah (bM ([(103:UInt8),111,32]++m,(d,e,f,g,h),k,l)) fun((d,_,e,f,h),k,l)=>ah (jX a) fun a=>ak (ak (af (aa (g=g)) (U ())) (ak (af (aa (f=f)) (U ())) (ak (af (aa (b=b)) (U ())) (U ())))) (af (aa ((5:Nat)+a.length<=9223372036854775807)) (af (aa (au (i++a)+1<=9223372036854775807)) (ah (jX g) fun g=>let m:=af (aa (au (i++a)+1<=9223372036854775807)) (af (aa (i++a++j=i++a++j)) (U ()));let n:=af (aa ((5:Nat)+a.length<=9223372036854775807)) (af (aa (i++a=i++a)) (U ()));ak (ak (af (aa (f=f)) (U ())) (ak (af (aa (b=b)) (U ())) (ak n (ak m (U ()))))) (af (aa (au (i++a++j)+g.length<=9223372036854775807)) (af (aa (au (i++a++j++g)+1<=9223372036854775807)) (ah (jX f) fun o=>ak (ak (af (aa (b=b)) (U ())) (ak n (ak m (ak (af (aa (au (i++a++j)+g.length<=9223372036854775807)) (af (aa (i++a++j++g=i++a++j++g)) (U ()))) (ak (af (aa (au (i++a++j++g)+1<=9223372036854775807)) (af (aa (i++a++j++g++j=i++a++j++g++j)) (U ()))) (U ())))))) (af (aa (au (i++a++j++g++j)+o.length<=9223372036854775807)) (af (aa (au (i++a++j++g++j++o)+1<=9223372036854775807)) (af (aa (au (i++a++j++g++j++o++j)+b.length<=9223372036854775807)) (af (aa (au (i++a++j++g++j++o++j++b)+1<=9223372036854775807)) (ah (qV ((d,i++a++j++g++j++o++j++b++[(10:UInt8)],e,f,h),k,l)) fun(a,(b,d,e,f,g),h,i)=>ah (qW (a,c,(b,d,e,f,g),h,i)) fun((a,b,c,d,e),f,g)=>ah (bM ([(112:UInt8),111,112],(a,b,c,d,e),f,g)) fun((a,b,c,d,e),f,g)=>ah (bM ([(112:UInt8),117,115,104,32,55,55],(a,b,c,d,e),f,g)) fun((a,b,c,d,e),f,g)=>ah (bM ([(112:UInt8),114,105,110,116],(a,b,c,d,e),f,g)) fun((a,b,c,d,e),f,g)=>ah (qV ((a,b,c,d,e),f,g)) fun(a,(b,c,d,e,f),g,h)=>ah (qW (a,[(46:UInt8)],(b,c,d,e,f),g,h)) fun((a,b,c,d,e),f,g)=>U (((a,b,c,d,e),f,g))))))))))))))))
def tb188:=az 188 (aB 188 ag [(0,[]),(0,[0])] VQ ku xQ [] 68 [100000,100001]) tb187
def VU:zTb tb188:=aC VP VT VS func188 rfl call188
abbrev VV:SPat:=⟨[(0,.ptr 100000 0),(1,.s),(5,.ptr 11 0),(6,.i .i64)],[.box 11 (pl ta),.box 100000 (pl kn)]⟩
abbrev VW:SPat:=⟨[(0,.ptr 100000 0),(1,.s),(5,.ptr 11 0),(7,.i .i64),(8,.i .i64)],[.box 11 (pl ta),.box 100000 (pl kn)]⟩
abbrev Jl:SPat:=⟨[(0,.ptr 100000 0),(1,.s),(5,.ptr 11 0)],[.box 11 (pl ta),.box 100000 (pl kn)]⟩
abbrev VX:SPat:=⟨[(1,.s),(5,.ptr 11 0)],[.box 11 (pl ta),.box 100000 (pl kn)]⟩
abbrev VY:SPat:=⟨[(0,.ptr 100000 0),(1,.s),(5,.ptr 11 0),(7,.i .i64)],[.box 11 (pl ta),.box 100000 (pl kn)]⟩
def VZ:Nat->Option SPat:=fun k=>bif k==3 then U VV else bif k==9 then U VW else bif k==1000014 then U Jl else bif k==1000018 then U VX else bif k==2000000 then U Jl else bif k==2000002 then U VY else aj
def V0:Nat->List Nat×a_:=fun id=>bif id==18 then([0,1,2,3,4,5,6,7,8,9,10,11,12,13,14,15,16,17],(.br 18 mz [] [] .fin .fin))else([],.fin)
def xR:zBy×zBy×Int->Option (zBy×zBy×Int):=fun(a,b,c)=>let d:=[(32:UInt8),40,41,86,32,49,32,51,32,51,10];let e:=[(109:UInt8),101,116,104,111,100,32];bindE (Y:=zBy×(zBy×zBy×zBy×Int×zBy)×zBy×Int) (aE (fun(a,b,(c,d,e,f,g),h,i)=>
 ai (aa (b<3))
 (ah (df ([[(110:UInt8),117,108,108],[(110:UInt8),117,108,108],[(110:UInt8),101,119,32,65]],h,i)) fun(h,i,j)=>
 ah (bM (h,(c,d,e,f,g),i,j)) fun((c,d,e,f,g),h,i)=>
 ah (jX b) fun j=>
 af (aa ((9:Nat)+j.length<=9223372036854775807)) (ah (bM ([(114:UInt8),101,102,115,116,111,114,101,32]++j,(c,d,e,f,g),h,i)) fun((c,d,e,f,g),h,i)=>
 U (ao (a,wrap .i64 (b+1),(c,d,e,f,g),h,i))))
 (U (an (ao (a,(c,d,e,f,g),h,i))))) ((a,(0:Int),([],[],[],(0:Int),[(76:UInt8),65,59]),b,c))) fun(a,(b,c,f,g,h),i,j)=>
 ah (dn (6,i,j)) fun(i,j,k)=>
 bindE (Y:=zBy×Int×(zBy×zBy×zBy×Int×zBy)×zBy×Int) (aE (fun(a,b,c,(d,e,f,g,h),i,j)=>
 ai (aa (0<c))
 (ai (aa (g<80))
 (ah (xP ((d,e,f,g,h),i,j)) fun((d,e,f,g,h),i,j)=>
 U (ao (a,b,wrap .i64 (c-1),(d,e,f,g,h),i,j)))
 (U (an (ao (a,b,(d,e,f,g,h),i,j)))))
 (U (an (ao (a,b,(d,e,f,g,h),i,j))))) ((a,g,wrap .i64 ((1:Int)+i),(b,c,f,g,h),j,k))) fun(a,b,(c,f,g,h,i),j,k)=>
 bindE (Y:=zBy×(zBy×zBy×zBy×Int×zBy)×zBy×Int) (ah (dn (3,j,k)) fun(d,e,j)=>
 ai (aa (d=0))
 (ah (xQ (b,(c,f,g,h,i),e,j)) fun((b,c,d,e,f),g,h)=>
 U (ao (a,(b,c,d,e,f),g,h)))
 (U (ao (a,(c,f,g,h,i),e,j)))) fun(a,(b,c,f,g,h),i,j)=>
 bindE (Y:=zBy×(zBy×zBy×zBy×Int×zBy)×zBy×Int) (ah (dn (8,i,j)) fun(d,e,i)=>
 ai (aa (d=0))
 (ah (gv ((b,c,f,g,h),e,i)) fun(b,(c,d,e,f,g),h,i)=>
 af (aa ((8:Nat)+b.length<=9223372036854775807)) (ah (bM ([(114:UInt8),101,102,108,111,97,100,32]++b,(c,d,e,f,g),h,i)) fun((b,c,d,e,f),g,h)=>
 ah (bM ([(116:UInt8),104,114,111,119],(b,c,d,e,f),g,h)) fun((b,c,d,e,f),g,h)=>
 U (ao (a,(b,c,d,e,f),g,h))))
 (ah (bM ([(103:UInt8),105,118,101],(b,c,f,g,h),e,i)) fun((b,c,d,e,f),g,h)=>
 U (ao (a,(b,c,d,e,f),g,h)))) fun(a,(b,c,f,_,_),g,h)=>
 af (aa ((7:Nat)+a.length<=9223372036854775807)) (af (aa (au (e++a)+11<=9223372036854775807)) (af (aa (au (e++a++d)+b.length<=9223372036854775807)) (af (aa (au (e++a++d++b)+c.length<=9223372036854775807)) (af (aa (au (e++a++d++b++c)+f.length<=9223372036854775807)) (U ((e++a++d++b++c++f,g,h)))))))
def tb162:=az 162 (aB 162 ag [(0,[])] CA wT xR [.tmp 4] 82 [100000]) tb188
def V1:zTb tb162:=aC VU V0 VZ func162 rfl call162
abbrev CQ:SPat:=⟨[(0,.ptr 100000 0)],jW⟩
abbrev V2:SPat:=⟨[(2,.ptr 2 0)],[.box 2 (pl [.s,.s]),.box 100000 (pl kn)]⟩
def nS:zBy×Int->Option ((zBy×zBy)×zBy×Int):=fun(a,b)=>let c:=[(99:UInt8),108,97,115,115,32,77,32];let d:=[(79:UInt8),98,106];ah (df ([d,d,d,[(65:UInt8)]],a,b)) fun(a,b,d)=>
 af (aa ((8:Nat)+a.length<=9223372036854775807)) (af (aa (au (c++a)+3<=9223372036854775807)) (ah (xR ([(109:UInt8),97,105,110],b,d)) fun(b,d,e)=>
 af (aa (au (c++a++[(32:UInt8),48,10])+b.length<=9223372036854775807)) (ah (tG (c++a++[(32:UInt8),48,10]++b)) fun a=>
 U ((([(77:UInt8)],a),d,e)))))
def tb109:=az 109 (aB 109 ag [(0,[])] CQ V2 nS [.cell 2 40] 13 [100000]) tb162
def V3:zTb tb109:=aC V1 aI aR func109 rfl call109
abbrev Jm:SPat:=⟨[(2,.own cw ae)],jW⟩
abbrev V4:SPat:=⟨[(0,.ptr 100000 0),(3,.sl .str),(15,.i .i64),(32,.b)],jW⟩
def V5:Nat->Option SPat:=fun k=>bif k==1000009 then U V4 else aj
def V6:Nat->List Nat×a_:=fun id=>bif id==3000018 then([9000000],.fin)else bif id==3000001 then([9500000],.fin)else bif id==5 then(hZ,(.br 3 [2] [0,1] [] (.br 4 [3,2] [0,1] [] (.br 5 iE [] [6] (.br 7 dv [] [] .fin .fin) .fin) .fin) .fin))else bif id==11 then(hZ,(.br 3 [2] [0,1] [] (.br 4 [3,2] [0,1] [] (.br 5 iE [] [6] (.br 7 dv [] [] .fin .fin) .fin) .fin) .fin))else bif id==17 then(hZ,(.br 3 [2] [0,1] [] (.br 4 [3,2] [0,1] [] (.br 5 iE [] [6] (.br 7 dv [] [] .fin .fin) .fin) .fin) .fin))else bif id==23 then(hZ,(.br 3 [2] [0,1] [] (.br 4 [3,2] [0,1] [] (.br 5 iE [] [6] (.br 7 dv [] [] .fin .fin) .fin) .fin) .fin))else bif id==26 then([0,1,2,5],(.br 3 [2] [0,1,5] [4] (.br 6 [] lO [] (.br 7 [6,5,3,2] [0,1,4] [] (.br 8 i_ [] [] (.br 9 [] lO [] (.br 10 dG [] [] .fin .fin) .fin) (.br 9 [] lO [] (.br 8 i_ [] [] (.br 10 dG [] [] .fin .fin) .fin) .fin)) (.br 9 [] lO [] (.br 7 [6,5,3,2] [0,1,4] [] (.br 8 i_ [] [] (.br 10 dG [] [] .fin .fin) .fin) .fin) .fin)) (.br 9 [] lO [] (.br 6 [] lO [] (.br 7 [6,5,3,2] [0,1,4] [] (.br 8 i_ [] [] (.br 10 dG [] [] .fin .fin) .fin) .fin) .fin) .fin)) (.br 6 [] [0,1,2,5] [] (.br 3 [2] [0,1,5] [4] (.br 7 [6,5,3,2] [0,1,4] [] (.br 8 i_ [] [] (.br 9 [] lO [] (.br 10 dG [] [] .fin .fin) .fin) (.br 9 [] lO [] (.br 8 i_ [] [] (.br 10 dG [] [] .fin .fin) .fin) .fin)) (.br 9 [] lO [] (.br 7 [6,5,3,2] [0,1,4] [] (.br 8 i_ [] [] (.br 10 dG [] [] .fin .fin) .fin) .fin) .fin)) (.br 9 [] [0,1,2,5] [] (.br 3 [2] [0,1,5] [4] (.br 7 [6,5,3,2] [0,1,4] [] (.br 8 i_ [] [] (.br 10 dG [] [] .fin .fin) .fin) .fin) .fin) .fin)) (.br 9 [] [0,1,2,5] [] (.br 3 [2] [0,1,5] [4] (.br 6 [] lO [] (.br 7 [6,5,3,2] [0,1,4] [] (.br 8 i_ [] [] (.br 10 dG [] [] .fin .fin) .fin) .fin) .fin) (.br 6 [] [0,1,2,5] [] (.br 3 [2] [0,1,5] [4] (.br 7 [6,5,3,2] [0,1,4] [] (.br 8 i_ [] [] (.br 10 dG [] [] .fin .fin) .fin) .fin) .fin) .fin)) .fin))))else bif id==27 then(hZ,(.br 3 [2] [0,1] [] (.br 4 [3,2] [0,1] [] (.br 5 iE [] [6] (.br 7 dv [] [] .fin .fin) .fin) .fin) .fin))else([],.fin)
def xS:zBy×Int->Option (List zLdr×zBy×Int):=fun(a,b)=>let c:=[(65:UInt8)];let d:=[(66:UInt8)];let e:=[(67:UInt8)];let f:=[(70:UInt8)];let g:=[(85:UInt8)];ah (dn (6,a,b)) fun(a,b,h)=>ai (aa (a=0)) (ah (iH ([c,d,e,f],(-1:Int),b,h)) fun((a,b,c),d,e)=>ah (nS (d,e)) fun((d,e),f,g)=>af (aa (a.length+1<=9223372036854775807)&&aa ((a.length+1)*32<=140737488355328)) (U (([(a++[(d,e)],b,c)],f,g)))) (bindE (Y:=List zBy×Int×Bool×zBy×Int) (ai (aa (a=1)) (U (ao ([c,d,e,f],a,ae,b,h))) (U (ao ([c,d,e,f],a,aa (a=2),b,h)))) fun(a,b,h,i,j)=>ai h (ah (iH ([c,d,e,f,g],(-1:Int),i,j)) fun((a,b,f),g,h)=>ah (dn (4,g,h)) fun(g,h,i)=>af (aa (0<=g)) (aq ([[],[c],[d],[c,e]]) g.toNat fun c=>ah (iH (c,0,h,i)) fun((c,d,e),g,h)=>ah (nS (g,h)) fun((g,h),i,j)=>af (aa (c.length+1<=9223372036854775807)&&aa ((c.length+1)*32<=140737488355328)) (U (([(a,b,f),(c++[(g,h)],d,e)],i,j))))) (ai (aa (b=3)) (ah (iH ([c,f,g],(-1:Int),i,j)) fun((a,b,h),i,j)=>ah (dn (3,i,j)) fun(i,j,k)=>af (aa (0<=i)) (aq ([[d,e],[c,d,e],[c,e,f]]) i.toNat fun f=>ah (iH (f,0,j,k)) fun((f,i,j),k,l)=>ah (dn (3,k,l)) fun(k,l,m)=>af (aa (0<=k)) (aq ([[],[c],[d]]) k.toNat fun d=>ah (iH (d,1,l,m)) fun((d,_,k),l,m)=>ah (nS (l,m)) fun((l,m),n,o)=>af (aa (d.length+1<=9223372036854775807)&&aa ((d.length+1)*32<=140737488355328)) (ah (dn (4,n,o)) fun(n,o,p)=>af (aa (0<=n)&&aa (n<4)) (aq ([[],[(c,(0:Int))],[(g,(0:Int))],[(e,(1:Int)),(g,(0:Int))]]) n.toNat fun c=>af (aa (aw n=aw n)&&aa (aw n<4)) (af (aa (aw n=aw n)&&aa (aw n<4)) (af (aa (aw n=aw n)&&aa (aw n<4)) (U (([(a,b,h),(f,i,j),(d++[(l,m)],c,k)],o,p)))))))))) (ai (aa (b=4)) (ah (iH ([c,d,g],1,i,j)) fun((a,b,h),i,j)=>ah (dn (2,i,j)) fun(i,j,k)=>af (aa (0<=i)) (aq ([[e,f],[c,e,f]]) i.toNat fun e=>ah (iH (e,(-1:Int),j,k)) fun((e,_,f),i,j)=>ah (nS (i,j)) fun((i,j),k,l)=>af (aa (e.length+1<=9223372036854775807)&&aa ((e.length+1)*32<=140737488355328)) (ah (df ([g,d,c],k,l)) fun(c,d,g)=>U (([(a,b,h),(e++[(i,j)],[(c,(0:Int))],f)],d,g))))) (let b:=fun(a:List (zBy×Int)) (b:Int) (e:zBy) (f:Int) (g:List (zBy×zBy))=>ah (nS (e,f)) fun((e,f),h,i)=>af (aa (g.length+1<=9223372036854775807)&&aa ((g.length+1)*32<=140737488355328)) (ah (dn (3,h,i)) fun(h,i,j)=>ai (aa (h=0)) (ah (df ([c,d,[(81:UInt8)]],i,j)) fun(a,c,d)=>U (([(g++[(e,f)],[(a,(0:Int))],b)],c,d))) (U (([(g++[(e,f)],a,b)],i,j))));let c:=fun(c:Int) (d:Int) (e:zBy) (f:Int)=>ak (ak (af (aa (a=a)) (U ())) (ak (af (aa (0<=c)&&aa (c<=(a.length:Int))) (af (aa (cU (0:Nat) (de c.toNat a)=cU (0:Nat) (de c.toNat a))) (U ()))) (U ()))) (ah (iH (cU (0:Nat) (de c.toNat a),d,e,f)) fun((a,c,d),e,f)=>b c d e f a);let b:=fun(d:Int) (e:zBy) (f:Int)=>ca (ah (jY ([(-1:Int),(-1:Int),(0:Int)],e,f)) fun(e,f,g)=>ak (ak (af (aa (a=a)) (U ())) (ak (af (aa (0<=d)&&aa (d<=(a.length:Int))) (af (aa (cU (0:Nat) (de d.toNat a)=cU (0:Nat) (de d.toNat a))) (U ()))) (U ()))) (ca (ah (iH (cU (0:Nat) (de d.toNat a),e,f,g)) fun((c,e,f),g,h)=>ak (ak (af (aa (a=a)) (U ())) (ak (af (aa (0<=d)&&aa (d<=(a.length:Int))) (af (aa (cU (0:Nat) (de d.toNat a)=cU (0:Nat) (de d.toNat a))) (U ()))) (U ()))) (b e f g h c)) (c d e f g))) (ak (ak (af (aa (a=a)) (U ())) (ak (af (aa (0<=d)&&aa (d<=(a.length:Int))) (af (aa (cU (0:Nat) (de d.toNat a)=cU (0:Nat) (de d.toNat a))) (U ()))) (U ()))) (ah (jY ([(-1:Int),(-1:Int),(0:Int)],e,f)) fun(a,b,e)=>c d a b e));ca (ah (dn (5,i,j)) fun(d,e,f)=>ak (ak (af (aa (a=a)) (U ())) (U ())) (af (aa (0<=d)&&aa (d<=(a.length:Int))) (ca (ak (ak (af (aa (a=a)) (U ())) (ak (af (aa (0<=d)&&aa (d<=(a.length:Int))) (af (aa (cU (0:Nat) (de d.toNat a)=cU (0:Nat) (de d.toNat a))) (U ()))) (U ()))) (b d e f)) (ak (ak (af (aa (a=a)) (U ())) (ak (af (aa (0<=d)&&aa (d<=(a.length:Int))) (af (aa (cU (0:Nat) (de d.toNat a)=cU (0:Nat) (de d.toNat a))) (U ()))) (U ()))) (ak (ak (af (aa (a=a)) (U ())) (ak (af (aa (0<=d)&&aa (d<=(a.length:Int))) (af (aa (cU (0:Nat) (de d.toNat a)=cU (0:Nat) (de d.toNat a))) (U ()))) (U ()))) (ah (jY ([(-1:Int),(-1:Int),(0:Int)],e,f)) fun(a,b,e)=>c d a b e)))))) (let d:=ak (ak (af (aa (a=a)) (U ())) (U ())) (ah (dn (5,i,j)) fun(b,d,e)=>ak (ak (af (aa (a=a)) (U ())) (U ())) (af (aa (0<=b)&&aa (b<=(a.length:Int))) (ah (jY ([(-1:Int),(-1:Int),(0:Int)],d,e)) fun(a,d,e)=>c b a d e)));ca (ak (ak (af (aa (a=a)) (U ())) (U ())) (ca (ah (dn (5,i,j)) fun(c,d,e)=>ak (ak (af (aa (a=a)) (U ())) (U ())) (af (aa (0<=c)&&aa (c<=(a.length:Int))) (b c d e))) d)) (ak (ak (af (aa (a=a)) (U ())) (U ())) (ca (ah (dn (5,i,j)) fun(b,d,e)=>ak (ak (af (aa (a=a)) (U ())) (U ())) (af (aa (0<=b)&&aa (b<=(a.length:Int))) (ak (ak (af (aa (a=a)) (U ())) (ak (af (aa (0<=b)&&aa (b<=(a.length:Int))) (af (aa (cU (0:Nat) (de b.toNat a)=cU (0:Nat) (de b.toNat a))) (U ()))) (U ()))) (ah (jY ([(-1:Int),(-1:Int),(0:Int)],d,e)) fun(a,d,e)=>c b a d e)))) d)))))))
def tb42:=az 42 (aB 42 ag [(0,[])] CQ Jm xS [.tmp 2] 165 [100000]) tb109
def V7:zTb tb42:=aC V3 V6 V5 func42 rfl call42
abbrev V8:SPat:=⟨[(0,.ptr 100000 0),(1,.s),(5,.i .i64),(12,.i .i64),(13,.b)],jW⟩
abbrev V9:SPat:=⟨[(1,.s)],jW⟩
def V_:Nat->Option SPat:=fun k=>bif k==1000005 then U V8 else bif k==2000000 then U V9 else aj
def Wa:Nat->List Nat×a_:=fun id=>bif id==6 then([0,1,2,3,9,10,11,12],(.br 4 [3] [0,1,2,9,10,11,12] [5] (.br 6 [5,4,3] [0,1,2,9,10,11,12] [7,8,13] (.br 14 jB [] [] .fin .fin) .fin) .fin))else([],.fin)
def xT:zBy×zBy×Int->Option (zBy×zBy×Int):=fun(a,b,c)=>ah (dn (wrap .i64 ((a.length:Int)+1),b,c)) fun(b,c,d)=>ah (dn (5,c,d)) fun(c,d,e)=>bindE (Y:=zBy×zBy×Int) (bindE (Y:=zBy×Int×Int×Bool×zBy×Int) (ai (aa (c=0)) (U (ao (a,b,c,ae,d,e))) (U (ao (a,b,c,aa (c=1),d,e)))) fun(a,b,c,d,e,f)=>ai d (ai (aa (b<(a.length:Int))) (af (aa (0<=b)&&aa (b<=(a.length:Int))) (af (aa (0<=wrap .i64 (b+1))&&aa (wrap .i64 (b+1)<=(a.length:Int))&&aa ((a.length:Int)<=(a.length:Int))) (ah (dn (256,e,f)) fun(c,d,e)=>let f:=ak (af (aa (a=a)) (U ())) (ak (af (aa (b=b)) (U ())) (ak (af (aa (0<=b)&&aa (b<=(a.length:Int))) (af (aa (cU (0:Nat) (de b.toNat a)=cU (0:Nat) (de b.toNat a))) (U ()))) (ak (af (aa (a=a)) (U ())) (ak (af (aa (b=b)) (U ())) (ak (af (aa (wrap .i64 (b+1)=wrap .i64 (b+1))) (U ())) (ak (af (aa (0<=wrap .i64 (b+1))&&aa (wrap .i64 (b+1)<=(a.length:Int))&&aa ((a.length:Int)<=(a.length:Int))) (af (aa (cU (aw (wrap .i64 (b+1))) (de (aw (a.length:Int)) a)=cU (aw (wrap .i64 (b+1))) (de (aw (a.length:Int)) a))) (U ()))) (U ())))))));ak f (af (aa (0<=wrap .u8 c)&&aa (wrap .u8 c<=255)) (ak f (af (aa (au (cU (0:Nat) (de b.toNat a))+1<=9223372036854775807)) (af (aa (au (cU (0:Nat) (de b.toNat a)++[UInt8.ofNat (aw (wrap .u8 c))])+au (cU (aw (wrap .i64 (b+1))) (de (aw (a.length:Int)) a))<=9223372036854775807)) (U (an (cU (0:Nat) (de b.toNat a)++[UInt8.ofNat (aw (wrap .u8 c))]++cU (aw (wrap .i64 (b+1))) (de (aw (a.length:Int)) a),d,e)))))))))) (U (ao (a,e,f)))) (ai (aa (c=2)) (af (aa (0<=b)&&aa (b<=(a.length:Int))) (U (an (cU (0:Nat) (de b.toNat a),e,f)))) (ai (aa (c=3)) (ah (dn (256,e,f)) fun(b,c,d)=>af (aa (0<=wrap .u8 b)&&aa (wrap .u8 b<=255)) (af (aa (a.length+1<=9223372036854775807)) (U (an (a++[UInt8.ofNat (aw (wrap .u8 b))],c,d))))) (U (ao (a,e,f)))))) fun(a,b,c)=>U ((a,b,c))
def tb47:=az 47 (aB 47 ag [(0,[])] CA wT xT [.tmp 4] 49 [100000]) tb42
def Wb:zTb tb47:=aC V7 Wa V_ func47 rfl call47
abbrev Wc:SPat:=⟨[(3,.own cw ae)],jW⟩
def Wd:Nat->Option SPat:=fun k=>bif k==2000000 then U Wc else aj
def We:Nat->List Nat×a_:=fun id=>bif id==7 then(kp,(.br 8 [] kp [] (.br 9 [8,7] qJ [] (.br 11 [] kp [] (.br 12 qK fK [13] (.br 14 qL fK [] (.br 15 qM [0,1] [16,17] (.br 18 mz [] [] .fin .fin) .fin) .fin) .fin) .fin) (.br 11 [] kp [] (.br 9 [8,7] qJ [] (.br 12 qK fK [13] (.br 14 qL fK [] (.br 15 qM [0,1] [16,17] (.br 18 mz [] [] .fin .fin) .fin) .fin) .fin) .fin) .fin)) (.br 11 [] kp [] (.br 8 [] kp [] (.br 9 [8,7] qJ [] (.br 12 qK fK [13] (.br 14 qL fK [] (.br 15 qM [0,1] [16,17] (.br 18 mz [] [] .fin .fin) .fin) .fin) .fin) .fin) .fin) .fin)))else bif id==9 then(kp,(.br 8 [] kp [] (.br 9 [8,7] qJ [] (.br 11 [] kp [] (.br 12 qK fK [13] (.br 14 qL fK [] (.br 15 qM [0,1] [16,17] (.br 18 mz [] [] .fin .fin) .fin) .fin) .fin) .fin) (.br 11 [] kp [] (.br 9 [8,7] qJ [] (.br 12 qK fK [13] (.br 14 qL fK [] (.br 15 qM [0,1] [16,17] (.br 18 mz [] [] .fin .fin) .fin) .fin) .fin) .fin) .fin)) (.br 11 [] kp [] (.br 8 [] kp [] (.br 9 [8,7] qJ [] (.br 12 qK fK [13] (.br 14 qL fK [] (.br 15 qM [0,1] [16,17] (.br 18 mz [] [] .fin .fin) .fin) .fin) .fin) .fin) .fin) .fin)))else bif id==14 then(wL,(.br 16 [15,14,13,12,11,10,9,8,7,6] fT [17,18] (.br 19 wM [] [] .fin .fin) .fin))else([],.fin)
def xU:zBy×Int->Option (List zLdr×zBy×Int):=fun(a,b)=>let c:=[(79:UInt8),98,106];let d:=[(65:UInt8)];ah (xS (a,b)) fun(a,b,e)=>ah (dn ((a.length:Int),b,e)) fun(b,e,f)=>ah (dn (16,e,f)) fun(e,f,g)=>bindE (Y:=List zLdr×zBy×Int) (ai (aa (e=0)) (ah (jY ([(-2:Int),(a.length:Int),b],f,g)) fun(c,d,e)=>af (aa (0<=b)&&aa (b<(a.length:Int))) (aq a b.toNat fun f=>U (ao (List.set a b.toNat (f.1,f.2.1,c),d,e)))) (let h:=af (aa (aw b=aw b)&&aa (aw b<a.length)) (af (aa (aw b=aw b)&&aa (aw b<a.length)) (af (aa (aw b=aw b)&&aa (aw b<a.length)) (U ())));let i:=ak (af (aa (b=b)) (U ())) (ak (af (aa (b=b)) (U ())) (ak (af (aa (0<=b)&&aa (b<(a.length:Int))) (af (aw b==aw b&&ae) (U ()))) (ak (af (aw b==aw b&&ae) (U ())) (ak h (U ())))));ai (aa (e=1)) (af (aa (0<=b)&&aa (b<(a.length:Int))) (aq a b.toNat fun e=>af (aa (aw b=aw b)&&aa (aw b<a.length)) (af (aa (aw b=aw b)&&aa (aw b<a.length)) (af (aa (aw b=aw b)&&aa (aw b<a.length)) (let a:=fun(c:zBy) (d:Int) (f:zBy)=>ak i (ah (df ([[],[(83:UInt8),84,79,87]],c,d)) fun(c,d,g)=>ak i (ak i (af (aa (e.1.length+1<=9223372036854775807)&&aa ((e.1.length+1)*32<=140737488355328)) (ak (ak (af (aa (b=b)) (U ())) (U ())) (af (aa (0<=b)&&aa (b<(a.length:Int))) (af (aa (aw b=aw b)&&aa (aw b<a.length)) (af (aa (aw b<a.length)) (U (ao (List.set a b.toNat (e.1++[(f,c)],e.2.1,e.2.2),d,g))))))))));ca (ak i (ca (ah (df ([d,c,[(81:UInt8)],[(49:UInt8)]],f,g)) fun(b,c,d)=>ak i (a c d b)) (ak i (ah (df ([d,c,[(81:UInt8)],[(49:UInt8)]],f,g)) fun(b,c,d)=>a c d b)))) (ak i (ak i (ah (df ([d,c,[(81:UInt8)],[(49:UInt8)]],f,g)) fun(b,c,d)=>a c d b)))))))) (ai (aa (e=2)) (af (aa (0<=b)&&aa (b<(a.length:Int))) (aq a b.toNat fun c=>af (aa (aw b=aw b)&&aa (aw b<a.length)) (af (aa (aw b=aw b)&&aa (aw b<a.length)) (af (aa (aw b=aw b)&&aa (aw b<a.length)) (let a:=fun(d:zBy) (e:Int) (f:zBy)=>ak i (ah (jY ([(0:Int),(-1:Int),(3:Int)],d,e)) fun(d,e,g)=>ak i (ak i (af (aa (c.2.1.length+1<=9223372036854775807)&&aa ((c.2.1.length+1)*24<=140737488355328)) (ak (ak (af (aa (b=b)) (U ())) (U ())) (af (aa (0<=b)&&aa (b<(a.length:Int))) (af (aa (aw b=aw b)&&aa (aw b<a.length)) (af (aa (aw b<a.length)) (U (ao (List.set a b.toNat (c.1,c.2.1++[(f,d)],c.2.2),e,g))))))))));ca (ak i (ca (ah (df ([d,[(90:UInt8)]],f,g)) fun(b,c,d)=>ak i (a c d b)) (ak i (ah (df ([d,[(90:UInt8)]],f,g)) fun(b,c,d)=>a c d b)))) (ak i (ak i (ah (df ([d,[(90:UInt8)]],f,g)) fun(b,c,d)=>a c d b)))))))) (ai (aa (e=3)) (ah (iH ([],0,f,g)) fun((b,c,d),e,f)=>ah (iH ([],0,e,f)) fun((e,f,g),h,i)=>ah (iH ([],0,h,i)) fun((h,i,j),k,l)=>af (aa (a.length+3<=9223372036854775807)&&aa ((a.length+3)*56<=140737488355328)) (U (an (a++[(b,c,d),(e,f,g),(h,i,j)],k,l)))) (ai (aa (e=4)) (af (aa (0<=b)&&aa (b<(a.length:Int))) (aq a b.toNat fun c=>af (aa (aw b=aw b)&&aa (aw b<a.length)) (af (aa (aw b=aw b)&&aa (aw b<a.length)) (af (aa (aw b=aw b)&&aa (aw b<a.length)) (ah (dn ((c.1.length:Int),f,g)) fun(d,e,f)=>af (aa (0<=b)&&aa (b<(a.length:Int))) (af (aa (aw b=aw b)&&aa (aw b<a.length)) (af (aa (aw b=aw b)&&aa (aw b<a.length)) (af (aa (0<=b)&&aa (b<(a.length:Int))) (af (aa (aw b=aw b)&&aa (aw b<a.length)) (af (aa (aw b=aw b)&&aa (aw b<a.length)) (af (aa (0<=d)&&aa (d<(c.1.length:Int))) (aq c.1 d.toNat fun g=>ah (xT (g.2,e,f)) fun(e,f,g)=>ak (ak (af (aa (b=b)) (U ())) (ak (af (aa (0<=b)&&aa (b<(a.length:Int))) (af (aw b==aw b&&ae) (U ()))) (ak (af (aw b==aw b&&ae) (U ())) (ak h (ak (af (aa (d=d)) (U ())) (U ())))))) (af (aa (0<=d)&&aa (d<(c.1.length:Int))) (aq c.1 d.toNat fun h=>af (aa (aw b<a.length)) (af (aa (aw b=aw b)&&aa (aw b<a.length)) (af (aa (aw b<a.length)) (U (ao (List.set a b.toNat (List.set c.1 d.toNat (h.1,e),c.2.1,c.2.2),f,g))))))))))))))))))) (ai (aa (e=5)) (U (an ([],f,g))) (U (ao (a,f,g))))))))) fun(a,b,c)=>U ((a,b,c))
def tb13:=az 13 (aB 13 ag [(0,[])] CQ Jm xU [.tmp 2] 109 [100000]) tb47
def Wf:zTb tb13:=aC Wb We Wd func13 rfl call13
abbrev tJ:SPat:=⟨[(2,.own cw ae)],[]⟩
def F4:zBy->Option (List zLdr):=fun a=>
 ah (wS a) fun(a,b)=>
 ah (xU (a,b)) fun(a,_,_)=>
 U (a)
def tb4:=az 4 (aB 4 ae [] td tJ F4 [.tmp 2] 6 []) tb13
def Wg:zTb tb4:=aC Wf aI aR func4 rfl call4
def gw:Int×Int×Int->Option Bool:=fun(a,b,c)=>
 ai (aa (b<=a))
 (U (aa (a<=c)))
 (U ag)
def tb69:=az 69 (aB 69 ae [] IN lR gw [.tmp 6] 15 []) tb4
def Wh:zTb tb69:=aC Wg aI aR func69 rfl call69
abbrev Jn:SPat:=⟨[(0,.s),(20,.i .i64),(21,.i .i64)],[]⟩
def Wi:Nat->Option SPat:=fun k=>bif k==4 then U Jn else bif k==1000003 then U fy else bif k==2000000 then U dH else bif k==2000001 then U Jn else aj
def nT:zBy->Option Bool:=fun a=>
 bindE (Y:=zBy) (ah (gw ((a.length:Int),1,8)) fun b=>
 ai (!b)
 (U (an ag))
 (aq a 0 fun b=>ai (aa (48<=(b.toNat:Int)))
 (aq a 0 fun b=>ai (aa ((b.toNat:Int)<=57))
 (U (an ag))
 (U (ao a)))
 (U (ao a)))) fun a=>
 bindE (aE (fun(a,b,c)=>
 ai (aa (c<b))
 (bindE (Y:=zBy×Int×Int) (af (aa (0<=c)) (aq a c.toNat fun d=>ai (aa (97<=(d.toNat:Int)))
 (ai (aa ((d.toNat:Int)<=122))
 (U (ao (a,b,c)))
 (ai (aa (65<=(d.toNat:Int)))
 (ai (aa ((d.toNat:Int)<=90))
 (U (ao (a,b,c)))
 (ai (aa (48<=(d.toNat:Int)))
 (ai (!aa ((d.toNat:Int)<=57))
 (U (an (an (an ag))))
 (U (ao (a,b,c))))
 (U (an (an (an ag))))))
 (ai (aa (48<=(d.toNat:Int)))
 (ai (!aa ((d.toNat:Int)<=57))
 (U (an (an (an ag))))
 (U (ao (a,b,c))))
 (U (an (an (an ag)))))))
 (ai (aa (65<=(d.toNat:Int)))
 (ai (aa ((d.toNat:Int)<=90))
 (U (ao (a,b,c)))
 (ai (aa (48<=(d.toNat:Int)))
 (ai (!aa ((d.toNat:Int)<=57))
 (U (an (an (an ag))))
 (U (ao (a,b,c))))
 (U (an (an (an ag))))))
 (ai (aa (48<=(d.toNat:Int)))
 (ai (!aa ((d.toNat:Int)<=57))
 (U (an (an (an ag))))
 (U (ao (a,b,c))))
 (U (an (an (an ag)))))))) fun(a,b,c)=>
 U (ao (a,b,wrap .i64 (c+1))))
 (U (an (ao ())))) ((a,(a.length:Int),(0:Int)))) fun _=>
 U (ae)
def tb72:=az 72 (aB 72 ae [] fy e7 nT [.tmp 2] 51 []) tb69
def Wj:zTb tb72:=aC Wh aI Wi func72 rfl call72
def xV:zBy->Option Bool:=fun a=>
 ai (aa (a=[(79:UInt8),98,106]))
 (U ae)
 (U (aa (a=[(69:UInt8),114,114])))
def tb159:=az 159 (aB 159 ae [] fy e7 xV [.tmp 2] 9 []) tb72
def Wk:zTb tb159:=aC Wj aI aR func159 rfl call159
abbrev Wl:SPat:=⟨[(0,.agg (pl [.s,.s])),(1,.ptr 100000 0)],[.box 100000 (pl [.s,.s])]⟩
abbrev Wm:SPat:=⟨[(3,.b)],[.box 100000 (pl [.s,.s])]⟩
def Jo:(zBy×zBy)×zBy×zBy->Option (Bool×zBy×zBy):=fun((a,_),b,c)=>
 U ((aa (a=b),b,c))
def tb161:=az 161 (aB 161 ag [(1,[])] Wl Wm Jo [.tmp 3] 9 [100000]) tb159
def Wn:zTb tb161:=aC Wk aI aR func161 rfl call161
abbrev Jp:SPat:=⟨[(0,.sl lK),(1,.fn 161 (pl nL))],[.box 100000 (pl [.s,.s])]⟩
abbrev Wo:SPat:=⟨[(4,.i .i64)],[.box 100000 (pl [.s,.s])]⟩
abbrev Wp:SPat:=⟨[(0,.sl lK),(1,.fn 161 (pl nL)),(7,.i .i64),(8,.i .i64)],[.box 100000 (pl [.s,.s])]⟩
abbrev Wq:SPat:=⟨[],[.box 100000 (pl [.s,.s])]⟩
def Wr:Nat->Option SPat:=fun k=>bif k==2 then U Wp else bif k==2000000 then U Wq else aj
def xW:List (zBy×zBy)×zBy×zBy->Option (Int×zBy×zBy):=fun(a,b,c)=>
 bindE (Y:=zBy×zBy) (aE (fun(a,b,c,d,e)=>
 ai (aa (c<b))
 (af (aa (0<=c)) (aq a c.toNat fun f=>ah (Jo ((f.1,f.2),d,e)) fun(d,e,f)=>
 ai (d)
 (U (an (an (c,e,f))))
 (U (ao (a,b,wrap .i64 (c+1),e,f)))))
 (U (an (ao (d,e))))) ((a,(a.length:Int),(0:Int),b,c))) fun(a,b)=>
 U (((-1:Int),a,b))
def zTG:=az 162184 (aB 184 ag [(1,[0])] Jp Wo xW [.tmp 4] 19 [100000]) tb161
def Ws:zTb zTG:=aC Wn aI Wr func184 rfl call184
abbrev Wt:SPat:=⟨[(4,.b)],[.box 100000 (pl [.s,.s])]⟩
def xX:List (zBy×zBy)×zBy×zBy->Option (Bool×zBy×zBy):=fun(a,b,c)=>
 ah (xW (a,b,c)) fun(a,b,c)=>
 U ((aa (0<=a),b,c))
def zTH:=az 162160 (aB 160 ag [(1,[0])] Jp Wt xX [.tmp 4] 9 [100000]) zTG
def Wu:zTb zTH:=aC Ws aI aR func160 rfl call160
abbrev Wv:SPat:=⟨[(0,.agg (pl gu)),(1,.i .i64)],[]⟩
abbrev Jq:SPat:=⟨[(1,.i .i64),(2,.ptr 2 0),(28,.sl lK),(29,.i .i64),(30,.i .i64)],[.box 2 (pl gu)]⟩
abbrev Jr:SPat:=⟨[(1,.i .i64),(2,.ptr 2 0),(60,.sl my),(61,.i .i64),(62,.i .i64)],[.box 2 (pl gu)]⟩
abbrev Js:SPat:=⟨[(1,.i .i64),(2,.ptr 2 0)],[.box 2 (pl gu)]⟩
def Ww:Nat->Option SPat:=fun k=>bif k==4 then U Jq else bif k==10 then U Jr else bif k==1000003 then U Js else bif k==2000000 then U Js else bif k==2000001 then U Jq else bif k==2000002 then U dH else bif k==2000003 then U Jr else aj
def Wx:Nat->List Nat×a_:=fun id=>bif id==12 then([0,1],(.br 2 [1,0] [] [3,4,5,6,7,8] (.br 9 gq [] [10,11,12,13,14,15,16,17,18,19,20,21,22,23,24,25,26,27] .fin .fin) .fin))else([],.fin)
def xY:(zLdr)×Int->Option Bool:=fun((a,b,c),d)=>
 bindE (Y:=Int×zLdr) (ai (aa (5<(a.length:Int)))
 (U (an ag))
 (ai (aa (4<(b.length:Int)))
 (U (an ag))
 (ah (gw (c,(-1:Int),wrap .i64 (d-1))) fun e=>
 ai (!e)
 (U (an ag))
 (U (ao (d,a,b,c)))))) fun(a,b,c,d)=>
 bindE (Y:=Int×zLdr) (aE (fun(a,b,c,d,e,f,g)=>
 ai (aa (d<c))
 (bindE (Y:=Int×List (zBy×zBy)×Int×Int×zLdr) (af (aa (0<=d)) (aq b d.toNat fun h=>ah (nT h.1) fun i=>
 ai (!i)
 (U (an (an (an ag))))
 (ah (xV h.1) fun i=>
 ai (i)
 (U (an (an (an ag))))
 (ai (aa (900<(h.2.length:Int)))
 (U (an (an (an ag))))
 (af (aa (0<=d)&&aa (d<=(e.length:Int))) (ah (xX (cU (0:Nat) (de d.toNat e),h.1,h.2)) fun(h,_,_)=>
 ai (h)
 (U (an (an (an ag))))
 (U (ao (a,b,c,d,e,f,g))))))))) fun(a,b,c,d,e,f,g)=>
 U (ao (a,b,c,wrap .i64 (d+1),e,f,g)))
 (U (an (ao (a,e,f,g))))) ((a,b,(b.length:Int),(0:Int),b,c,d))) fun(a,b,c,d)=>
 bindE (aE (fun(a,b,c,d,e,f,g)=>
 ai (aa (d<c))
 (bindE (Y:=Int×List (zBy×Int)×Int×Int×zLdr) (af (aa (0<=d)) (aq b d.toNat fun h=>ah (nT h.1) fun i=>
 ai (!i)
 (U (an (an (an ag))))
 (ah (gw (h.2,0,wrap .i64 (a-1))) fun i=>
 ai (!i)
 (U (an (an (an ag))))
 (ai (aa (0<d))
 (af (aa (0<=wrap .i64 (d-1))) (aq f (aw (wrap .i64 (d-1))) fun i=>ai (!Op.bytesLess i.1 h.1)
 (U (an (an (an ag))))
 (U (ao (a,b,c,d,e,f,g)))))
 (U (ao (a,b,c,d,e,f,g))))))) fun(a,b,c,d,e,f,g)=>
 U (ao (a,b,c,wrap .i64 (d+1),e,f,g)))
 (U (an (ao ())))) ((a,c,(c.length:Int),(0:Int),b,c,d))) fun _=>
 U (ae)
def tb105:=az 105 (aB 105 ae [] Wv dp xY [.tmp 4] 96 []) zTH
def Wz:zTb tb105:=aC Wu Wx Ww func105 rfl call105
abbrev WA:SPat:=⟨[(0,.agg (pl gu)),(1,.ptr 100000 0)],[.box 100000 (pl [.sl cw])]⟩
abbrev WB:SPat:=⟨[(3,.b)],[.box 100000 (pl [.sl cw])]⟩
def xZ:(zLdr)×List zLdr->Option (Bool×List zLdr):=fun((a,b,c),d)=>
 ah (xY ((a,b,c),(d.length:Int))) fun a=>
 U ((!a,d))
def tb104:=az 104 (aB 104 ag [(1,[])] WA WB xZ [.tmp 3] 9 [100000]) tb105
def WC:zTb tb104:=aC Wz aI aR func104 rfl call104
abbrev Jt:SPat:=⟨[(0,.sl cw),(1,.fn 104 (pl nL))],[.box 100000 (pl [.sl cw])]⟩
abbrev WD:SPat:=⟨[(4,.i .i64)],[.box 100000 (pl [.sl cw])]⟩
abbrev WE:SPat:=⟨[(0,.sl cw),(1,.fn 104 (pl nL)),(7,.i .i64),(8,.i .i64)],[.box 100000 (pl [.sl cw])]⟩
abbrev WG:SPat:=⟨[],[.box 100000 (pl [.sl cw])]⟩
def WH:Nat->Option SPat:=fun k=>bif k==2 then U WE else bif k==2000000 then U WG else aj
def x_:List zLdr×List zLdr->Option (Int×List zLdr):=fun(a,b)=>
 bindE (Y:=List zLdr) (aE (fun(a,b,c,d)=>
 ai (aa (c<b))
 (af (aa (0<=c)) (aq a c.toNat fun e=>ah (xZ ((e.1,e.2.1,e.2.2),d)) fun(d,e)=>
 ai (d)
 (U (an (an (c,e))))
 (U (ao (a,b,wrap .i64 (c+1),e)))))
 (U (an (ao d)))) ((a,(a.length:Int),(0:Int),b))) fun a=>
 U (((-1:Int),a))
def zTN:=az 105158 (aB 158 ag [(1,[0])] Jt WD x_ [.tmp 4] 19 [100000]) tb104
def WI:zTb zTN:=aC WC aI WH func158 rfl call158
abbrev WJ:SPat:=⟨[(4,.b)],[.box 100000 (pl [.sl cw])]⟩
def CR:List zLdr×List zLdr->Option (Bool×List zLdr):=fun(a,b)=>
 ah (x_ (a,b)) fun(a,b)=>
 U ((aa (0<=a),b))
def zTO:=az 105103 (aB 103 ag [(1,[0])] Jt WJ CR [.tmp 4] 9 [100000]) zTN
def WK:zTb zTO:=aC WI aI aR func103 rfl call103
abbrev mI:SPat:=⟨[(0,.sl cw)],[]⟩
def tK:List zLdr->Option Bool:=fun a=>
 ah (gw ((a.length:Int),1,3)) fun b=>
 ai (b)
 (ah (CR (a,a)) fun(a,_)=>
 U (!a))
 (U ag)
def tb39:=az 39 (aB 39 ae [] mI e7 tK [.tmp 2] 12 []) zTO
def WL:zTb tb39:=aC WK aI aR func39 rfl call39
abbrev WM:SPat:=⟨[(2,.own cw ag)],[]⟩
def ya:List zLdr->Option (List zLdr):=fun a=>
 ai (aa (a.length=0))
 (ca
 (U ([]))
 (af (aa (a.length<=9223372036854775807)&&aa (a.length*56<=140737488355328)) (U a)))
 (af (aa (a.length<=9223372036854775807)&&aa (a.length*56<=140737488355328)) (U a))
def tb106:=az 106 (aB 106 ag [] mI WM ya [.tmp 2] 8 []) tb39
def WN:zTb tb106:=aC WL aI aR func106 rfl call106
abbrev WO:SPat:=⟨[(0,.sl lK)],[]⟩
abbrev WQ:SPat:=⟨[(2,.own lK ag)],[]⟩
def yb:List (zBy×zBy)->Option (List (zBy×zBy)):=fun a=>
 ai (aa (a.length=0))
 (ca
 (U ([]))
 (af (aa (a.length<=9223372036854775807)&&aa (a.length*32<=140737488355328)) (U a)))
 (af (aa (a.length<=9223372036854775807)&&aa (a.length*32<=140737488355328)) (U a))
def tb107:=az 107 (aB 107 ae [] WO WQ yb [.tmp 2] 8 []) tb106
def WR:zTb tb107:=aC WN aI aR func107 rfl call107
abbrev WS:SPat:=⟨[(0,.sl my)],[]⟩
abbrev WT:SPat:=⟨[(2,.own my ag)],[]⟩
def yc:List (zBy×Int)->Option (List (zBy×Int)):=fun a=>
 ai (aa (a.length=0))
 (ca
 (U ([]))
 (af (aa (a.length<=9223372036854775807)&&aa (a.length*24<=140737488355328)) (U a)))
 (af (aa (a.length<=9223372036854775807)&&aa (a.length*24<=140737488355328)) (U a))
def tb108:=az 108 (aB 108 ae [] WS WT yc [.tmp 2] 8 []) tb107
def WU:zTb tb108:=aC WR aI aR func108 rfl call108
abbrev WV:SPat:=⟨[(3,.ar 3),(8,.ar 3),(9,.i .i64),(10,.i .i64)],[.spl 3 cw]⟩
abbrev CS:SPat:=⟨[(3,.own cw ae)],[]⟩
def WW:Nat->Option SPat:=fun k=>bif k==3 then U WV else bif k==2000000 then U CS else aj
def WX:Nat->List Nat×a_:=fun id=>bif id==3000005 then([5000000],.fin)else bif id==5 then([0,1,2,3,4,5,7,8],(.br 6 [5,4] [0,1,2,3,7,8] [] (.br 9 [8,7,6,5,4] [0,1,2,3] [10,11] (.br 12 [11,10,9,8,7,6,5,4,1,0] [2,3] [13,14] (.br 15 s7 [] [] .fin .fin) .fin) .fin) .fin))else([],.fin)
def tL:List zLdr->Option (List zLdr):=fun a=>
 ah (ya a) fun a=>
 bindE (Y:=List zLdr) (aE (fun(a,b,c,d)=>
 ai (aa (b<a))
 (af (aa (0<=b)&&aa (b<(c.length:Int))) (af (aa (d<=aw b)) (aq c b.toNat fun e=>ah (yb e.1) fun f=>
 ak (ak (af (aa (b=b)) (U ())) (ak (af (aa (b=b)) (U ())) (ak (af (aa (e.2.1=e.2.1)) (U ())) (U ())))) (ah (yc e.2.1) fun e=>
 ak (ak (af (aa (b=b)) (U ())) (ak (af (aa (b=b)) (U ())) (U ()))) (af (aa (0<=b)&&aa (b<(c.length:Int))) (af (aa (d=aw b)) (aq c b.toNat fun d=>af (aa (aw b=aw b)&&aa (aw b<c.length)) (ak (ak (af (aa (b=b)) (U ())) (U ())) (af (aa (0<=b)&&aa (b<(c.length:Int))) (af (aa (aw b=aw b)&&aa (aw b<c.length)) (af (aa (aw b<c.length)) (U (ao (a,wrap .i64 (b+1),List.set c b.toNat (f,e,d.2.2),aw b+1))))))))))))))
 (iD (af (aa (d=c.length)) (U (ao c))))) (((a.length:Int),(0:Int),a,nat_lit 0))) fun a=>
 U (a)
def tb40:=az 40 (aB 40 ae [] mI tJ tL [.tmp 2] 31 []) tb108
def WY:zTb tb40:=aC WU WX WW func40 rfl call40
abbrev WZ:SPat:=⟨[(0,.ptr 100000 0),(1,.i .i64)],[.box 100000 (pl eX)]⟩
abbrev W0:SPat:=⟨[(4,.s)],[.box 100000 (pl eX)]⟩
abbrev W1:SPat:=⟨[(0,.ptr 100000 0),(1,.i .i64),(18,.b)],[.box 100000 (pl eX)]⟩
def W2:Nat->Option SPat:=fun k=>bif k==1000002 then U W1 else aj
def pw:Int×zBy×Bool->Option (zBy×zBy×Bool):=fun(a,b,c)=>
 bindE (Y:=Int×Bool×zBy×Bool) (ai (c)
 (U (ao (a,ae,b,c)))
 (U (ao (a,aa ((b.length:Int)<a),b,c)))) fun(a,b,c,d)=>
 ai (b)
 (U (([],c,ae)))
 (af (aa (0<=a)&&aa (a<=(c.length:Int))) (af (aa (0<=a)&&aa (a<=(c.length:Int))&&aa ((c.length:Int)<=(c.length:Int))) (U ((cU (0:Nat) (de a.toNat c),cU a.toNat (de (aw (c.length:Int)) c),d)))))
def tb22:=az 22 (aB 22 ag [(0,[])] WZ W0 pw [.tmp 4] 38 [100000]) tb40
def W3:zTb tb22:=aC WY aI W2 func22 rfl call22
abbrev tM:SPat:=⟨[(0,.ptr 100000 0)],[.box 100000 (pl eX)]⟩
abbrev Ju:SPat:=⟨[(2,.i .i64)],[.box 100000 (pl eX)]⟩
def fB:zBy×Bool->Option (Int×zBy×Bool):=fun(a,b)=>
 ah (pw (1,a,b)) fun(a,b,c)=>
 ai (c)
 (U (((0:Int),b,c)))
 (aq a 0 fun a=>U ((wrap .i64 (a.toNat:Int),b,c)))
def tb24:=az 24 (aB 24 ag [(0,[])] tM Ju fB [.tmp 2] 13 [100000]) tb22
def W4:zTb tb24:=aC W3 aI aR func24 rfl call24
abbrev W5:SPat:=⟨[(0,.ptr 100000 0),(1,.i .i64),(2,.i .i64)],[.box 100000 (pl eX)]⟩
abbrev W6:SPat:=⟨[(6,.i .i64)],[.box 100000 (pl eX)]⟩
def jD:Int×Int×zBy×Bool->Option (Int×zBy×Bool):=fun(a,b,c,d)=>
 ai (aa (b<a))
 (U (((0:Int),c,ae)))
 (U ((a,c,d)))
def tb23:=az 23 (aB 23 ag [(0,[])] W5 W6 jD [.tmp 6] 14 [100000]) tb24
def W7:zTb tb23:=aC W4 aI aR func23 rfl call23
def ff:zBy×Bool->Option (Int×zBy×Bool):=fun(a,b)=>
 ah (fB (a,b)) fun(a,b,c)=>
 ah (fB (b,c)) fun(b,c,d)=>
 U ((wrap .i64 (wrap .i64 ((256:Int)*a)+b),c,d))
def tb26:=az 26 (aB 26 ag [(0,[])] tM Ju ff [.tmp 2] 11 [100000]) tb23
def W8:zTb tb26:=aC W7 aI aR func26 rfl call26
abbrev W9:SPat:=⟨[(2,.ptr 2 0)],[.box 2 (pl dM),.box 100000 (pl eX)]⟩
abbrev W_:SPat:=⟨[(0,.ptr 100000 0),(2,.ptr 2 0),(3,.ptr 3 0),(24,.b)],[.box 2 (pl dM),.box 3 (pl dM),.box 100000 (pl eX)]⟩
abbrev Xa:SPat:=⟨[(2,.ptr 2 0),(3,.ptr 3 0)],[.box 2 (pl dM),.box 3 (pl dM),.box 100000 (pl eX)]⟩
def Xb:Nat->Option SPat:=fun k=>bif k==1000012 then U W_ else bif k==2000000 then U Xa else aj
def yd:zBy×Bool->Option ( Cst×zBy×Bool):=fun(a,b)=>
 ah (fB (a,b)) fun(a,b,c)=>
 bindE (Y :=  Cst×Cst×zBy×Bool) (ai (aa (a=1))
 (ah (fB (b,c)) fun(b,c,d)=>
 ah (pw (b,c,d)) fun(b,c,d)=>
 U (ao (((0:Int),[],(0:Int),(0:Int)),(a,b,(0:Int),(0:Int)),c,d)))
 (ai (aa (a=2))
 (ah (ff (b,c)) fun(b,c,d)=>
 U (ao (((0:Int),[],(0:Int),(0:Int)),(a,[],b,(0:Int)),c,d)))
 (bindE (Y:=Bool×Cst×Cst×zBy×Bool) (ai (aa (a=3))
 (U (ao (ae,((0:Int),[],(0:Int),(0:Int)),(a,[],(0:Int),(0:Int)),b,c)))
 (ai (aa (a=4))
 (U (ao (ae,((0:Int),[],(0:Int),(0:Int)),(a,[],(0:Int),(0:Int)),b,c)))
 (ai (aa (a=5))
 (U (ao (ae,((0:Int),[],(0:Int),(0:Int)),(a,[],(0:Int),(0:Int)),b,c)))
 (U (ao (aa (a=6),((0:Int),[],(0:Int),(0:Int)),(a,[],(0:Int),(0:Int)),b,c)))))) fun(a,(b,c,d,e),(f,g,h,i),j,k)=>
 ai (a)
 (ah (ff (j,k)) fun(a,h,i)=>
 ah (ff (h,i)) fun(h,i,j)=>
 U (ao ((b,c,d,e),(f,g,a,h),i,j)))
 (U (ao ((b,c,d,e),(f,g,h,i),j,ae)))))) fun((_,_,_,_),(a,b,c,d),e,f)=>
 U (((a,b,c,d),e,f))
def tb25:=az 25 (aB 25 ag [(0,[])] tM W9 yd [.cell 2 65] 36 [100000]) tb26
def Xc:zTb tb25:=aC W8 aI Xb func25 rfl call25
def k9:Int->Option Bool:=fun a=>
 U (!aa (dK IntKind.i64 a (8:Int)=0))
def tb32:=az 32 (aB 32 ae [] jb e7 k9 [.tmp 2] 6 []) tb25
def Xd:zTb tb32:=aC Xc aI aR func32 rfl call32
abbrev Xe:SPat:=⟨[(2,.own c9 ae)],[.box 100000 (pl eX)]⟩
abbrev CT:SPat:=⟨[(0,.ptr 100000 0),(3,.own c9 ae),(4,.i .i64)],[.box 100000 (pl eX)]⟩
abbrev Xf:SPat:=⟨[(3,.own c9 ae)],[.box 100000 (pl eX)]⟩
def Xg:Nat->Option SPat:=fun k=>bif k==3 then U CT else bif k==1000005 then U CT else bif k==2000000 then U Xf else bif k==2000001 then U CT else aj
def tN:zBy×Bool->Option (List Knd×zBy×Bool):=fun(a,b)=>
 ah (fB (a,b)) fun(a,b,c)=>
 ah (jD (a,8,b,c)) fun(a,b,c)=>
 bindE (Y:=List Knd×zBy×Bool) (aE (fun(a,b,c,d)=>
 bindE (Y:=List Knd×Int×zBy×Bool) (ai (aa (0<b))
 (ai (!d)
 (U (ao (a,b,c,d)))
 (U (an (an (ao (a,c,d))))))
 (U (an (an (ao (a,c,d)))))) fun(a,b,c,d)=>
 bindE (Y:=List Knd×Int×zBy×Bool) (ah (fB (c,d)) fun(c,d,e)=>
 ah (jD (c,3,d,e)) fun(c,d,e)=>
 ai (aa (c=3))
 (ah (ff (d,e)) fun(d,e,f)=>
 af (aa (a.length+1<=9223372036854775807)&&aa ((a.length+1)*16<=140737488355328)) (U (ao (a++[(c,d)],b,e,f))))
 (af (aa (a.length+1<=9223372036854775807)&&aa ((a.length+1)*16<=140737488355328)) (U (ao (a++[(c,(0:Int))],b,d,e))))) fun(a,b,c,d)=>
 U (ao (a,wrap .i64 (b-1),c,d))) (([],a,b,c))) fun(a,b,c)=>
 U ((a,b,c))
def tb63:=az 63 (aB 63 ag [(0,[])] tM Xe tN [.tmp 2] 37 [100000]) tb32
def Xh:zTb tb63:=aC Xd aI Xg func63 rfl call63
abbrev Xi:SPat:=⟨[(2,.ptr 2 0)],[.box 2 (pl fR),.box 100000 (pl eX)]⟩
abbrev Jv:SPat:=⟨[(0,.ptr 100000 0),(2,.ptr 2 0),(3,.ptr 3 0),(4,.i .i64)],[.box 2 (pl fR),.box 3 (pl fR),.box 100000 (pl eX)]⟩
abbrev Jw:SPat:=⟨[(0,.ptr 100000 0),(2,.ptr 2 0),(3,.ptr 3 0),(6,.i .i64)],[.box 2 (pl fR),.box 3 (pl fR),.box 100000 (pl eX)]⟩
abbrev Xj:SPat:=⟨[(0,.ptr 100000 0),(2,.ptr 2 0),(3,.ptr 3 0)],[.box 2 (pl fR),.box 3 (pl fR),.box 100000 (pl eX)]⟩
abbrev Xk:SPat:=⟨[(2,.ptr 2 0),(3,.ptr 3 0)],[.box 2 (pl fR),.box 3 (pl fR),.box 100000 (pl eX)]⟩
def Xl:Nat->Option SPat:=fun k=>bif k==10 then U Jv else bif k==18 then U Jw else bif k==1000012 then U Jv else bif k==1000020 then U Jw else bif k==2000000 then U Xj else bif k==2000002 then U Xk else aj
def ye:zBy×Bool->Option ( Mth×zBy×Bool):=fun(a,b)=>
 ah (fB (a,b)) fun(a,b,c)=>
 ah (ff (b,c)) fun(b,c,d)=>
 ah (ff (c,d)) fun(c,d,e)=>
 ah (k9 a) fun f=>
 ai (f)
 (U (((a,b,c,(0:Int),(0:Int),[],[],[]),d,e)))
 (ah (fB (d,e)) fun(d,e,f)=>
 ah (fB (e,f)) fun(e,f,g)=>
 ah (ff (f,g)) fun(f,g,h)=>
 ah (jD (f,120,g,h)) fun(f,g,h)=>
 ah (pw (f,g,h)) fun(f,g,h)=>
 ah (fB (g,h)) fun(g,h,i)=>
 ah (jD (g,3,h,i)) fun(g,h,i)=>
 bindE (Y :=  Mth×Mth×zBy×Bool) (aE (fun(a,(b,c,d,e,f,g,h,i),(j,k,l,m,n,o,p,q),r,s)=>
 bindE (Y:=Int×Mth×Mth×zBy×Bool) (ai (aa (0<a))
 (ai (!s)
 (U (ao (a,(b,c,d,e,f,g,h,i),(j,k,l,m,n,o,p,q),r,s)))
 (U (an (an (ao ((b,c,d,e,f,g,h,i),(j,k,l,m,n,o,p,q),r,s))))))
 (U (an (an (ao ((b,c,d,e,f,g,h,i),(j,k,l,m,n,o,p,q),r,s)))))) fun(a,(b,c,d,e,f,g,h,i),(j,k,l,m,n,o,p,q),r,s)=>
 ah (ff (r,s)) fun(r,s,t)=>
 ah (ff (s,t)) fun(s,t,u)=>
 ah (ff (t,u)) fun(t,u,v)=>
 ah (ff (u,v)) fun(u,v,w)=>
 af (aa (p.length+1<=9223372036854775807)&&aa ((p.length+1)*32<=140737488355328)) (U (ao (wrap .i64 (a-1),(b,c,d,e,f,g,h,i),(j,k,l,m,n,o,p++[(r,s,t,u)],q),v,w)))) ((g,((0:Int),(0:Int),(0:Int),(0:Int),(0:Int),[],[],[]),(a,b,c,d,e,f,[],[]),h,i))) fun((a,b,c,d,e,f,g,h),(i,j,k,l,m,n,o,p),q,r)=>
 ah (fB (q,r)) fun(q,r,s)=>
 ah (jD (q,8,r,s)) fun(q,r,s)=>
 bindE (Y :=  Mth×Mth×zBy×Bool) (aE (fun(a,(b,c,d,e,f,g,h,i),(j,k,l,m,n,o,p,q),r,s)=>
 bindE (Y:=Int×Mth×Mth×zBy×Bool) (ai (aa (0<a))
 (ai (!s)
 (U (ao (a,(b,c,d,e,f,g,h,i),(j,k,l,m,n,o,p,q),r,s)))
 (U (an (an (ao ((b,c,d,e,f,g,h,i),(j,k,l,m,n,o,p,q),r,s))))))
 (U (an (an (ao ((b,c,d,e,f,g,h,i),(j,k,l,m,n,o,p,q),r,s)))))) fun(a,(b,c,d,e,f,g,h,i),(j,k,l,m,n,o,p,q),r,s)=>
 ah (ff (r,s)) fun(r,s,t)=>
 ah (tN (s,t)) fun(s,t,u)=>
 ah (tN (t,u)) fun(t,u,v)=>
 af (aa (q.length+1<=9223372036854775807)&&aa ((q.length+1)*56<=140737488355328)) (U (ao (wrap .i64 (a-1),(b,c,d,e,f,g,h,i),(j,k,l,m,n,o,p,q++[(r,s,t)]),u,v)))) ((q,(a,b,c,d,e,f,g,h),(i,j,k,l,m,n,o,p),r,s))) fun((_,_,_,_,_,_,_,_),(a,b,c,d,e,f,g,h),i,j)=>
 U (((a,b,c,d,e,f,g,h),i,j)))
def tb27:=az 27 (aB 27 ag [(0,[])] tM Xi ye [.cell 2 72] 98 [100000]) tb63
def Xm:zTb tb27:=aC Xh aI Xl func27 rfl call27
abbrev Jx:SPat:=⟨[(2,.ptr 2 0),(4,.ptr 17 0),(5,.ptr 5 0),(6,.i .i64)],[.box 2 (pl eW),.box 5 (pl eW),.box 17 (pl eX)]⟩
abbrev Jy:SPat:=⟨[(2,.ptr 2 0),(4,.ptr 17 0),(5,.ptr 5 0),(7,.i .i64)],[.box 2 (pl eW),.box 5 (pl eW),.box 17 (pl eX)]⟩
abbrev Jz:SPat:=⟨[(2,.ptr 2 0),(4,.ptr 17 0),(5,.ptr 5 0),(8,.i .i64)],[.box 2 (pl eW),.box 5 (pl eW),.box 17 (pl eX)]⟩
abbrev JA:SPat:=⟨[(2,.ptr 2 0),(4,.ptr 17 0),(5,.ptr 5 0),(10,.i .i64)],[.box 2 (pl eW),.box 5 (pl eW),.box 17 (pl eX)]⟩
abbrev yf:SPat:=⟨[(2,.ptr 2 0),(4,.ptr 17 0),(5,.ptr 5 0)],[.box 2 (pl eW),.box 5 (pl eW),.box 17 (pl eX)]⟩
def Xn:Nat->Option SPat:=fun k=>bif k==8 then U Jx else bif k==15 then U Jy else bif k==19 then U Jz else bif k==26 then U JA else bif k==1000010 then U Jx else bif k==1000017 then U Jy else bif k==1000021 then U Jz else bif k==1000028 then U JA else bif k==2000000 then U yf else bif k==2000002 then U yf else bif k==2000004 then U yf else bif k==2000006 then U yf else aj
def Xo:Nat->List Nat×a_:=fun id=>bif id==10 then(hZ,(.br 3 [2] [0,1] [] (.br 4 [3,2] [0,1] [] (.br 5 iE [] [6] (.br 7 dv [] [] .fin .fin) .fin) .fin) .fin))else bif id==17 then(hZ,(.br 3 [2] [0,1] [] (.br 4 [3,2] [0,1] [] (.br 5 iE [] [6] (.br 7 dv [] [] .fin .fin) .fin) .fin) .fin))else bif id==28 then(hZ,(.br 3 [2] [0,1] [] (.br 4 [3,2] [0,1] [] (.br 5 iE [] [6] (.br 7 dv [] [] .fin .fin) .fin) .fin) .fin))else([],.fin)
def F8:zBy->Option (Bool×Cls):=fun a=>
 ai (aa (900<(a.length:Int)))
 (U ((ag,[],(0:Int),(0:Int),(0:Int),[],[],[])))
 (ah (pw (4,a,ag)) fun(a,b,c)=>
 ai (!aa (a=[(83:UInt8),84,79,87]))
 (U ((ag,[],(0:Int),(0:Int),(0:Int),[],[],[])))
 (ah (fB (b,c)) fun(a,b,c)=>
 ah (jD (a,60,b,c)) fun(a,b,c)=>
 bindE (Y :=  Cls×Cls×zBy×Bool) (aE (fun(a,(b,c,d,e,f,g,h),(i,j,k,l,m,n,o),p,q)=>
 bindE (Y:=Int×Cls×Cls×zBy×Bool) (ai (aa (0<a))
 (ai (!q)
 (U (ao (a,(b,c,d,e,f,g,h),(i,j,k,l,m,n,o),p,q)))
 (U (an (an (ao ((b,c,d,e,f,g,h),(i,j,k,l,m,n,o),p,q))))))
 (U (an (an (ao ((b,c,d,e,f,g,h),(i,j,k,l,m,n,o),p,q)))))) fun(a,(b,c,d,e,f,g,h),(i,j,k,l,m,n,o),p,q)=>
 ah (yd (p,q)) fun((p,q,r,s),t,u)=>
 af (aa (i.length+1<=9223372036854775807)&&aa ((i.length+1)*40<=140737488355328)) (U (ao (wrap .i64 (a-1),(b,c,d,e,f,g,h),(i++[(p,q,r,s)],j,k,l,m,n,o),t,u)))) ((a,([],(0:Int),(0:Int),(0:Int),[],[],[]),([],(0:Int),(0:Int),(0:Int),[],[],[]),b,c))) fun((a,b,c,d,e,f,g),(h,_,_,_,i,j,k),l,m)=>
 ah (fB (l,m)) fun(l,m,n)=>
 ah (ff (m,n)) fun(m,n,o)=>
 ah (ff (n,o)) fun(n,o,p)=>
 ah (fB (o,p)) fun(o,p,q)=>
 ah (jD (o,3,p,q)) fun(o,p,q)=>
 bindE (Y :=  Cls×Cls×zBy×Bool) (aE (fun(a,(b,c,d,e,f,g,h),(i,j,k,l,m,n,o),p,q)=>
 bindE (Y:=Int×Cls×Cls×zBy×Bool) (ai (aa (0<a))
 (ai (!q)
 (U (ao (a,(b,c,d,e,f,g,h),(i,j,k,l,m,n,o),p,q)))
 (U (an (an (ao ((b,c,d,e,f,g,h),(i,j,k,l,m,n,o),p,q))))))
 (U (an (an (ao ((b,c,d,e,f,g,h),(i,j,k,l,m,n,o),p,q)))))) fun(a,(b,c,d,e,f,g,h),(i,j,k,l,m,n,o),p,q)=>
 ah (ff (p,q)) fun(p,q,r)=>
 af (aa (m.length+1<=9223372036854775807)&&aa ((m.length+1)*8<=140737488355328)) (U (ao (wrap .i64 (a-1),(b,c,d,e,f,g,h),(i,j,k,l,m++[p],n,o),q,r)))) ((o,(a,b,c,d,e,f,g),(h,l,m,n,i,j,k),p,q))) fun((a,b,c,d,e,f,g),(h,i,j,k,l,m,n),o,p)=>
 ah (fB (o,p)) fun(o,p,q)=>
 ah (jD (o,5,p,q)) fun(o,p,q)=>
 bindE (Y :=  Cls×Cls×zBy×Bool) (aE (fun(a,(b,c,d,e,f,g,h),(i,j,k,l,m,n,o),p,q)=>
 bindE (Y:=Int×Cls×Cls×zBy×Bool) (ai (aa (0<a))
 (ai (!q)
 (U (ao (a,(b,c,d,e,f,g,h),(i,j,k,l,m,n,o),p,q)))
 (U (an (an (ao ((b,c,d,e,f,g,h),(i,j,k,l,m,n,o),p,q))))))
 (U (an (an (ao ((b,c,d,e,f,g,h),(i,j,k,l,m,n,o),p,q)))))) fun(a,(b,c,d,e,f,g,h),(i,j,k,l,m,n,o),p,q)=>
 ah (fB (p,q)) fun(p,q,r)=>
 ah (ff (q,r)) fun(q,r,s)=>
 ah (ff (r,s)) fun(r,s,t)=>
 af (aa (n.length+1<=9223372036854775807)&&aa ((n.length+1)*24<=140737488355328)) (U (ao (wrap .i64 (a-1),(b,c,d,e,f,g,h),(i,j,k,l,m,n++[(p,q,r)],o),s,t)))) ((o,(a,b,c,d,e,f,g),(h,i,j,k,l,m,n),p,q))) fun((a,b,c,d,e,f,g),(h,i,j,k,l,m,n),o,p)=>
 ah (fB (o,p)) fun(o,p,q)=>
 ah (jD (o,6,p,q)) fun(o,p,q)=>
 bindE (Y :=  Cls×Cls×zBy×Bool) (aE (fun(a,(b,c,d,e,f,g,h),(i,j,k,l,m,n,o),p,q)=>
 bindE (Y:=Int×Cls×Cls×zBy×Bool) (ai (aa (0<a))
 (ai (!q)
 (U (ao (a,(b,c,d,e,f,g,h),(i,j,k,l,m,n,o),p,q)))
 (U (an (an (ao ((b,c,d,e,f,g,h),(i,j,k,l,m,n,o),p,q))))))
 (U (an (an (ao ((b,c,d,e,f,g,h),(i,j,k,l,m,n,o),p,q)))))) fun(a,(b,c,d,e,f,g,h),(i,j,k,l,m,n,o),p,q)=>
 ah (ye (p,q)) fun((p,q,r,s,t,u,v,w),x,y)=>
 af (aa (o.length+1<=9223372036854775807)&&aa ((o.length+1)*104<=140737488355328)) (U (ao (wrap .i64 (a-1),(b,c,d,e,f,g,h),(i,j,k,l,m,n,o++[(p,q,r,s,t,u,v,w)]),x,y)))) ((o,(a,b,c,d,e,f,g),(h,i,j,k,l,m,n),p,q))) fun((_,_,_,_,_,_,_),(a,b,c,d,e,f,g),h,i)=>
 ai (i)
 (U ((ag,[],(0:Int),(0:Int),(0:Int),[],[],[])))
 (ai (!aa (h=[]))
 (U ((ag,[],(0:Int),(0:Int),(0:Int),[],[],[])))
 (U ((ae,a,b,c,d,e,f,g))))))
def tb8:=az 8 (aB 8 ae [] fy CK F8 [.cell 2 36,.tmp 3] 140 []) tb27
def Xp:zTb tb8:=aC Xm Xo Xn func8 rfl call8
abbrev Xq:SPat:=⟨[(1,.ptr 1 0),(32,.sl cD),(33,.i .i64),(34,.i .i64)],iG⟩
abbrev CU:SPat:=⟨[(44,.sl cE),(45,.i .i64),(46,.i .i64)],[]⟩
abbrev JB:SPat:=⟨[(44,.sl cE),(45,.i .i64),(46,.i .i64),(67,.sl cO),(68,.i .i64),(69,.i .i64)],[]⟩
abbrev qX:SPat:=⟨[(1,.ptr 1 0)],iG⟩
abbrev Xr:SPat:=⟨[(6,.ptr 6 0),(44,.sl cE),(45,.i .i64),(46,.i .i64)],[.box 6 (pl cy)]⟩
def Xs:Nat->Option SPat:=fun k=>bif k==4 then U Xq else bif k==10 then U CU else bif k==15 then U JB else bif k==1000003 then U qX else bif k==1000014 then U Xr else bif k==2000000 then U qX else bif k==2000002 then U dH else bif k==2000003 then U CU else bif k==2000004 then U CU else bif k==2000005 then U JB else aj
def yg:Cls->Option Bool:=fun(a,b,c,d,e,f,g)=>
 bindE (Y:=Cls) (ai (aa (60<(a.length:Int)))
 (U (an ag))
 (ai (aa (3<(e.length:Int)))
 (U (an ag))
 (ai (aa (5<(f.length:Int)))
 (U (an ag))
 (ai (aa (6<(g.length:Int)))
 (U (an ag))
 (U (ao (a,b,c,d,e,f,g))))))) fun(a,b,c,d,e,f,g)=>
 bindE (Y:=Cls) (aE (fun(a,b,c,d,e,f,g,h,i,j)=>
 ai (aa (c<b))
 (af (aa (0<=c)) (aq a c.toNat fun k=>ai (aa (255<(k.2.1.length:Int)))
 (U (an (an ag)))
 (U (ao (a,b,wrap .i64 (c+1),d,e,f,g,h,i,j)))))
 (U (an (ao (d,e,f,g,h,i,j))))) ((a,(a.length:Int),(0:Int),a,b,c,d,e,f,g))) fun(_,_,_,_,_,_,a)=>
 bindE (aE (fun(a,b,c)=>
 ai (aa (c<b))
 (bindE (Y:=List Mth×Int×Int) (af (aa (0<=c)) (aq a c.toNat fun d=>bindE (Y:=List Mth×Int×Int×Mth) (ai (aa (120<(d.2.2.2.2.2.1.length:Int)))
 (U (an (an (an (an ag)))))
 (ai (aa (3<(d.2.2.2.2.2.2.1.length:Int)))
 (U (an (an (an (an ag)))))
 (ai (aa (8<(d.2.2.2.2.2.2.2.length:Int)))
 (U (an (an (an (an ag)))))
 (U (ao (a,b,c,d.1,d.2.1,d.2.2.1,d.2.2.2.1,d.2.2.2.2.1,d.2.2.2.2.2.1,d.2.2.2.2.2.2.1,d.2.2.2.2.2.2.2)))))) fun(a,b,c,_,_,_,_,_,_,_,d)=>
 bindE (Y:=List Mth×Int×Int) (aE (fun(a,b,c,d,e,f)=>
 ai (aa (f<e))
 (bindE (Y:=List Mth×Int×Int×List Frm×Int×Int) (af (aa (0<=f)) (aq d f.toNat fun g=>ai (aa (8<(g.2.1.length:Int)))
 (U (an (an (an (an (an (an ag)))))))
 (ai (aa (8<(g.2.2.length:Int)))
 (U (an (an (an (an (an (an ag)))))))
 (U (ao (a,b,c,d,e,f)))))) fun(a,b,c,d,e,f)=>
 U (ao (a,b,c,d,e,wrap .i64 (f+1))))
 (U (an (ao (a,b,c))))) ((a,b,c,d,(d.length:Int),(0:Int)))) fun(a,b,c)=>
 U (ao (a,b,c)))) fun(a,b,c)=>
 U (ao (a,b,wrap .i64 (c+1))))
 (U (an (ao ())))) ((a,(a.length:Int),(0:Int)))) fun _=>
 U (ae)
def tb34:=az 34 (aB 34 ae [] gQ e7 yg [.tmp 2] 85 []) tb8
def Xt:zTb tb34:=aC Xp aI Xs func34 rfl call34
def eB:Int->Option zBy:=fun a=>
 af (aa (0<=wrap .u8 a)&&aa (wrap .u8 a<=255)) (U ([UInt8.ofNat (aw (wrap .u8 a))]))
def tb86:=az 86 (aB 86 ae [] jb fW eB [.tmp 2] 7 []) tb34
def Xu:zTb tb86:=aC Xt aI aR func86 rfl call86
def fg:Int->Option zBy:=fun a=>
 ah (eB (Int.fdiv a 256)) fun b=>
 ah (eB a) fun a=>
 af (aa (b.length+a.length<=9223372036854775807)) (U (b++a))
def tb87:=az 87 (aB 87 ae [] jb fW fg [.tmp 2] 9 []) tb86
def Xv:zTb tb87:=aC Xu aI aR func87 rfl call87
abbrev JC:SPat:=⟨[(3,.s),(9,.sl c9),(10,.i .i64),(11,.i .i64)],[]⟩
def Xw:Nat->Option SPat:=fun k=>bif k==3 then U JC else bif k==2000000 then U qR else bif k==2000001 then U JC else aj
def tO:List Knd->Option zBy:=fun a=>
 ah (eB a.length) fun b=>
 bindE (Y:=zBy) (aE (fun(a,b,c,d)=>
 ai (aa (d<c))
 (bindE (Y:=zBy×List Knd×Int×Int) (af (aa (0<=d)) (aq b d.toNat fun e=>ah (eB e.1) fun f=>
 af (aa (a.length+f.length<=9223372036854775807)) (ai (aa (e.1=3))
 (ah (fg e.2) fun e=>
 af (aa (au (a++f)+e.length<=9223372036854775807)) (U (ao (a++f++e,b,c,d))))
 (U (ao (a++f,b,c,d)))))) fun(a,b,c,d)=>
 U (ao (a,b,c,wrap .i64 (d+1))))
 (U (an (ao a)))) ((b,a,(a.length:Int),(0:Int)))) fun a=>
 U (a)
def tb88:=az 88 (aB 88 ae [] CG fW tO [.tmp 2] 30 []) tb87
def Xx:zTb tb88:=aC Xv aI Xw func88 rfl call88
abbrev JD:SPat:=⟨[(1,.ptr 1 0),(3,.s),(22,.sl cD),(23,.i .i64),(24,.i .i64)],iG⟩
abbrev Xy:SPat:=⟨[(1,.ptr 1 0),(3,.s),(82,.sl (.int .i64)),(83,.i .i64),(84,.i .i64)],iG⟩
abbrev Xz:SPat:=⟨[(1,.ptr 1 0),(3,.s),(100,.sl bA),(101,.i .i64),(102,.i .i64)],iG⟩
abbrev CV:SPat:=⟨[(3,.s),(127,.sl cE),(128,.i .i64),(129,.i .i64)],[]⟩
abbrev XA:SPat:=⟨[(3,.s),(11,.ptr 11 0),(127,.sl cE),(128,.i .i64),(129,.i .i64),(172,.sl hY),(173,.i .i64),(174,.i .i64)],[.box 11 (pl cy)]⟩
abbrev XB:SPat:=⟨[(3,.s),(127,.sl cE),(128,.i .i64),(129,.i .i64),(203,.sl cO),(204,.i .i64),(205,.i .i64)],[]⟩
abbrev XC:SPat:=⟨[(3,.s),(11,.ptr 11 0),(127,.sl cE),(128,.i .i64),(129,.i .i64)],[.box 11 (pl cy)]⟩
def XD:Nat->Option SPat:=fun k=>bif k==3 then U JD else bif k==15 then U Xy else bif k==21 then U Xz else bif k==27 then U CV else bif k==33 then U XA else bif k==39 then U XB else bif k==2000000 then U mE else bif k==2000002 then U JD else bif k==2000003 then U mE else bif k==2000005 then U mE else bif k==2000007 then U qR else bif k==2000008 then U CV else bif k==2000009 then U XC else bif k==2000011 then U CV else aj
def XE:Nat->List Nat×a_:=fun id=>bif id==9 then([0,1,2,3,5,6],(.br 4 [3,2,1] [0,5,6] [7,8] (.br 9 gq [] [] .fin .fin) .fin))else bif id==7 then([0,1,2,4,5],(.br 3 [2,1] [0,4,5] [] (.br 6 mA [0] [7,8] (.br 9 gq [] [] .fin .fin) .fin) .fin))else bif id==13 then([0,1,2,4,5,8,9,12,13,14],(.br 3 [2,1] [0,4,5,8,9,12,13,14] [] (.br 6 mA [0,8,9,12,13,14] [7] (.br 10 s8 [0,12,13,14,7] [11] (.br 15 [14,13,12,10,9,8,6,5,4,3,2,1] [0,7,11] [16,17] (.br 18 mz [] [] .fin .fin) .fin) .fin) .fin) .fin))else bif id==23 then([0,1,2,4,5,8,9],(.br 3 [2,1] [0,4,5,8,9] [] (.br 6 mA [0,8,9] [7] (.br 10 s8 [0,7] [11,12] (.br 13 jA [] [] .fin .fin) .fin) .fin) .fin))else bif id==29 then([0,1,2,4,5,8,9],(.br 3 [2,1] [0,4,5,8,9] [] (.br 6 mA [0,8,9] [7] (.br 10 s8 [0,7] [11,12] (.br 13 jA [] [] .fin .fin) .fin) .fin) .fin))else bif id==31 then([0,1,2,4,5,8,9,10,13,14,16,17,18],(.br 3 [2,1] [0,4,5,8,9,10,13,14,16,17,18] [] (.br 6 mA [0,8,9,10,13,14,16,17,18] [7] (.br 11 [10,9,8,6,5,4,3,2,1] [0,13,14,16,17,18,7] [12,15] (.br 19 [18,17,16,11,10,9,8,6,5,4,3,2,1] [0,13,14,7,12,15] [20,21] (.br 22 wK [] [] .fin .fin) .fin) .fin) .fin) .fin))else bif id==35 then([0,1,2,4,5,8,9,12,13],(.br 3 [2,1] [0,4,5,8,9,12,13] [] (.br 6 mA [0,8,9,12,13] [7] (.br 10 s8 [0,12,13,7] [11] (.br 14 [13,12,10,9,8,6,5,4,3,2,1] [0,7,11] [15,16] (.br 17 jC [] [] .fin .fin) .fin) .fin) .fin) .fin))else bif id==41 then([0,1,2,4,5,8,9],(.br 3 [2,1] [0,4,5,8,9] [] (.br 6 mA [0,8,9] [7] (.br 10 s8 [0,7] [11,12] (.br 13 jA [] [] .fin .fin) .fin) .fin) .fin))else([],.fin)
def yh:Cls->Option zBy:=fun(a,b,c,d,e,f,g)=>ah (eB a.length) fun h=>af (aa ((4:Nat)+h.length<=9223372036854775807)) (bindE (Y:=zBy×Cls) (aE (fun(a,b,c,d,e,f,g,h,i,j,k)=>ai (aa (d<c)) (af (aa (0<=d)) (aq b d.toNat fun l=>ah (eB l.1) fun m=>af (aa (a.length+m.length<=9223372036854775807)) (bindE (Y:=zBy×List Cst×Int×Int×Cls) (ai (aa (l.1=1)) (ah (eB l.2.1.length) fun n=>ak (ak (af (aa (a++m=a++m)) (U ())) (ak (af (aa (l.2.1=l.2.1)) (U ())) (U ()))) (af (aa (n.length+l.2.1.length<=9223372036854775807)) (af (aa (au (a++m)+au (n++l.2.1)<=9223372036854775807)) (U (ao (a++m++(n++l.2.1),b,c,d,e,f,g,h,i,j,k)))))) (ai (aa (l.1=2)) (ah (fg l.2.2.1) fun l=>af (aa (au (a++m)+l.length<=9223372036854775807)) (U (ao (a++m++l,b,c,d,e,f,g,h,i,j,k)))) (ah (fg l.2.2.1) fun n=>ak (ak (af (aa (a++m=a++m)) (U ())) (ak (af (aa (l.2.2.2=l.2.2.2)) (U ())) (U ()))) (ah (fg l.2.2.2) fun l=>ak (ak (af (aa (a++m=a++m)) (U ())) (U ())) (af (aa (n.length+l.length<=9223372036854775807)) (af (aa (au (a++m)+au (n++l)<=9223372036854775807)) (U (ao (a++m++(n++l),b,c,d,e,f,g,h,i,j,k))))))))) fun(a,b,c,d,e,f,g,h,i,j,k)=>U (ao (a,b,c,wrap .i64 (d+1),e,f,g,h,i,j,k))))) (U (an (ao (a,e,f,g,h,i,j,k))))) (([(83:UInt8),84,79,87]++h,a,(a.length:Int),(0:Int),a,b,c,d,e,f,g))) fun(a,b,c,d,e,f,g,h)=>ah (eB c) fun i=>ak (ak (af (aa (a=a)) (U ())) (ak (af (aa (d=d)) (U ())) (ak (af (aa (e=e)) (U ())) (ak (af (aa (f=f)) (U ())) (ak (af (aa ((f.length:Int)=(f.length:Int))) (U ())) (U ())))))) (ah (fg d) fun j=>ak (ak (af (aa (a=a)) (U ())) (ak (af (aa (e=e)) (U ())) (ak (af (aa (f=f)) (U ())) (ak (af (aa ((f.length:Int)=(f.length:Int))) (U ())) (U ()))))) (af (aa (i.length+j.length<=9223372036854775807)) (ah (fg e) fun k=>ak (ak (af (aa (a=a)) (U ())) (ak (af (aa (f=f)) (U ())) (ak (af (aa ((f.length:Int)=(f.length:Int))) (U ())) (ak (af (aa (i.length+j.length<=9223372036854775807)) (af (aa (i++j=i++j)) (U ()))) (U ()))))) (af (aa (au (i++j)+k.length<=9223372036854775807)) (ah (eB f.length) fun l=>ak (ak (af (aa (a=a)) (U ())) (ak (af (aa (i.length+j.length<=9223372036854775807)) (af (aa (i++j=i++j)) (U ()))) (ak (af (aa (au (i++j)+k.length<=9223372036854775807)) (af (aa (i++j++k=i++j++k)) (U ()))) (U ())))) (af (aa (au (i++j++k)+l.length<=9223372036854775807)) (af (aa (a.length+au (i++j++k++l)<=9223372036854775807)) (bindE (Y:=zBy×Cls) (aE (fun(a,b,c,d,e,f,g,h,i,j,k)=>ai (aa (d<c)) (af (aa (0<=d)) (aq b d.toNat fun l=>ah (fg l) fun l=>af (aa (a.length+l.length<=9223372036854775807)) (U (ao (a++l,b,c,wrap .i64 (d+1),e,f,g,h,i,j,k))))) (U (an (ao (a,e,f,g,h,i,j,k))))) ((a++(i++j++k++l),f,(f.length:Int),(0:Int),b,c,d,e,f,g,h))) fun(a,b,c,d,e,f,g,h)=>ah (eB g.length) fun i=>af (aa (a.length+i.length<=9223372036854775807)) (bindE (Y:=zBy×Cls) (aE (fun(a,b,c,d,e,f,g,h,i,j,k)=>ai (aa (d<c)) (af (aa (0<=d)) (aq b d.toNat fun l=>ah (eB l.1) fun m=>ak (ak (af (aa (a=a)) (U ())) (ak (af (aa (l.2.1=l.2.1)) (U ())) (ak (af (aa (l.2.2=l.2.2)) (U ())) (U ())))) (ah (fg l.2.1) fun n=>ak (ak (af (aa (a=a)) (U ())) (ak (af (aa (l.2.2=l.2.2)) (U ())) (U ()))) (af (aa (m.length+n.length<=9223372036854775807)) (ah (fg l.2.2) fun l=>ak (ak (af (aa (a=a)) (U ())) (ak (af (aa (m.length+n.length<=9223372036854775807)) (af (aa (m++n=m++n)) (U ()))) (U ()))) (af (aa (au (m++n)+l.length<=9223372036854775807)) (af (aa (a.length+au (m++n++l)<=9223372036854775807)) (U (ao (a++(m++n++l),b,c,wrap .i64 (d+1),e,f,g,h,i,j,k)))))))))) (U (an (ao (a,e,f,g,h,i,j,k))))) ((a++i,g,(g.length:Int),(0:Int),b,c,d,e,f,g,h))) fun(a,_,_,_,_,_,_,b)=>ah (eB b.length) fun c=>af (aa (a.length+c.length<=9223372036854775807)) (bindE (Y:=zBy) (aE (fun(a,b,c,d)=>ai (aa (d<c)) (bindE (Y:=zBy×List Mth×Int×Int) (af (aa (0<=d)) (aq b d.toNat fun e=>ah (eB e.1) fun f=>ak (ak (af (aa (a=a)) (U ())) (ak (af (aa (e.2.1=e.2.1)) (U ())) (ak (af (aa (e.2.2.1=e.2.2.1)) (U ())) (U ())))) (ah (fg e.2.1) fun g=>ak (ak (af (aa (a=a)) (U ())) (ak (af (aa (e.2.2.1=e.2.2.1)) (U ())) (U ()))) (af (aa (f.length+g.length<=9223372036854775807)) (ah (fg e.2.2.1) fun h=>ak (ak (af (aa (a=a)) (U ())) (ak (af (aa (f.length+g.length<=9223372036854775807)) (af (aa (f++g=f++g)) (U ()))) (U ()))) (af (aa (au (f++g)+h.length<=9223372036854775807)) (af (aa (a.length+au (f++g++h)<=9223372036854775807)) (ah (k9 e.1) fun i=>ai i (U (ao (a++(f++g++h),b,c,d))) (ah (eB e.2.2.2.1) fun i=>let j:=af (aa ((e.2.2.2.2.2.2.1.length:Int)=(e.2.2.2.2.2.2.1.length:Int))) (U ());let k:=ak (af (aa (e.2.2.2.2.2.1=e.2.2.2.2.2.1)) (U ())) (ak (af (aa ((e.2.2.2.2.2.1.length:Int)=(e.2.2.2.2.2.1.length:Int))) (U ())) (ak (af (aa (e.2.2.2.2.2.1=e.2.2.2.2.2.1)) (U ())) (ak (af (aa (e.2.2.2.2.2.2.1=e.2.2.2.2.2.2.1)) (U ())) (ak j (U ())))));ak (ak (af (aa (a++(f++g++h)=a++(f++g++h))) (U ())) (ak (af (aa (e.2.2.2.2.1=e.2.2.2.2.1)) (U ())) k)) (ah (eB e.2.2.2.2.1) fun l=>ak (ak (af (aa (a++(f++g++h)=a++(f++g++h))) (U ())) k) (af (aa (i.length+l.length<=9223372036854775807)) (ah (fg e.2.2.2.2.2.1.length) fun k=>ak (ak (af (aa (a++(f++g++h)=a++(f++g++h))) (U ())) (ak (af (aa (e.2.2.2.2.2.1=e.2.2.2.2.2.1)) (U ())) (ak (af (aa (e.2.2.2.2.2.2.1=e.2.2.2.2.2.2.1)) (U ())) (ak j (ak (af (aa (i.length+l.length<=9223372036854775807)) (af (aa (i++l=i++l)) (U ()))) (U ())))))) (af (aa (au (i++l)+k.length<=9223372036854775807)) (af (aa (au (i++l++k)+e.2.2.2.2.2.1.length<=9223372036854775807)) (ah (eB e.2.2.2.2.2.2.1.length) fun j=>ak (ak (af (aa (a++(f++g++h)=a++(f++g++h))) (U ())) (ak (af (aa (e.2.2.2.2.2.1=e.2.2.2.2.2.1)) (U ())) (ak (af (aa (i.length+l.length<=9223372036854775807)) (af (aa (i++l=i++l)) (U ()))) (ak (af (aa (au (i++l)+k.length<=9223372036854775807)) (af (aa (i++l++k=i++l++k)) (U ()))) (ak (af (aa (au (i++l++k)+e.2.2.2.2.2.1.length<=9223372036854775807)) (af (aa (i++l++k++e.2.2.2.2.2.1=i++l++k++e.2.2.2.2.2.1)) (U ()))) (U ())))))) (af (aa (au (i++l++k++e.2.2.2.2.2.1)+j.length<=9223372036854775807)) (af (aa (au (a++(f++g++h))+au (i++l++k++e.2.2.2.2.2.1++j)<=9223372036854775807)) (bindE (Y:=zBy×List Mth×Int×Int×Mth) (aE (fun(a,b,c,d,e,f,g,h,i,j,k,l,m,n,o)=>ai (aa (g<f)) (af (aa (0<=g)) (aq e g.toNat fun p=>ah (fg p.1) fun q=>let r:=ak (af (aa (p.2.2.1=p.2.2.1)) (U ())) (ak (af (aa (p.2.2.2=p.2.2.2)) (U ())) (U ()));ak (ak (af (aa (a=a)) (U ())) (ak (af (aa (p.2.1=p.2.1)) (U ())) r)) (ah (fg p.2.1) fun s=>ak (ak (af (aa (a=a)) (U ())) r) (af (aa (q.length+s.length<=9223372036854775807)) (ah (fg p.2.2.1) fun r=>ak (ak (af (aa (a=a)) (U ())) (ak (af (aa (p.2.2.2=p.2.2.2)) (U ())) (ak (af (aa (q.length+s.length<=9223372036854775807)) (af (aa (q++s=q++s)) (U ()))) (U ())))) (af (aa (au (q++s)+r.length<=9223372036854775807)) (ah (fg p.2.2.2) fun p=>ak (ak (af (aa (a=a)) (U ())) (ak (af (aa (q.length+s.length<=9223372036854775807)) (af (aa (q++s=q++s)) (U ()))) (ak (af (aa (au (q++s)+r.length<=9223372036854775807)) (af (aa (q++s++r=q++s++r)) (U ()))) (U ())))) (af (aa (au (q++s++r)+p.length<=9223372036854775807)) (af (aa (a.length+au (q++s++r++p)<=9223372036854775807)) (U (ao (a++(q++s++r++p),b,c,d,e,f,wrap .i64 (g+1),h,i,j,k,l,m,n,o)))))))))))) (U (an (ao (a,b,c,d,h,i,j,k,l,m,n,o))))) ((a++(f++g++h)++(i++l++k++e.2.2.2.2.2.1++j),b,c,d,e.2.2.2.2.2.2.1,(e.2.2.2.2.2.2.1.length:Int),(0:Int),e.1,e.2.1,e.2.2.1,e.2.2.2.1,e.2.2.2.2.1,e.2.2.2.2.2.1,e.2.2.2.2.2.2.1,e.2.2.2.2.2.2.2))) fun(a,b,c,d,_,_,_,_,_,_,_,e)=>ah (eB e.length) fun f=>af (aa (a.length+f.length<=9223372036854775807)) (bindE (Y:=zBy×List Mth×Int×Int) (aE (fun(a,b,c,d,e,f,g)=>ai (aa (g<f)) (af (aa (0<=g)) (aq e g.toNat fun h=>ah (fg h.1) fun i=>ak (ak (af (aa (a=a)) (U ())) (ak (af (aa (h.2.1=h.2.1)) (U ())) (ak (af (aa (h.2.2=h.2.2)) (U ())) (U ())))) (ah (tO h.2.1) fun j=>ak (ak (af (aa (a=a)) (U ())) (ak (af (aa (h.2.2=h.2.2)) (U ())) (U ()))) (af (aa (i.length+j.length<=9223372036854775807)) (ah (tO h.2.2) fun h=>ak (ak (af (aa (a=a)) (U ())) (ak (af (aa (i.length+j.length<=9223372036854775807)) (af (aa (i++j=i++j)) (U ()))) (U ()))) (af (aa (au (i++j)+h.length<=9223372036854775807)) (af (aa (a.length+au (i++j++h)<=9223372036854775807)) (U (ao (a++(i++j++h),b,c,d,e,f,wrap .i64 (g+1))))))))))) (U (an (ao (a,b,c,d))))) ((a++f,b,c,d,e,(e.length:Int),(0:Int)))) fun(a,b,c,d)=>U (ao (a,b,c,d))))))))))))))))))))) fun(a,b,c,d)=>U (ao (a,b,c,wrap .i64 (d+1)))) (U (an (ao a)))) ((a++c,b,(b.length:Int),(0:Int)))) fun a=>U a)))))))))))
def tb35:=az 35 (aB 35 ae [] gQ fW yh [.tmp 2] 225 []) tb88
def XF:zTb tb35:=aC Xx XE XD func35 rfl call35
abbrev XG:SPat:=⟨[(0,.sl cD),(1,.sl cD),(12,.i .i64),(13,.i .i64)],[]⟩
def XH:Nat->Option SPat:=fun k=>bif k==4 then U XG else bif k==2000000 then U dH else aj
def XI:Nat->List Nat×a_:=fun id=>bif id==6 then(lN,.fin)else([],.fin)
def yi:List Cst×List Cst->Option Bool:=fun(a,b)=>
 ai (!aa ((a.length:Int)=(b.length:Int)))
 (U ag)
 (bindE (aE (fun(a,b,c,d)=>
 ai (aa (d<c))
 (af (aa (0<=d)) (aq a d.toNat fun e=>af (aa (0<=d)) (aq b d.toNat fun f=>ai (!(aa (e.1=f.1)&&(aa (e.2.1=f.2.1)&&(aa (e.2.2.1=f.2.2.1)&&(aa (e.2.2.2=f.2.2.2)&&ae)))))
 (U (an (an ag)))
 (U (ao (a,b,c,wrap .i64 (d+1)))))))
 (U (an (ao ())))) ((a,b,(a.length:Int),(0:Int)))) fun _=>
 U ae)
def tb89:=az 89 (aB 89 ae [] I2 dp yi [.tmp 4] 26 []) tb35
def XJ:zTb tb89:=aC XF XI XH func89 rfl call89
abbrev XK:SPat:=⟨[(0,.sl (.int .i64)),(1,.sl (.int .i64))],[]⟩
abbrev XL:SPat:=⟨[(0,.sl (.int .i64)),(1,.sl (.int .i64)),(12,.i .i64),(13,.i .i64)],[]⟩
def XM:Nat->Option SPat:=fun k=>bif k==4 then U XL else bif k==2000000 then U dH else aj
def XN:Nat->List Nat×a_:=fun id=>bif id==6 then(lN,.fin)else([],.fin)
def yj:List Int×List Int->Option Bool:=fun(a,b)=>
 ai (!aa ((a.length:Int)=(b.length:Int)))
 (U ag)
 (bindE (aE (fun(a,b,c,d)=>
 ai (aa (d<c))
 (af (aa (0<=d)) (aq a d.toNat fun e=>af (aa (0<=d)) (aq b d.toNat fun f=>ai (!aa (e=f))
 (U (an (an ag)))
 (U (ao (a,b,c,wrap .i64 (d+1)))))))
 (U (an (ao ())))) ((a,b,(a.length:Int),(0:Int)))) fun _=>
 U ae)
def tb90:=az 90 (aB 90 ae [] XK dp yj [.tmp 4] 26 []) tb89
def XO:zTb tb90:=aC XJ XN XM func90 rfl call90
abbrev JE:SPat:=⟨[(0,.sl bA),(1,.sl bA)],[]⟩
abbrev JF:SPat:=⟨[(0,.sl bA),(1,.sl bA),(12,.i .i64),(13,.i .i64)],[]⟩
def XP:Nat->Option SPat:=fun k=>bif k==4 then U JF else bif k==2000000 then U dH else aj
def XQ:Nat->List Nat×a_:=fun id=>bif id==6 then(lN,.fin)else([],.fin)
def yk:List Fld×List Fld->Option Bool:=fun(a,b)=>
 ai (!aa ((a.length:Int)=(b.length:Int)))
 (U ag)
 (bindE (aE (fun(a,b,c,d)=>
 ai (aa (d<c))
 (af (aa (0<=d)) (aq a d.toNat fun e=>af (aa (0<=d)) (aq b d.toNat fun f=>ai (!(aa (e.1=f.1)&&(aa (e.2.1=f.2.1)&&(aa (e.2.2=f.2.2)&&ae))))
 (U (an (an ag)))
 (U (ao (a,b,c,wrap .i64 (d+1)))))))
 (U (an (ao ())))) ((a,b,(a.length:Int),(0:Int)))) fun _=>
 U ae)
def tb91:=az 91 (aB 91 ae [] JE dp yk [.tmp 4] 26 []) tb90
def XR:zTb tb91:=aC XO XQ XP func91 rfl call91
abbrev XS:SPat:=⟨[(0,.sl hY),(1,.sl hY)],[]⟩
abbrev XT:SPat:=⟨[(0,.sl hY),(1,.sl hY),(12,.i .i64),(13,.i .i64)],[]⟩
def XU:Nat->Option SPat:=fun k=>bif k==4 then U XT else bif k==2000000 then U dH else aj
def XV:Nat->List Nat×a_:=fun id=>bif id==6 then(lN,.fin)else([],.fin)
def yl:List Trp×List Trp->Option Bool:=fun(a,b)=>
 ai (!aa ((a.length:Int)=(b.length:Int)))
 (U ag)
 (bindE (aE (fun(a,b,c,d)=>
 ai (aa (d<c))
 (af (aa (0<=d)) (aq a d.toNat fun e=>af (aa (0<=d)) (aq b d.toNat fun f=>ai (!(aa (e.1=f.1)&&(aa (e.2.1=f.2.1)&&(aa (e.2.2.1=f.2.2.1)&&(aa (e.2.2.2=f.2.2.2)&&ae)))))
 (U (an (an ag)))
 (U (ao (a,b,c,wrap .i64 (d+1)))))))
 (U (an (ao ())))) ((a,b,(a.length:Int),(0:Int)))) fun _=>
 U ae)
def tb153:=az 153 (aB 153 ae [] XS dp yl [.tmp 4] 26 []) tb91
def XW:zTb tb153:=aC XR XV XU func153 rfl call153
abbrev XX:SPat:=⟨[(0,.sl c9),(1,.sl c9),(12,.i .i64),(13,.i .i64)],[]⟩
def XY:Nat->Option SPat:=fun k=>bif k==4 then U XX else bif k==2000000 then U dH else aj
def XZ:Nat->List Nat×a_:=fun id=>bif id==6 then(lN,.fin)else([],.fin)
def tP:List Knd×List Knd->Option Bool:=fun(a,b)=>
 ai (!aa ((a.length:Int)=(b.length:Int)))
 (U ag)
 (bindE (aE (fun(a,b,c,d)=>
 ai (aa (d<c))
 (af (aa (0<=d)) (aq a d.toNat fun e=>af (aa (0<=d)) (aq b d.toNat fun f=>ai (!(aa (e.1=f.1)&&(aa (e.2=f.2)&&ae)))
 (U (an (an ag)))
 (U (ao (a,b,c,wrap .i64 (d+1)))))))
 (U (an (ao ())))) ((a,b,(a.length:Int),(0:Int)))) fun _=>
 U ae)
def tb156:=az 156 (aB 156 ae [] I3 dp tP [.tmp 4] 26 []) tb153
def X0:zTb tb156:=aC XW XZ XY func156 rfl call156
end
end Go.Proofs.YtmjlecabpbiigaaGreat
