/- Part 5 of the proof of FnTidyAll; no condition. -/
import Derived.Test.YtmjlecabpbiigaaGreatX03
import Derived.Stop.Looks
open Option renaming some -> U
open Decidable renaming decide -> aa
open Bool renaming true -> ae
open Bool renaming false -> ag
open Option renaming none -> aj
open Sum renaming inr -> an
open Sum renaming inl -> ao
open List renaming length -> au
open Int renaming toNat -> aw
open List renaming drop -> cU
open List renaming take -> de
set_option autoImplicit true
set_option relaxedAutoImplicit true
set_option linter.all false
section
namespace Go.AM
def Aq (w:World)(G:Gh)(f:FP):Prop:=(∀g,f g<=1)/\(∀g,G.F g->f g=0)/\(∀g,G.F g->g<w.heap.size)/\(∀g,1<=f g->g<w.heap.size)
def rX (w:World)(G:Gh)(fO:FP)(ns:List Nat)(Post:SV->List Ob->Prop)(v:Value)(w':World):Prop :=
 ∃(sv:SV) (ext':List Ob) (G':Gh) (fV fO':FP),Post sv ext'/\R w' G' sv v fV/\aW w' G' ext' fO'/\Aq w' G' (fun g=>fV g+fO' g) /\
  (∀g,G.F g->G'.F g)/\(∀g,g<w.heap.size->G'.F g->G.F g\/1<=fO g)/\(∀g,g<w.heap.size->1<=fV g+fO' g->1<=fO g) /\
  (∀g,g<w.heap.size->fO g=0->w'.heap[g]? = w.heap[g]?)/\(∀n∈ns,G'.β n=G.β n)/\(aQ ext').Nodup/\w.heap.size<=w'.heap.size/\w'.os=w.os/\w'.tape=w.tape/\w'.output=w.output
def uZ (P:Program)(f:FuncId)(vs:Array Value)(w:World)(Rr:Value->World->Prop):Prop :=
 ((callFunc f vs).run P w = .ok (.enter f vs) w/\Calls P f vs w fun e w'=>∃v,e = .returned v/\Rr v w')\/∃v w',(callFunc f vs).run P w = .ok (.value v) w'/\Rr v w'
def AC (P:Program)(f:FuncId)(args:List SV)(ext:List Ob)(Post:SV->List Ob->Prop):Prop :=
 ∀(w:World) (G:Gh) (vs:Array Value) (fO:FP),vs.size=args.length->RL w G args vs.toList zf->aW w G ext fO->Aq w G fO ->
  uZ P f vs w (rX w G fO (aQ ext) Post)
def p5 (P:Program)(f:FuncId)(args:List SV)(ext:List Ob)(Post:SV->List Ob->Prop):Prop :=
 ∀(w:World) (G:Gh) (vs:Array Value) (fO:FP),vs.size=args.length->RL w G args vs.toList zf->aW w G ext fO->Aq w G fO ->
  Calls P f vs w fun e w'=>∃v,e = .returned v/\rX w G fO (aQ ext) Post v w'
def uZ.mono {P:Program}{f:FuncId}{vs:Array Value}{w:World}{R R':Value->World->Prop}(h:uZ P f vs w R)(hr:∀ v w,R v w->R' v w):uZ P f vs w R':=by
 rcases h with⟨h1,h2⟩|⟨v,w',h1,h2⟩
 ·exact .inl ⟨h1,Calls.mono h2 (fun e w' ⟨v,he,hv⟩=>⟨v,he,hr _ _ hv⟩)⟩
 ·exact .inr ⟨v,w',h1,hr _ _ h2⟩
def Nf {P:Program}{f:FuncId}{fn:Func}{vs:Array Value}{w:World}(hf:P.funcs[f]? = U fn)(hn:(fn.name == "runtime.NumGoroutine")=ag) (hb:fn.body.isNone=ag) :
  (callFunc f vs).run P w = .ok (.enter f vs) w:=by
 have h1:¬fn.name = "runtime.NumGoroutine" := by simpa using hn
 have h2:¬fn.body=aj:=by cases h:fn.body<;>simp_all
 simp[callFunc,hf,h1,h2]
def mf (xs:List Operand)(st:St)(K:SV->St->Prop):Prop:=match xs with
 |[x]=>K (ev st.env x) (dA st x)
 |xs=>K (.tup (gG st xs)) (j9 st xs)
def ng (T:Nat->TI)(rs:List ResultVar)(st:St)(K:SV->St->Prop):Prop:=match rs with
 |[]=>mf [] st K
 |[.tmp a]=>mf [.tmp a] st K
 |[.tmp a,.tmp b]=>mf [.tmp a,.tmp b] st K
 |[.tmp a,.tmp b,.tmp c]=>mf [.tmp a,.tmp b,.tmp c] st K
 |[.cell a t]=>iY T t (bx st.env a) (U a) st fun st=>mf [.tmp a] st K
 |[.cell a t,.tmp b]=>a≠b/\iY T t (bx st.env a) (U a) st fun st=>mf [.tmp a,.tmp b] st K
 |_=>False
def dB:List Nat->List Ob->Option (List Ob)
 |[],_=>U []
 | n::ns,l=>match bu l n,dB ns l with
   |some x,U xs=>U (x::xs)
   |_,_=>aj
def jr (o:Nat):List Ob->List Ob
 |[]=>[]
 |x::l=>if x.name=o then l else x::jr o l
section
variable {P:Program}{T:Nat->TI}{C:zAz}{w0 w w':World}{L:Lv}{st st1:St}{a:Act}{G G':Gh}{fE fO fX:FP}{Q Q':AQ}{ds:List Deferred}
def FC {o n:Nat}(h:n≠o):∀l,bu (jr o l) n=bu l n
 |[]=>rfl
 | x::l=>by
   simp only[jr,bu]
   split
   ·rename_i hx;rw[if_neg (by rw[hx];exact fun e=>h e.symm)]
   ·simp only[bu,FC h l]
def Ar {o:Nat}(l:List Ob):∀ns:List Nat,o ∉ ns->dB ns (jr o l)=dB ns l
 |[],_=>rfl
 | n::ns,h=>by
   simp only[dB]
   rw[FC (fun e=>h (by simp[e])),Ar l ns (fun e=>h (by simp[e]))]
def aW.rem {o:Nat}:∀(l:List Ob) (f:FP) (x:Ob),bu l o=U x->aW w G l f->∃f1 f2:FP,RO w G x f1/\aW w G (jr o l) f2/\∀j,f1 j+f2 j=f j
 |[],f,x,hg,h=>by simp[bu]at hg
 | y::l,f,x,hg,h=>by
   obtain⟨f1,f2,h1,h2,hff⟩:=h;simp only[bu]at hg;simp only[jr]
   split at hg
   ·rename_i hn;simp at hg;subst hg;rw[if_pos hn];exact⟨f1,f2,h1,h2,fun j=>(bK hff j).symm⟩
   ·rename_i hn;rw[if_neg hn];obtain⟨g1,g2,ha,hb,hab⟩:=aW.rem l f2 x hg h2;exact⟨g1,fun j=>f1 j+g2 j,ha,⟨f1,g2,h1,hb,rfl⟩,fun j=>by have:=bK hff j;have:=hab j;dsimp only;omega⟩
def Ey:∀(ns:List Nat) (l:List Ob) (f:FP) (xs:List Ob),ns.Nodup->dB ns l=U xs->aW w G l f->∃f':FP,aW w G xs f'/\∀j,f' j<=f j
 |[],l,f,xs,_,hs,h=>by simp[dB]at hs;subst hs;exact⟨zf,rfl,fun j=>Nat.zero_le _⟩
 | n::ns,l,f,xs,hnd,hs,h=>by
   simp only[dB]at hs;split at hs
   ·rename_i x xs' hx hxs;simp at hs;subst hs;obtain⟨f1,f2,h1,h2,hf⟩:=aW.rem l f x hx h;rw[<-Ar l ns (List.nodup_cons.1 hnd).1]at hxs;obtain⟨f3,h3,hf3⟩:=Ey ns _ f2 xs' (List.nodup_cons.1 hnd).2 hxs h2;exact⟨fun j=>f1 j+f3 j,⟨f1,f3,h1,h3,rfl⟩,fun j=>by have:=hf j;have:=hf3 j;dsimp only;omega⟩
   ·simp at hs
def u0:∀(ns:List Nat) (l:List Ob) (xs:List Ob),dB ns l=U xs->aQ xs=ns
 |[],l,xs,hs=>by simp[dB]at hs;subst hs;rfl
 | n::ns,l,xs,hs=>by
   simp only[dB]at hs;split at hs
   ·rename_i x xs' hx hxs;simp at hs;subst hs;simp only[aQ,bF]
    have:=u0 ns l xs' hxs;unfold aQ at this;rw[this,kc _ _ _ hx]
   ·simp at hs
def p6 {K:SV->St->Prop}(h:aU w0 L st a.tmps w G fE fO zf):∀(xs:List Operand),mf xs st K->∃(sv:SV) (st2:St) (fE2 fV:FP),K sv st2 /\
  R w G sv (match xs with | [x]=>a.eval x|xs=>.tuple (xs.map a.eval).toArray) fV/\aU w0 L st2 a.tmps w G fE2 fO fV
 | [x],hk=>by
   obtain⟨fE1,f1,hr,h1⟩:=h.take a rfl x;exact⟨_,_,fE1,f1,hk,hr,h1.less (fun g=>by simp only[zf];omega)⟩
 |[],hk=>⟨_,_,fE,zf,hk,by simp[R,gG,RL],h⟩
 | x::y::l,hk=>by
   obtain⟨fE1,f1,hr,h1⟩:=h.takeL a rfl (x::y::l);refine⟨_,_,fE1,f1,hk,?_,h1.less (fun g=>by simp only[zf];omega)⟩;simp only[R]
   exact⟨_,rfl,by simp[uU],by simpa using hr⟩
def Ng (t:TypeId):(isAgg t).Looks:=by
 unfold isAgg;refine(underlying_looks t).bind fun d=>?_
 repeat' (first|exact trivial|exact program_looks|exact typeInfo_looks _|(refine Sem.Looks.bind ?_ (fun _=>?_))|split|dsimp only)
def Nh (t:TypeId)(q:Addr):(loadVar t q).Looks:=by
 unfold loadVar;refine(Ng t).bind fun b=>?_
 split
 ·exact(sizeOf_looks t).bind fun _=>(loadCells_looks _ _).bind fun _=>trivial
 ·exact load_looks _ _
def Ni {fn:Func}{rs:List ResultVar}{K:SV->St->Prop}(hT:bU P T)(hrs:fn.results.toList=rs)(h:SR w0 L st a.tmps w G)(hk:ng T rs st K) :
  ∃(v:Value) (sv:SV) (st2:St) (tm:Array Value) (G':Gh) (fE fO fV:FP),(results fn a.tmps).run P w = .ok v w/\K sv st2/\R w G' sv v fV/\aU w0 L st2 tm w G' fE fO fV:=by
 have hrs':fn.results=rs.toArray:=by rw[<-hrs]
 have hload:∀(x t:Nat) (K:St->Prop),iY T t (bx st.env x) (U x) st K->∃(u:Value) (st':St) (G':Gh),(do loadVar t (<-asAddr (a.tmps.getD x undef)):Sem Value).run P w = .ok u w/\K st'/\SR w0 L st' (a.put (U x) u).tmps w G'/\(a.put (U x) u).eval (.tmp x)=u:=by
  intro x t K hk
  have hput:∀(u:Value) q,a.tmps.getD x undef = .pointer q->(a.put (U x) u).eval (.tmp x)=u:=by
   intro u q hq
   have hlt:x<a.tmps.size:=by
    rcases Nat.lt_or_ge x a.tmps.size with h|h
    ·exact h
    ·rw[Array.getD_eq_getD_getElem?,Array.getElem?_eq_none h]at hq;simp[undef]at hq
   simp[Act.put,Act.eval,hlt]
  have:=Ag (P:=P) (o:=⟨U x,.load t (.tmp x),0, "",#[],aj⟩) (C:=fun _ _ _ _ _=>False) (K:=K) (Q:=fun _ _ _=>False) hT rfl h (by simpa[a9,AM.ev]using hk)
  replace this:=this.1
  unfold Oper.wp at this;simp only[execOp,Instr.loadAt,Act.eval]at this;cases hv:a.tmps.getD x undef with
  | pointer p=>
    cases p with
    |none=>rw[hv]at this;simp[Instr.sureAddr,stuck,Oper.upon]at this
    | some q=>
      rw[hv]at this;simp only[Instr.sureAddr,Sem.run_bind,Sem.run_pure,Result.andThen_ok]at this;cases hl:(loadVar t q).run P w with
      | ok u w' =>
        rw[hl]at this;obtain⟨st',G',h1,h2,_⟩:=this;have hw:=(Nh t q).ok hl;subst hw;exact⟨u,st',G',by simp[asAddr,hl],h1,h2,hput u _ hv⟩
      |halt x w'=>rw[hl]at this;cases x<;>simp[Oper.upon,Result.andThen]at this
  |_=>rw[hv]at this;simp[Instr.sureAddr,stuck,Oper.upon]at this
 unfold ng at hk;split at hk
 ·obtain⟨fE,fO,hc⟩:=h;obtain⟨sv,st2,fE2,fV,h1,h2,h3⟩:=p6 hc [] hk;exact⟨_,sv,st2,_,G,fE2,fO,fV,by simp[results,hrs'],h1,h2,h3⟩
 ·rename_i x;obtain⟨fE,fO,hc⟩:=h;obtain⟨sv,st2,fE2,fV,h1,h2,h3⟩:=p6 hc [.tmp x] hk;exact⟨_,sv,st2,_,G,fE2,fO,fV,by simp[results,hrs',Act.eval],h1,h2,h3⟩
 ·rename_i x y;obtain⟨fE,fO,hc⟩:=h;obtain⟨sv,st2,fE2,fV,h1,h2,h3⟩:=p6 hc [.tmp x,.tmp y] hk;exact⟨_,sv,st2,_,G,fE2,fO,fV,by simp[results,hrs',Act.eval],h1,h2,h3⟩
 ·rename_i x y z;obtain⟨fE,fO,hc⟩:=h;obtain⟨sv,st2,fE2,fV,h1,h2,h3⟩:=p6 hc [.tmp x,.tmp y,.tmp z] hk;exact⟨_,sv,st2,_,G,fE2,fO,fV,by simp[results,hrs',Act.eval],h1,h2,h3⟩
 ·rename_i x t;obtain⟨u,st',G',hrun,hk',⟨fE,fO,hc⟩,hu⟩:=hload x t _ hk;obtain⟨sv,st2,fE2,fV,h1,h2,h3⟩:=p6 (a:=a.put (U x) u) hc [.tmp x] hk';refine⟨_,sv,st2,_,G',fE2,fO,fV,?_,h1,h2,h3⟩;simp[results,hrs']at hrun ⊢;rw[hrun,hu]
 ·rename_i x t y;obtain⟨hne,hk⟩:=hk;obtain⟨u,st',G',hrun,hk',⟨fE,fO,hc⟩,hu⟩:=hload x t _ hk;obtain⟨sv,st2,fE2,fV,h1,h2,h3⟩:=p6 (a:=a.put (U x) u) hc [.tmp x,.tmp y] hk';refine⟨_,sv,st2,_,G',fE2,fO,fV,?_,h1,h2,h3⟩;have hy:(a.put (U x) u).eval (.tmp y)=a.eval (.tmp y):=Act.eval_put fun d hd hxd=>by simp_all
  simp[results,hrs']at hrun ⊢;rw[hu,hy];cases hq:(asAddr (a.tmps[x]?.getD undef)).run P w with
  | ok q w1=>
    rw[hq]at hrun;simp only[Result.andThen_ok]at hrun ⊢;rw[hrun];simp[Act.eval]
  |halt q w1=>rw[hq]at hrun;simp[Result.andThen]at hrun
 ·exact hk.elim
def Nj (T:Nat->TI)(rs:List ResultVar)(ns:List Nat)(Post:SV->List Ob->Prop):AQ
 |.normal,st=>gK (fun st=>ng T rs st fun sv st2=>∃ext',dB ns st2.ob=U ext'/\Post sv ext') st
 |.ret,st=>gK (fun st=>ng T rs st fun sv st2=>∃ext',dB ns st2.ob=U ext'/\Post sv ext') st
 |_,_=>False
def oA (n:Nat)(args:List SV)(ext:List Ob):St:=⟨args++List.replicate (n-args.length) .u,ext⟩
def Mp {w:World}{G:Gh}:∀n,RL w G (List.replicate n SV.u) (List.replicate n undef) zf
 |0=>rfl
 | n+1=>by
   simp only[List.replicate_succ,RL]
   exact⟨_,_,zf,zf,rfl,gJ _ _ _,Mp n,by funext j;simp[zf]⟩
def zei {f:FuncId}{fn:Func}{c:Code}{rs:List ResultVar}{args:List SV}{ext:List Ob}{Post:SV->List Ob->Prop}(ns:List Nat)(hT:bU P T)
  (hf:P.funcs[f]? = U fn) (hb:fn.body=U c) (hrs:fn.results.toList=rs) {n:Nat} (hn:fn.ntmps=n) (hext:(aQ ext).Nodup) (h1000:∀m∈aQ ext,100000<=m) (hns:ns.Nodup)
  (h:sp P c (Nj T rs ns Post) (oA n args ext)):p5 P f args ext Post:=by
 intro w G vs fO hlen hR hO hown
 let L:Lv:=⟨fun g=>g<w.heap.size/\fO g=0,fun g=>G.F g,fun n=>if n∈aQ ext then G.β n else aj⟩
 have hsr:SR w L (oA n args ext) (vs++Array.replicate (fn.ntmps-vs.size) undef) w G:=by
  refine⟨zf,fO,?_⟩
  exact
   {size:=by simp[oA,hlen,hn]
    E:=by
     have h2:=RL.append args (List.replicate (n-args.length) .u) (vs.toList++List.replicate (n-args.length) undef) zf zf
      (j8 _ _ _ _ (fun j hj=>by rw[List.getElem?_append_left (by simp[hlen];exact hj)]) hR)
      (by rw[List.drop_append_of_le_length (by simp[hlen]),List.drop_eq_nil_of_le (by simp[hlen]),dy];exact Mp _)
     simpa[oA,hlen,hn,z8]using h2
    O:=hO
    le:=fun g=>by have:=hown.1 g;simp only[zf];omega
    fz:=fun g hg=>by have:=hown.2.1 g hg;simp only[zf];omega
    lf:=fun g hg=>by have:=hg.2;simp only[zf];omega
    lt:=fun g hg=>hown.2.2.2 g (by simp only[zf]at hg;omega)
    nodup:=hext
    fl:=fun g hg _=>hg
    fm:=fun g hg=>hg
    bk:=fun m r hm hb=>by
     simp only[L]at hb;split at hb
     ·exact hb
     ·simp at hb
    fsize:=hown.2.2.1
    keep:=fun g _=>rfl
    lsize:=fun g hg=>hg.1
    grow:=bJ _
    os:=rfl,tape:=rfl,output:=rfl}
 have hwp:=h w w L ⟨vs++Array.replicate (fn.ntmps-vs.size) undef,[]⟩ G hsr;refine calls_of_wp hf hb (wp_mono hwp (fun e a' w' hq=>?_))
 have key:∀{a':Act} {w':World},Nx w L [] (fun st=>gK (fun st=>ng T rs st fun sv st2=>∃ext',dB ns st2.ob=U ext'/\Post sv ext') st) a' w' ->
   a'.defers=[]/\∃v,(results fn a'.tmps).run P w' = .ok v w'/\rX w G fO (aQ ext) Post v w':=by
  rintro a' w' ⟨st',G1,hg,hs1,hd⟩;refine⟨hd,?_⟩;obtain⟨st2,G2,hres,hs2⟩:=hg w w' L a'.tmps G1 hs1;obtain⟨v,sv,st3,tm,G3,fE3,fO3,fV,hrun,⟨ext',hsel,hp⟩,hr,hc⟩:=Ni hT hrs hs2 hres;obtain⟨fS,hS,hle⟩:=Ey ns st3.ob fO3 ext' hns hsel hc.O;refine⟨v,hrun,sv,ext',G3,fV,fS,hp,hr,hS,⟨fun g=>?_,fun g hg=>?_,hc.fsize,fun g hg=>?_⟩,hc.fm,fun g hg hF=>?_,fun g hg h1=>?_,fun g hg h0=>hc.keep g ⟨hg,h0⟩,fun m hm=>?_,by rw[u0 _ _ _ hsel];exact hns,hc.grow,hc.os,hc.tape,hc.output⟩
  ·have:=hc.le g;have:=hle g;dsimp only;omega
  ·have:=hc.fz g hg;have:=hle g;dsimp only;omega
  ·exact hc.lt g (by have:=hle g;dsimp only at hg;omega)
  ·rcases Nat.eq_zero_or_pos (fO g)with h0|h0
   ·exact .inl (hc.fl g hF ⟨hg,h0⟩)
   ·exact .inr h0
  ·rcases Nat.eq_zero_or_pos (fO g)with h0|h0
   ·have:=hc.lf g ⟨hg,h0⟩;have:=hle g;omega
   ·exact h0
  ·have hb:=hc.bk m;simp only[L,hm,if_true]at hb;cases hq:G.β m with
   | none=>
     exfalso
     have:∀(l:List Ob) (f:FP),aW w G l f->m∈aQ l->G.β m≠aj:=by
      intro l
      induction l with
      |nil=>intro f _ hm;simp[aQ]at hm
      | cons x l ih=>
        intro f hf hm;obtain⟨f1,f2,h1,h2,_⟩:=hf;simp only[aQ,bF,List.mem_cons]at hm;rcases hm with rfl|hm
        ·obtain⟨r,hr,_⟩:=h1;rw[hr];simp
        ·exact ih f2 h2 hm
     exact this ext fO hO hm hq
   |some r=>exact hb r (h1000 m hm) hq
 cases e with
 |normal=>obtain⟨h1,v,h2,h3⟩:=key hq;exact⟨h1,v,h2,v,rfl,h3⟩
 |ret=>obtain⟨h1,v,h2,h3⟩:=key hq;exact⟨h1,v,h2,v,rfl,h3⟩
 |exit id=>obtain⟨st',G1,h1,_⟩:=hq;exact h1.elim
 |_=>exact hq.elim
end
end Go.AM
end
section
namespace Go.AM
def subV (o:Nat)(y:SV):SV->SV
 |.ar n=>if n=o then y else .ar n
 |x=>kill o x
def lB (o:Nat)(y:SV):List SV->List SV
 |[]=>[]
 |x::l=>subV o y x::lB o y l
def rY (st:St)(o:Nat)(K:St->Prop):Prop:=match bu st.ob o with
 |some y=>y.nm=ag/\K ⟨lB o (.sl y.k (cC y.rows)) st.env,gg o st.ob⟩
 |none=>False
def u3 (st:St)(t:Nat)(K:St->Prop):Prop:=match bx st.env t with
 |.own k rows=>t<100000/\K (b_ (addOb (b_ st t .u) t k rows ag) t (.ar t))
 |_=>False
def u4 (st:St)(t:Nat)(K:St->Prop):Prop:=match bx st.env t with
 | .ar o=>match bu st.ob o with
   |some y=>y.nm=ag/\K (b_ (killSt o st) t (.own y.k y.rows))
   |none=>False
 |_=>False
section
variable {w0 w w':World}{L:Lv}{st st1:St}{a:Act}{G G':Gh}{fE fO fX:FP}{K:St->Prop}{tmps:Array Value}
def Nk (ns:List Nat){ob':List Ob}(hnd:ns.Nodup)(hs:dB ns st.ob=U ob')(h:K ⟨st.env,ob'⟩):gK K st:=by
 intro w0 w L tmps G ⟨fE,fO,hc⟩;obtain⟨fO',hO,hleO⟩:=Ey ns _ _ _ hnd hs hc.O;refine⟨_,G,h,fE,fO',?_⟩
 exact
  {size:=hc.size
   E:=hc.E,O:=hO
   le:=fun g=>by have:=hc.le g;have:=hleO g;omega
   fz:=fun g hg=>by have:=hc.fz g hg;have:=hleO g;omega
   lf:=fun g hg=>by have:=hc.lf g hg;have:=hleO g;omega
   lt:=fun g hg=>hc.lt g (by have:=hleO g;omega)
   nodup:=by rw[u0 _ _ _ hs];exact hnd
   fl:=hc.fl,fm:=hc.fm,bk:=hc.bk,fsize:=hc.fsize,keep:=hc.keep,lsize:=hc.lsize,grow:=hc.grow,os:=hc.os,tape:=hc.tape,output:=hc.output}
def Nl (t:Nat)(h:K (kH st (.tmp t))):gK K st:=by
 intro w0 w L tmps G ⟨fE,fO,hc⟩;obtain⟨G',fE',_,_,_,h'⟩:=aU.freezeT (a:=⟨tmps,[]⟩) hc (.tmp t);exact⟨_,G',h,fE',fO,h'⟩
def aU.takeAr (h:aU w0 L st tmps w G fE fO fX){o:Nat}{y:Ob}(hy:bu st.ob o=U y)(hnm:y.nm=ag) :
  ∃(fO' fV:FP),aW w G (gg o st.ob) fO'/\(∀j,fO' j+fV j<=fO j)/\∀v,R w G (.ar o) v zf->R w G (.own y.k y.rows) v fV:=by
 obtain⟨g1,g2,hk,hro,hle⟩:=aW.take (G':=G) rfl (fun _ _=>rfl) st.ob fO y h.nodup hy h.O;refine⟨g1,g2,hk,hle,fun v hv=>?_⟩;obtain⟨r,hr,hrk,hrn,hl,hm⟩:=hro;rw[kc _ _ _ hy]at hr;simp only[R]at hv ⊢;obtain⟨_,r',hr',hm'⟩:=hv;rw[hr]at hr';simp at hr';subst hr';cases hb:r.blk with
 | none=>
   rw[hb]at hm hm';exact .inl ⟨hm.1,hm.2,hm'.2⟩
 | some q=>
   obtain⟨g,base,csz⟩:=q;rw[hb]at hm hm';obtain⟨c,e,f',hh,hs,hbb,hrr,hff⟩:=hm;obtain⟨cap,hv,hc,hcc⟩:=hm';right;exact⟨g,base,cap,c,e,f',by rw[hv,hrn],by omega,hh,by rw[hs,<-hrk];exact hcc,hl,by rw[hnm]at hrr;exact hrr,hff⟩
def FD (o:Nat)(y:SV):∀l,(lB o y l).length=l.length
 |[]=>rfl
 |x::l=>by simp[lB,FD o y l]
def FE {o:Nat}{y:SV}(hF:∀ g,G.F g->G'.F g)(hβ:G'.β=G.β)(hy:∀ v,R w G (.ar o) v zf->R w G' y v zf):∀(l:List SV) (vs:List Value) (f:FP),RL w G l vs f->RL w G' (lB o y l) vs f
 |[],vs,f,h=>by simpa[lB,RL]using h
 | x::l,vs,f,h=>by
   simp only[RL]at h;obtain⟨v,vs',f1,f2,hv,h1,h2,hff⟩:=h;simp only[lB,RL]
   refine⟨v,vs',f1,f2,hv,?_,FE hF hβ hy l vs' f2 h2,hff⟩;unfold subV;have hkill:R w G' (kill o x) v f1:=om hF hβ _ _ _ (R.kill (G:=G) (G':=G) rfl (fun _ _=>rfl) x v f1 h1);split
   ·rename_i n;split
    ·rename_i hn;subst hn;have hz:=jm _ _ _ rfl h1;rw[hz]at h1 ⊢;exact hy v h1
    ·exact om hF hβ _ _ _ h1
   ·exact hkill
def FF (o:Nat)(h:rY st o K):gK K st:=by
 intro w0 w L tmps G ⟨fE,fO,hc⟩;unfold rY at h;split at h
 ·rename_i y hy;obtain⟨hnm,h⟩:=h;obtain⟨fO',fV,hO,hle,hv⟩:=hc.takeAr hy hnm;have hF:∀g,G.F g->(G.frozen fV).F g:=fun _ hg=>.inl hg
  refine⟨_,G.frozen fV,h,fE,fO',?_⟩
  exact
   {size:=by rw[FD];exact hc.size
    E:=FE hF rfl (fun v hr=>iw (G':=G.frozen fV) hF rfl (.own y.k y.rows) _ fV (fun g hg=>.inr hg) (hv v hr)) _ _ _ hc.E
    O:=aW.frame (G':=G.frozen fV) hF rfl (fun _ _=>rfl) _ _ (fun _ _=>rfl) hO
    le:=fun g=>by have:=hc.le g;have:=hle g;omega
    fz:=fun g hg=>by
     have:=hle g;rcases hg with hg|hg
     ·have:=hc.fz g hg;omega
     ·have:=hc.le g;omega
    lf:=fun g hg=>by have:=hc.lf g hg;have:=hle g;omega
    lt:=fun g hg=>hc.lt g (by have:=hle g;omega)
    nodup:=rP o hc.nodup
    fl:=fun g hg hL=>by
     rcases hg with hg|hg
     ·exact hc.fl g hg hL
     ·have:=hc.lf g hL;have:=hle g;omega
    fm:=fun g hg=>.inl (hc.fm g hg)
    bk:=hc.bk
    fsize:=fun g hg=>by
     rcases hg with hg|hg
     ·exact hc.fsize g hg
     ·exact hc.lt g (by have:=hle g;omega)
    keep:=hc.keep,lsize:=hc.lsize,grow:=hc.grow,os:=hc.os,tape:=hc.tape,output:=hc.output}
 ·exact h.elim
def Nn (t:Nat)(h:u4 st t K):gK K st:=by
 intro w0 w L tmps G ⟨fE,fO,hc⟩;unfold u4 at h;split at h
 ·rename_i o ho;split at h
  ·rename_i y hy;obtain⟨hnm,h⟩:=h;obtain⟨fO',fV,hO,hle,hv⟩:=hc.takeAr hy hnm;obtain⟨f1,hr,_⟩:=hc.look t;rw[ho]at hr;have hz:=jm _ _ _ rfl hr;rw[hz]at hr
   have h1:aU w0 L (killSt o st) tmps w G fE fO' fV :=
    {size:=by simp[AM.killSt,iy,hc.size]
     E:=RL.kill (G':=G) rfl (fun _ _=>rfl) _ _ _ hc.E
     O:=hO
     le:=fun g=>by have:=hc.le g;have:=hle g;omega
     fz:=fun g hg=>by have:=hc.fz g hg;have:=hle g;omega
     lf:=fun g hg=>by have:=hc.lf g hg;have:=hle g;omega
     lt:=fun g hg=>hc.lt g (by have:=hle g;omega)
     nodup:=rP o hc.nodup
     fl:=hc.fl,fm:=hc.fm,bk:=hc.bk,fsize:=hc.fsize,keep:=hc.keep,lsize:=hc.lsize,grow:=hc.grow,os:=hc.os,tape:=hc.tape,output:=hc.output}
   obtain⟨fE2,h2⟩:=h1.put (fX':=zf) (hv _ hr) (fun g=>by simp only[zf];omega) t;have e3:tmps.setIfInBounds t (tmps.getD t undef)=tmps:=rR ⟨tmps,[]⟩ t;rw[e3]at h2;exact⟨_,G,h,fE2,fO',h2⟩
  ·exact h.elim
 ·exact h.elim
def frzIn (st:St)(o:Nat)(K:St->Prop):Prop:=match bu st.ob o with
 |some y=>y.nm=ag/\K ⟨st.env,dz st.ob o (cC y.rows)⟩
 |none=>False
def Mq {w:World}{G:Gh}{o:Nat}:∀(l:List Ob) (f:FP) (x:Ob),bu l o=U x->x.nm=ag->aW w G l f ->
  ∃fV f':FP,aW w (G.frozen fV) (dz l o (cC x.rows)) f'/\∀j,f' j+fV j=f j
 |[],f,x,hg,_,h=>by simp[bu]at hg
 | y::l,f,x,hg,hx,h=>by
   obtain⟨f1,f2,h1,h2,hff⟩:=h;simp only[bu]at hg;split at hg
   ·rename_i hn;simp at hg;subst hg;obtain⟨r,hr,hrk,hrn,hl,hm⟩:=h1;rw[dz,if_pos hn];cases hb:r.blk with
    | none=>
      rw[hb]at hm;obtain⟨hm0,rfl⟩:=hm;have h3:=aW.frame (G':=G.frozen zf) (fun _ hg=>.inl hg) rfl (fun _ _=>rfl) _ _ (fun _ _=>rfl) h2;refine⟨zf,f2,⟨zf,f2,⟨r,hr,hrk,by rw[pX];exact hrn,uP _ hl,?_⟩,h3,by funext j;simp[zf]⟩,fun j=>by rw[hff];simp[zf]⟩;rw[hb];exact⟨by rw[hm0];rfl,rfl⟩
    | some q=>
      obtain⟨g,base,csz⟩:=q;rw[hb]at hm;obtain⟨c,e,f',hh,hs,hbb,hrr,hf1⟩:=hm;have h3:=aW.frame (G':=G.frozen f') (fun _ hg=>.inl hg) rfl (fun _ _=>rfl) _ _ (fun _ _=>rfl) h2;refine⟨f',fun j=>one g j+f2 j,⟨one g,f2,⟨r,hr,hrk,by rw[pX];exact hrn,uP _ hl,?_⟩,h3,rfl⟩,fun j=>by rw[hff,hf1];simp only;omega⟩;rw[hb];refine⟨c,e,zf,hh,hs,hbb,?_,by funext j;simp[zf]⟩;rw[hx]at hrr ⊢;exact Ew (G:=G.pure) (G':=(G.frozen f').pure) (fun _ hg=>.inl hg) rfl _ _ f' (fun _ hg=>.inr hg) hrr
   ·rename_i hn;obtain⟨fV,f',h3,h4⟩:=Mq l f2 x hg hx h2;have h5:=aW.frame (G':=G.frozen fV) (fun _ hg=>.inl hg) rfl (fun _ _=>rfl) [y] (fun h=>f1 h+zf h) (fun _ _=>rfl) ⟨f1,zf,h1,rfl,rfl⟩;obtain⟨a,b,ha,hb',hab⟩:=h5;have hb0:b=zf:=hb';subst hb0;have e:f1=a:=by funext j;have:=congrFun hab j;simpa[zf]using this
    subst e;rw[dz,if_neg hn];exact⟨fV,fun j=>f1 j+f' j,⟨f1,f',ha,h3,rfl⟩,fun j=>by have:=h4 j;rw[hff];simp only;omega⟩
def FG (o:Nat)(rows:List (List SV)):∀l:List Ob,aQ (dz l o rows)=aQ l
 |[]=>rfl
 | x::l=>by
   simp only[dz]
   split
   ·rfl
   ·simp only[aQ,bF];exact congrArg _ (FG o rows l)
def No (o:Nat)(h:frzIn st o K):gK K st:=by
 intro w0 w L tmps G ⟨fE,fO,hc⟩;unfold frzIn at h;split at h
 ·rename_i y hy;obtain⟨hnm,h⟩:=h;obtain⟨fV,fO',hO,hle⟩:=Mq st.ob fO y hy hnm hc.O;have hF:∀g,G.F g->(G.frozen fV).F g:=fun _ hg=>.inl hg
  refine⟨_,G.frozen fV,h,fE,fO',?_⟩
  exact
   {size:=hc.size
    E:=Mj (G:=G) (G':=G.frozen fV) hF rfl _ _ _ hc.E
    O:=hO
    le:=fun g=>by have:=hc.le g;have:=hle g;omega
    fz:=fun g hg=>by
     have:=hle g;rcases hg with hg|hg
     ·have:=hc.fz g hg;omega
     ·have:=hc.le g;omega
    lf:=fun g hg=>by have:=hc.lf g hg;have:=hle g;omega
    lt:=fun g hg=>hc.lt g (by have:=hle g;omega)
    nodup:=by rw[FG];exact hc.nodup
    fl:=fun g hg hL=>by
     rcases hg with hg|hg
     ·exact hc.fl g hg hL
     ·have:=hc.lf g hL;have:=hle g;omega
    fm:=fun g hg=>.inl (hc.fm g hg)
    bk:=hc.bk
    fsize:=fun g hg=>by
     rcases hg with hg|hg
     ·exact hc.fsize g hg
     ·exact hc.lt g (by have:=hle g;omega)
    keep:=hc.keep,lsize:=hc.lsize,grow:=hc.grow,os:=hc.os,tape:=hc.tape,output:=hc.output}
 ·exact h.elim
def FH (t:Nat)(h:u3 st t K):gK K st:=by
 intro w0 w L tmps G ⟨fE,fO,hc⟩;unfold u3 at h;split at h
 ·rename_i k rows hl;obtain⟨ht,hk⟩:=h;obtain⟨fE1,f1,hr,h1⟩:=hc.takeT t;rw[hl]at hr
  have hadd:∃r:kK,r.k=k/\r.n=rows.length/\RO w (G.bind t r) ⟨t,k,rows,ag⟩ f1/\R w (G.bind t r) (.ar t) (tmps.getD t undef) zf:=by
   simp only[R]at hr;rcases hr with⟨e0,e1,p,e2⟩|⟨g,base,cap,c,e,f',hv,hc,hh,hb,hl',hrr,hff⟩
   ·subst e0 e1;refine⟨⟨aj,k,0⟩,rfl,rfl,⟨⟨aj,k,0⟩,jM,rfl,rfl,by simp,rfl,rfl⟩,?_⟩;simp only[R]
    exact⟨trivial,⟨aj,k,0⟩,jM,rfl,p,e2⟩
   ·have hmul:rows.length*k<=cap*k:=Nat.mul_le_mul_right k hc;refine⟨⟨U (g,base,c.size),k,rows.length⟩,rfl,rfl,⟨_,jM,rfl,rfl,hl',?_⟩,?_⟩
    ·exact⟨c,e,f',hh,rfl,(by show base+rows.length*k<=c.size;omega),(by rw[if_neg (by simp)];exact hrr),hff⟩
    ·simp only[R]
     exact⟨trivial,_,jM,cap,hv,hc,hb⟩
  obtain⟨r,_,_,hro,har⟩:=hadd;obtain⟨fO2,h2⟩:=h1.addOb t k ht rows ag r (fX':=zf) hro (fun g=>by simp only[zf];omega);obtain⟨fE3,h3⟩:=h2.put (fX':=zf) har (fun g=>by simp[zf]) t;have e3:tmps.setIfInBounds t (tmps.getD t undef)=tmps:=rR ⟨tmps,[]⟩ t;rw[e3]at h3;exact⟨_,_,hk,fE3,fO2,h3⟩
 ·exact h.elim
end
end Go.AM
end
section
namespace Go.AM
mutual
def ren (σ:Nat->Nat):SV->SV
 |.ar n=>.ar (σ n)
 |.p n i off=>.p (σ n) i off
 |.fn f caps=>.fn f (eH σ caps)
 |.agg cs=>.agg (eH σ cs)
 |.tup cs=>.tup (eH σ cs)
 |.u=>.u
 |.sk=>.sk
 |.i k n=>.i k n
 |.b x=>.b x
 |.s x=>.s x
 |.sl k r=>.sl k r
 |.own k r=>.own k r
 |.ro c=>.ro c
 |.nilp=>.nilp
 |.nil=>.nil
def eH (σ:Nat->Nat):List SV->List SV
 |[]=>[]
 |x::l=>ren σ x::eH σ l
end
def dC (σ:Nat->Nat):List (List SV)->List (List SV)
 |[]=>[]
 |r::l=>eH σ r::dC σ l
def jQ (σ:Nat->Nat)(x:Ob):Ob:=⟨σ x.name,x.k,if x.nm then dC σ x.rows else x.rows,x.nm⟩
def gj (σ:Nat->Nat):List Ob->List Ob
 |[]=>[]
 |x::l=>jQ σ x::gj σ l
mutual
def gk (ns:List Nat):SV->Bool
 |.ar n=>ns.contains n
 |.p n _ _=>ns.contains n
 |.fn _ caps=>iZ ns caps
 |.agg cs=>iZ ns cs
 |.tup cs=>iZ ns cs
 |_=>ae
def iZ (ns:List Nat):List SV->Bool
 |[]=>ae
 |x::l=>gk ns x&&iZ ns l
end
def fN (ns:List Nat):List (List SV)->Bool
 |[]=>ae
 |r::l=>iZ ns r&&fN ns l
def mg (ns:List Nat):List Ob->Bool
 |[]=>ae
 |x::l=>(if x.nm then fN ns x.rows else ae)&&mg ns l
def oB:List Nat->St->St
 |[],st=>st
 |o::l,st=>oB l (killSt o st)
def kM:List Nat->List Ob->List Ob
 |[],l=>l
 |o::ns,l=>kM ns (jr o l)
def kd (σ:Nat->Nat)(old:List Nat):List Nat->List Nat
 |[]=>[]
 |n::l=>if old.contains n then kd σ old l else σ n::kd σ old l
def rZ (σ:Nat->Nat)(old:List Nat)(st:St)(ext':List Ob)(sv:SV)(d:Option Tmp):St :=
 aZ ⟨(oB (kd σ old (aQ ext')) ⟨st.env,kM (old.map σ) st.ob⟩).env,gj σ ext'++(oB (kd σ old (aQ ext')) ⟨st.env,kM (old.map σ) st.ob⟩).ob⟩ d (ren σ sv)
def r7 (l:List Nat):Bool:=match l with
 |[]=>ae
 |n::l=>aa (n<100000)&&r7 l
def js:List Nat->Bool
 |[]=>ae
 |n::l=>!l.contains n&&js l
def u5 (σ:Nat->Nat)(old:List Nat)(ext':List Ob)(sv:SV):Bool :=
 js ((aQ ext').map σ)&&gk (aQ ext') sv&&mg (aQ ext') ext'&&r7 (kd σ old (aQ ext'))
def gO (P:Program):zAz:=fun f args d st K=>∀(o:Oper) (c:Call),o.op = .call c->c.callee = .value f->c.args.toList=args->o.dst=d ->
 ∀(a:Act) (w0 w:World) (L:Lv) (G:Gh) (Q:Exit->Act->World->Prop),SR w0 L st a.tmps w G->o.wp P a w (Nx w0 L a.defers K) Q
def zej (P:Program):lA P (gO P):=fun o c f a w0 w L st G K Q ho hc hk h=>hk o c ho hc rfl rfl a w0 w L G Q h
section
variable {P:Program}{w0 w w':World}{L:Lv}{st st1:St}{a:Act}{G G':Gh}{fE fO fX:FP}{K:St->Prop}{tmps:Array Value}{σ:Nat->Nat}
def p7:∀l:List Nat,js l=ae->l.Nodup
 |[],_=>List.nodup_nil
 | n::l,h=>by
   simp only[js,aK,Bool.not_eq_true',List.contains_eq_mem,bS]at h;exact List.nodup_cons.2 ⟨h.1,p7 l h.2⟩
def FI:∀l:List Nat,r7 l=ae->∀n∈l,n<100000
 |[],_,n,hn=>by simp at hn
 | x::l,h,n,hn=>by
   simp only[r7,aK,aL]at h;rcases List.mem_cons.1 hn with rfl|hn
   ·exact h.1
   ·exact FI l h.2 n hn
def jR:∀l:List SV,(eH σ l).length=l.length
 |[]=>rfl
 |x::l=>by simp[eH,jR l]
mutual
def zek (hF:G'.F=G.F)(hβ:∀ n,G'.β n=G.β (σ n)):∀(x:SV) (v:Value) (f:FP),R w G (ren σ x) v f->R w G' x v f
 |.ar n,v,f,h=>by simp only[ren,R]at h ⊢;rw[hβ];exact h
 |.p n i off,v,f,h=>by simp only[ren,R]at h ⊢;rw[hβ];exact h
 |.fn n caps,v,f,h=>by simp only[ren,R]at h ⊢;obtain⟨h0,vs,hv,hs,hr⟩:=h;exact⟨h0,vs,hv,by rw[hs];exact jR caps,rJ hF hβ caps _ _ hr⟩
 |.agg cs,v,f,h=>by simp only[ren,R]at h ⊢;obtain⟨vs,hv,hs,hr⟩:=h;exact⟨vs,hv,by rw[hs];exact jR cs,rJ hF hβ cs _ _ hr⟩
 |.tup cs,v,f,h=>by simp only[ren,R]at h ⊢;obtain⟨vs,hv,hs,hr⟩:=h;exact⟨vs,hv,by rw[hs];exact jR cs,rJ hF hβ cs _ _ hr⟩
 |.sl k rows,v,f,h=>by simp only[ren,R]at h ⊢;rw[jP hF,hF];exact h
 |.own k rows,v,f,h=>by simp only[ren,R]at h ⊢;rw[jP hF];exact h
 |.ro cells,v,f,h=>by simp only[ren,R]at h ⊢;rw[jP hF,hF];exact h
 |.u,v,f,h=>by simpa[R,ren]using h
 |.sk,v,f,h=>by simpa[R,ren]using h
 |.i _ _,v,f,h=>by simpa[R,ren]using h
 |.b _,v,f,h=>by simpa[R,ren]using h
 |.s _,v,f,h=>by simpa[R,ren]using h
 |.nilp,v,f,h=>by simpa[R,ren]using h
 |.nil,v,f,h=>by simpa[R,ren]using h
def rJ (hF:G'.F=G.F)(hβ:∀ n,G'.β n=G.β (σ n)):∀(l:List SV) (vs:List Value) (f:FP),RL w G (eH σ l) vs f->RL w G' l vs f
 |[],vs,f,h=>by simpa[RL,eH]using h
 | x::l,vs,f,h=>by
   simp only[eH,RL]at h ⊢;obtain⟨v,vs',f1,f2,hv,h1,h2,hff⟩:=h;exact⟨v,vs',f1,f2,hv,zek hF hβ x _ _ h1,rJ hF hβ l _ _ h2,hff⟩
end
def u6:∀l:List (List SV),(dC σ l).length=l.length
 |[]=>rfl
 |x::l=>by simp[dC,u6 l]
def FJ {k:Nat}:∀l:List (List SV),(∀r∈dC σ l,r.length=k)->∀r∈l,r.length=k
 |[],_,r,hr=>by simp at hr
 | x::l,h,r,hr=>by
   rcases List.mem_cons.1 hr with rfl|hr
   ·rw[<-jR (σ:=σ)];exact h _ (by simp[dC])
   ·exact FJ l (fun r hr=>h r (by simp[dC,hr])) r hr
def FK {k:Nat}:∀l:List (List SV),(∀r∈l,r.length=k)->∀r∈dC σ l,r.length=k
 |[],_,r,hr=>by simp[dC]at hr
 | x::l,h,r,hr=>by
   simp only[dC]at hr;rcases List.mem_cons.1 hr with rfl|hr
   ·rw[jR];exact h _ (by simp)
   ·exact FK l (fun r hr=>h r (by simp[hr])) r hr
def Mr (hF:G'.F=G.F)(hβ:∀ n,G'.β n=G.β (σ n)):∀(l:List (List SV)) (vs:List Value) (f:FP),aH w G (dC σ l) vs f->aH w G' l vs f
 |[],vs,f,h=>by simpa[aH,dC]using h
 | r::l,vs,f,h=>by
   simp only[dC,aH]at h ⊢;obtain⟨f1,f2,h1,ho,h2,hff⟩:=h;rw[jR]at ho h2;exact⟨f1,f2,rJ hF hβ r _ _ h1,ho,Mr hF hβ l _ _ h2,hff⟩
def Mt (hF:G'.F=G.F)(hβ:∀ n,G'.β n=G.β (σ n)):∀(l:List Ob) (f:FP),aW w G (gj σ l) f->aW w G' l f
 |[],f,h=>h
 | x::l,f,h=>by
   simp only[gj,aW]at h ⊢;obtain⟨f1,f2,h1,h2,hff⟩:=h;refine⟨f1,f2,?_,Mt hF hβ l f2 h2,hff⟩;obtain⟨r,hr,hk,hn,hl,hm⟩:=h1;simp only[jQ]at hr hk hn hl hm;refine⟨r,by rw[hβ];exact hr,hk,?_,?_,?_⟩
   ·rw[hn];split<;>simp[u6]
   ·split at hl
    ·exact FJ _ hl
    ·exact hl
   ·cases hb:r.blk with
    | none=>
      rw[hb]at hm;obtain⟨h0,hf⟩:=hm;refine⟨?_,hf⟩;split at h0
      ·exact List.eq_nil_of_length_eq_zero (by rw[<-u6 (σ:=σ),h0];rfl)
      ·exact h0
    | some q=>
      obtain⟨g,base,csz⟩:=q;rw[hb]at hm;obtain⟨c,e,f',hh,hs,hbb,hrr,hff'⟩:=hm;refine⟨c,e,f',hh,hs,hbb,?_,hff'⟩;by_cases hnm:x.nm=ae
      ·simp only[hnm,if_true]at hrr ⊢;exact Mr hF hβ _ _ _ hrr
      ·simp only[hnm,cV,if_false]at hrr ⊢;rw[jP hF];exact hrr
mutual
def R.ren {ns:List Nat}(hF:G'.F=G.F)(hβ:∀ n∈ns,G'.β (σ n)=G.β n):∀(x:SV) (v:Value) (f:FP),gk ns x=ae->R w G x v f->R w G' (AM.ren σ x) v f
 |.ar n,v,f,hc,h=>by simp only[AM.ren,R]at h ⊢;rw[hβ n (by simpa[gk]using hc)];exact h
 |.p n i off,v,f,hc,h=>by simp only[AM.ren,R]at h ⊢;rw[hβ n (by simpa[gk]using hc)];exact h
 |.fn n caps,v,f,hc,h=>by simp only[AM.ren,R]at h ⊢;simp only[gk]at hc;obtain⟨h0,vs,hv,hs,hr⟩:=h;exact⟨h0,vs,hv,by rw[hs];exact(jR caps).symm,RL.ren hF hβ caps _ _ hc hr⟩
 |.agg cs,v,f,hc,h=>by simp only[AM.ren,R]at h ⊢;simp only[gk]at hc;obtain⟨vs,hv,hs,hr⟩:=h;exact⟨vs,hv,by rw[hs];exact(jR cs).symm,RL.ren hF hβ cs _ _ hc hr⟩
 |.tup cs,v,f,hc,h=>by simp only[AM.ren,R]at h ⊢;simp only[gk]at hc;obtain⟨vs,hv,hs,hr⟩:=h;exact⟨vs,hv,by rw[hs];exact(jR cs).symm,RL.ren hF hβ cs _ _ hc hr⟩
 |.sl k rows,v,f,_,h=>by simp only[AM.ren,R]at h ⊢;rw[jP hF,hF];exact h
 |.own k rows,v,f,_,h=>by simp only[AM.ren,R]at h ⊢;rw[jP hF];exact h
 |.ro cells,v,f,_,h=>by simp only[AM.ren,R]at h ⊢;rw[jP hF,hF];exact h
 |.u,v,f,_,h=>by simpa[R,AM.ren]using h
 |.sk,v,f,_,h=>by simpa[R,AM.ren]using h
 |.i _ _,v,f,_,h=>by simpa[R,AM.ren]using h
 |.b _,v,f,_,h=>by simpa[R,AM.ren]using h
 |.s _,v,f,_,h=>by simpa[R,AM.ren]using h
 |.nilp,v,f,_,h=>by simpa[R,AM.ren]using h
 |.nil,v,f,_,h=>by simpa[R,AM.ren]using h
def RL.ren {ns:List Nat}(hF:G'.F=G.F)(hβ:∀ n∈ns,G'.β (σ n)=G.β n):∀(l:List SV) (vs:List Value) (f:FP),iZ ns l=ae->RL w G l vs f->RL w G' (eH σ l) vs f
 |[],vs,f,_,h=>by simpa[RL,eH]using h
 | x::l,vs,f,hc,h=>by
   simp only[iZ,aK]at hc;simp only[eH,RL]at h ⊢;obtain⟨v,vs',f1,f2,hv,h1,h2,hff⟩:=h;exact⟨v,vs',f1,f2,hv,R.ren hF hβ x _ _ hc.1 h1,RL.ren hF hβ l _ _ hc.2 h2,hff⟩
end
def aH.ren {ns:List Nat}(hF:G'.F=G.F)(hβ:∀ n∈ns,G'.β (σ n)=G.β n):∀(l:List (List SV)) (vs:List Value) (f:FP),fN ns l=ae->aH w G l vs f->aH w G' (dC σ l) vs f
 |[],vs,f,_,h=>by simpa[aH,dC]using h
 | r::l,vs,f,hc,h=>by
   simp only[fN,aK]at hc;simp only[dC,aH]at h ⊢;obtain⟨f1,f2,h1,ho,h2,hff⟩:=h;refine⟨f1,f2,RL.ren hF hβ r _ _ hc.1 h1,?_,?_,hff⟩
   ·rw[jR];exact ho
   ·rw[jR];exact aH.ren hF hβ l _ _ hc.2 h2
def aW.ren {ns:List Nat}(hF:G'.F=G.F)(hβ:∀ n∈ns,G'.β (σ n)=G.β n):∀(l:List Ob) (f:FP),(∀n∈aQ l,n∈ns)->mg ns l=ae->aW w G l f->aW w G' (gj σ l) f
 |[],f,_,_,h=>h
 | x::l,f,hns,hc,h=>by
   simp only[mg,aK]at hc;simp only[gj,aW]at h ⊢;obtain⟨f1,f2,h1,h2,hff⟩:=h;refine⟨f1,f2,?_,aW.ren hF hβ l f2 (fun n hn=>hns n (by simp only[aQ,bF,List.mem_cons];exact .inr hn)) hc.2 h2,hff⟩;obtain⟨r,hr,hk,hn,hl,hm⟩:=h1;refine⟨r,by simp only[jQ];rw[hβ _ (hns _ (by simp[aQ]))];exact hr,hk,?_,?_,?_⟩
   ·simp only[jQ];rw[hn];split<;>simp[u6]
   ·simp only[jQ]
    split
    ·exact FK _ hl
    ·exact hl
   ·cases hb:r.blk with
    | none=>
      rw[hb]at hm;obtain⟨h0,hf⟩:=hm;refine⟨?_,hf⟩;simp only[jQ,h0]
      split<;>rfl
    | some q=>
      obtain⟨g,base,csz⟩:=q;rw[hb]at hm;obtain⟨c,e,f',hh,hs,hbb,hrr,hff'⟩:=hm;refine⟨c,e,f',hh,hs,hbb,?_,hff'⟩;simp only[jQ]
      by_cases hnm:x.nm=ae
      ·simp only[hnm,if_true]at hrr hc ⊢;exact aH.ren hF hβ _ _ _ hc.1 hrr
      ·simp only[hnm,cV,if_false]at hrr ⊢;rw[jP hF];exact hrr
def u7:∀l:List Ob,aQ (gj σ l)=(aQ l).map σ
 |[]=>rfl
 |x::l=>by simp only[gj,aQ,bF];have:=u7 l;simp only[aQ]at this;rw[this];rfl
end
end Go.AM
end
section
namespace Go.AM
section
variable {P:Program}{w0 w w':World}{L:Lv}{st st1:St}{a:Act}{G G':Gh}{fE fO fX:FP}{K:St->Prop}{tmps:Array Value}{σ:Nat->Nat}
def aU.frzTL:∀(xs:List Operand) {st:St} {G:Gh} {fE:FP},aU w0 L st a.tmps w G fE fO fX->∃(G':Gh) (fE':FP),aU w0 L (frzTL st xs) a.tmps w G' fE' fO fX
 |[],st,G,fE,h=>⟨G,fE,h⟩
 | x::xs,st,G,fE,h=>by
   obtain⟨G1,fE1,_,_,_,h1⟩:=h.freezeT x;exact aU.frzTL xs h1
def Mu:∀(ns:List Nat) (l:List Ob) (f:FP) (xs:List Ob),ns.Nodup->dB ns l=U xs->aW w G l f->∃f1 f2:FP,aW w G xs f1/\aW w G (kM ns l) f2/\∀j,f1 j+f2 j=f j
 |[],l,f,xs,_,hs,h=>by simp[dB]at hs;subst hs;exact⟨zf,f,rfl,h,fun j=>by simp[zf]⟩
 | n::ns,l,f,xs,hnd,hs,h=>by
   simp only[dB]at hs;split at hs
   ·rename_i x xs' hx hxs;simp at hs;subst hs;obtain⟨f1,f2,h1,h2,hf⟩:=aW.rem l f x hx h;rw[<-Ar l ns (List.nodup_cons.1 hnd).1]at hxs;obtain⟨g1,g2,h3,h4,hg⟩:=Mu ns _ f2 xs' (List.nodup_cons.1 hnd).2 hxs h2;exact⟨fun j=>f1 j+g1 j,g2,⟨f1,g1,h1,h3,rfl⟩,h4,fun j=>by have:=hf j;have:=hg j;dsimp only;omega⟩
   ·simp at hs
def FL (o:Nat):∀l:List Ob,(aQ l).Nodup->(aQ (jr o l)).Nodup/\o ∉ aQ (jr o l)/\∀n∈aQ (jr o l),n∈aQ l
 |[],h=>by simp[jr,aQ]
 | x::l,h=>by
   simp only[aQ,bF]at h;have hx:=List.nodup_cons.1 h;simp only[jr]
   split
   ·rename_i hn;refine⟨hx.2,by rw[<-hn];exact hx.1,fun n hn=>by simp only[aQ,bF,List.mem_cons];exact .inr hn⟩
   ·rename_i hn;obtain⟨h1,h2,h3⟩:=FL o l hx.2;refine⟨?_,?_,?_⟩
    ·simp only[aQ,bF]
     exact List.nodup_cons.2 ⟨fun hm=>hx.1 (h3 _ hm),h1⟩
    ·simp only[aQ,bF,List.mem_cons]
     rintro(e|e)
     ·exact hn e.symm
     ·exact h2 e
    ·intro n hn;simp only[aQ,bF,List.mem_cons]at hn ⊢;rcases hn with e|e
     ·exact .inl e
     ·exact .inr (h3 n e)
def FM:∀(ns:List Nat) (l:List Ob),(aQ l).Nodup->(aQ (kM ns l)).Nodup/\(∀o∈ns,o ∉ aQ (kM ns l))/\∀n∈aQ (kM ns l),n∈aQ l
 |[],l,h=>⟨h,fun o ho=>by simp at ho,fun n hn=>hn⟩
 | o::ns,l,h=>by
   obtain⟨h1,h2,h3⟩:=FL o l h;obtain⟨g1,g2,g3⟩:=FM ns _ h1;refine⟨g1,fun m hm=>?_,fun n hn=>h3 _ (g3 n hn)⟩;rcases List.mem_cons.1 hm with rfl|hm
   ·exact fun hx=>h2 (g3 _ hx)
   ·exact g2 m hm
def Mv:∀(ms:List Nat) {st:St} {G:Gh} {fO:FP},aU w0 L st tmps w G fE fO fX->G'.F=G.F->(∀m,m ∉ ms->G'.β m=G.β m)->(∀m∈ms,m<100000) ->
  ∃fO':FP,(∀g,fO' g<=fO g)/\aU w0 L (oB ms st) tmps w G' fE fO' fX
 | [],st,G,fO,h,hF,hβ,_=>by
   have:G'=G:=by
    cases G;cases G';simp only[Gh.mk.injEq]
    exact⟨hF,funext fun m=>hβ m (by simp)⟩
   subst this;exact⟨fO,fun g=>bJ _,h⟩
 | o::ms,st,G,fO,h,hF,hβ,hlt=>by
   let G1:Gh:=⟨G.F,fun m=>if m=o then G'.β o else G.β m⟩
   obtain⟨fO1,hle1,h1⟩:=h.killSt (G':=G1) o (hlt o (by simp)) rfl (fun n hn=>by simp[G1,hn])
   obtain⟨fO2,hle2,h2⟩:=Mv ms h1 hF (fun m hm=>by
    simp only[G1]
    split
    ·rename_i e;rw[e]
    ·rename_i e;exact hβ m (by simp[e,hm])) (fun m hm=>hlt m (by simp[hm]))
   exact⟨fO2,fun g=>Nat.le_trans (hle2 g) (hle1 g),h2⟩
def FN:∀(ms:List Nat) (st:St),(∀n∈aQ (oB ms st).ob,n∈aQ st.ob/\n ∉ ms)
 |[],st,n,hn=>⟨hn,by simp⟩
 | o::ms,st,n,hn=>by
   obtain⟨h1,h2⟩:=FN ms (killSt o st) n hn;simp only[AM.killSt,rO,List.mem_filter]at h1;exact⟨h1.1,by simp only[List.mem_cons,not_or];exact⟨by simpa using h1.2,h2⟩⟩
def aW.append:∀(x y:List Ob) (f1 f2:FP),aW w G x f1->aW w G y f2->aW w G (x++y) (fun j=>f1 j+f2 j)
 | [],y,f1,f2,h1,h2=>by
   have:f1=zf:=h1;subst this;simpa[zf]using h2
 | a::x,y,f1,f2,h1,h2=>by
   obtain⟨g1,g2,ha,hx,hg⟩:=h1;exact⟨g1,fun j=>g2 j+f2 j,ha,aW.append x y g2 f2 hx h2,by rw[hg];funext j;simp only;omega⟩
def aU.putObs (h:aU w0 L st tmps w G fE fO fX){xs:List Ob}{fS fX':FP}(hx:aW w G xs fS)(hX:∀ g,fX' g+fS g<=fX g)(hnd:(aQ (xs++st.ob)).Nodup) :
  aU w0 L ⟨st.env,xs++st.ob⟩ tmps w G fE (fun g=>fS g+fO g) fX' where
 size:=h.size
 E:=h.E
 O:=aW.append _ _ _ _ hx h.O
 le:=fun g=>by have:=h.le g;have:=hX g;omega
 fz:=fun g hg=>by have:=h.fz g hg;have:=hX g;omega
 lf:=fun g hg=>by have:=h.lf g hg;have:=hX g;omega
 lt:=fun g hg=>h.lt g (by have:=hX g;omega)
 nodup:=hnd
 fl:=h.fl
 fm:=h.fm
 bk:=h.bk
 fsize:=h.fsize
 keep:=h.keep
 lsize:=h.lsize
 grow:=h.grow
 os:=h.os
 tape:=h.tape
 output:=h.output
def u9 {old:List Nat}:∀(l:List Nat) (n:Nat),n∈l->n ∉ old->σ n∈kd σ old l
 |[],n,hn,_=>by simp at hn
 | x::l,n,hn,ho=>by
   simp only[kd]
   rcases List.mem_cons.1 hn with rfl|hn
   ·rw[if_neg (by simpa using ho)];simp
   ·split
    ·exact u9 l n hn ho
    ·exact List.mem_cons_of_mem _ (u9 l n hn ho)
def FO:∀(l:List Nat),(l.map σ).Nodup->∀x∈l,∀y∈l,σ x=σ y->x=y
 |[],_,x,hx,_,_,_=>by simp at hx
 | z::l,h,x,hx,y,hy,e=>by
   simp only[bF]at h;obtain⟨h1,h2⟩:=List.nodup_cons.1 h;rcases List.mem_cons.1 hx with rfl|hx1<;>rcases List.mem_cons.1 hy with rfl|hy1
   ·rfl
   ·exact absurd (List.mem_map.2 ⟨y,hy1,e.symm⟩) h1
   ·exact absurd (List.mem_map.2 ⟨x,hx1,e⟩) h1
   ·exact FO l h2 x hx1 y hy1 e
def Np {f:Operand}{n:FuncId}{caps:List SV}{xs:List Operand}{d:Option Tmp}{cargs:List SV}{ext:List Ob}{Post:SV->List Ob->Prop}(σ:Nat->Nat)(hac:AC P n cargs ext Post)
  (hf:AM.ev (frzTL st xs).env f = .fn n caps) (hargs:xs.map (AM.ev (frzTL st xs).env)++caps=eH σ cargs) (hown:eF (xs.map (AM.ev (frzTL st xs).env))=ag)
  (hext:dB ((aQ ext).map σ) (frzTL st xs).ob=U (gj σ ext)) (hinj:js ((aQ ext).map σ)=ae)
  (hk:∀sv ext',Post sv ext'->u5 σ (aQ ext) ext' sv=ae/\K (rZ σ (aQ ext) (frzTL st xs) ext' sv d)):gO P f xs d st K:=by
 intro o c ho hc hxs hd a w0 w L G0 Q ⟨fE0,fO,h0⟩;obtain⟨G,fE,h⟩:=h0.frzTL xs;generalize frzTL st xs=st1 at *;have hfv:=h.ev0 a rfl f (by rw[hf];rfl);rw[hf]at hfv;simp only[R]at hfv;obtain⟨_,cvs,hfv,hcs,hcr⟩:=hfv;have har:=h.evs xs hown
 have hall:RL w G (eH σ cargs) (xs.map a.eval++cvs.toList) zf:=by
  rw[<-hargs]
  have:=RL.append (xs.map (AM.ev st1.env)) caps (xs.map a.eval++cvs.toList) zf zf (j8 _ _ _ _ (fun j hj=>by rw[List.getElem?_append_left (by simpa using hj)]) har)
   (by rw[List.drop_append_of_le_length (by simp),List.drop_eq_nil_of_le (by simp),dy];exact hcr)
  simpa[z8]using this
 let Ge:Gh:=⟨G.F,fun m=>G.β (σ m)⟩
 have hargsE:RL w Ge cargs ((c.args.map a.eval)++cvs).toList zf:=by
  have:=rJ (G:=G) (G':=Ge) (σ:=σ) rfl (fun _=>rfl) cargs _ _ hall;rw[<-hxs]at this;simpa using this
 have hnd0:=p7 _ hinj;obtain⟨fe,fr,he,hr,hfe⟩:=Mu _ _ fO _ hnd0 hext h.O;have heE:aW w Ge ext fe:=Mt (G:=G) (G':=Ge) (σ:=σ) rfl (fun _=>rfl) ext fe he
 have hlen:((c.args.map a.eval)++cvs).size=cargs.length:=by
  have:=congrArg au hargs;rw[jR,aP,cG,<-hxs]at this;simp[hcs,<-this]
 have hgoes:=hac w Ge ((c.args.map a.eval)++cvs) fe hlen hargsE heE ⟨fun g=>by have:=h.le g;have:=hfe g;omega,fun g hg=>by have:=h.fz g hg;have:=hfe g;omega,h.fsize,fun g hg=>h.lt g (by have:=hfe g;omega)⟩
 have hexec:(execOp a.eval o).run P w=(callFunc n ((c.args.map a.eval)++cvs)).run P w:=by
  simp[execOp,ho,hc,resolve,hfv,Deferred.ofValue,invoke]
 have key:∀v w',rX w Ge fe (aQ ext) Post v w'->Nx w0 L a.defers K (a.put o.dst v) w':=by
  rintro v w' ⟨sv,ext',G',fV,fO',hpost,hrv,hro,hown',hmono,hnewF,hnewO,hkeep,hβ,hnd',hgrow,hos,htape,hout⟩;obtain⟨hok,hK⟩:=hk sv ext' hpost;simp only[u5,aK]at hok;obtain⟨⟨⟨hndσ,hcl⟩,hclo⟩,hlt⟩:=hok;have hndσ:=p7 _ hndσ;have hlt:=FI _ hlt;have same:∀g,g<w.heap.size->fe g=0->w'.heap[g]? = w.heap[g]?:=hkeep;have sF:∀g,G.F g->w'.heap[g]? = w.heap[g]?:=fun g hg=>same g (h.fsize g hg) (by have:=h.fz g hg;have:=hfe g;omega)
  have sE:∀g,1<=fE g->w'.heap[g]? = w.heap[g]?:=fun g hg=>same g (h.lt g (by omega)) (by have:=h.le g;have:=hfe g;omega)
  have sR:∀g,1<=fr g->w'.heap[g]? = w.heap[g]?:=fun g hg=>same g (h.lt g (by have:=hfe g;omega)) (by have:=h.le g;have:=hfe g;omega)
  let G1:Gh:=⟨G'.F,G.β⟩
  obtain⟨hn1,hn2,hn3⟩:=FM ((aQ ext).map σ) st1.ob h.nodup
  have hA:aU w0 L ⟨st1.env,kM ((aQ ext).map σ) st1.ob⟩ a.tmps w' G1 fE fr (fun g=>fV g+fO' g) :=
   {size:=h.size
    E:=RL.frame (G:=G) (G':=G1) hmono rfl sF _ _ _ sE h.E
    O:=aW.frame (G:=G) (G':=G1) hmono rfl sF _ _ sR hr
    le:=fun g=>by
     have h1:=h.le g;have h2:=hfe g;have h3:fV g+fO' g<=1:=hown'.1 g;by_cases hg:g<w.heap.size
     ·have h4:=hnewO g hg;omega
     ·have h5:=h.lt g;omega
    fz:=fun g hg=>by
     have h1:=h.le g;have h2:=hfe g;have h3:fV g+fO' g=0:=hown'.2.1 g hg;have h5:=h.lt g;by_cases hg2:g<w.heap.size
     ·rcases hnewF g hg2 hg with h4|h4
      ·have:=h.fz g h4;omega
      ·omega
     ·omega
    lf:=fun g hg=>by
     have h1:=h.lf g hg;have h2:=hfe g;have h3:=h.lsize g hg;have h4:=h.grow;have h5:=hnewO g (by omega);omega
    lt:=fun g hg=>by
     by_cases h1:1<=fV g+fO' g
     ·exact hown'.2.2.2 g h1
     ·have:=h.lt g (by have:=hfe g;omega);omega
    nodup:=hn1
    fl:=fun g hg hL=>by
     have h3:=h.lsize g hL;have h4:=h.grow;rcases hnewF g (by omega) hg with h5|h5
     ·exact h.fl g h5 hL
     ·have:=h.lf g hL;have:=hfe g;omega
    fm:=fun g hg=>hmono g (h.fm g hg)
    bk:=h.bk
    fsize:=hown'.2.2.1
    keep:=fun g hg=>by
     have h3:=h.lsize g hg;have h4:=h.grow;rw[same g (by omega) (by have:=h.lf g hg;have:=hfe g;omega)];exact h.keep g hg
    lsize:=h.lsize
    grow:=Nat.le_trans h.grow hgrow
    os:=hos.trans h.os
    tape:=htape.trans h.tape
    output:=hout.trans h.output}
  have hinj':=FO _ hndσ
  let G2:Gh:=⟨G'.F,fun m=>match(aQ ext').find? (fun n=>σ n==m)with|some n=>G'.β n|none=>G.β m⟩
  have hG2:∀n∈aQ ext',G2.β (σ n)=G'.β n:=by
   intro n hn;simp only[G2]
   cases hfind:(aQ ext').find? (fun k=>σ k==σ n)with
   |none=>have:=List.find?_eq_none.1 hfind n hn;simp at this
   | some k=>
     have h1:=List.find?_some hfind;have h2:=List.mem_of_find?_eq_some hfind;have:k=n:=hinj' k h2 n hn (by simpa using h1);rw[this]
  have hG2':∀m,m ∉ kd σ (aQ ext) (aQ ext')->G2.β m=G1.β m:=by
   intro m hm;simp only[G2,G1]
   cases hfind:(aQ ext').find? (fun k=>σ k==m)with
   |none=>rfl
   | some k=>
     have h1:=List.find?_some hfind;have h2:=List.mem_of_find?_eq_some hfind;have e:σ k=m:=by simpa using h1
     have hko:k∈aQ ext:=by
      by_cases hk:k∈aQ ext
      ·exact hk
      ·exact absurd (e▸u9 (σ:=σ) _ k h2 hk) hm
     have:=hβ k hko;simp only[Ge]at this;rw[<-e];exact this
  obtain⟨fr',hle',hB⟩:=Mv (G':=G2) (kd σ (aQ ext) (aQ ext')) hA rfl hG2' hlt;have hro2:aW w' G2 (gj σ ext') fO':=aW.ren (ns:=aQ ext') (G:=G') (G':=G2) (σ:=σ) rfl hG2 ext' fO' (fun _ h=>h) hclo hro
  have hC:=hB.putObs (fX':=fV) hro2 (fun g=>bJ _) (by
   simp only[aQ,List.map_append]
   refine List.nodup_append.2 ⟨by have:=u7 (σ:=σ) ext';unfold aQ at this;rw[this];exact hndσ,hB.nodup,?_⟩;intro m hm m' hm' e;subst e;have:=u7 (σ:=σ) ext';unfold aQ at this;rw[this]at hm;obtain⟨k,hk1,hk2⟩:=List.mem_map.1 hm;obtain⟨h1,h2⟩:=FN _ _ m hm';by_cases hko:k∈aQ ext
   ·exact hn2 m (List.mem_map.2 ⟨k,hko,hk2⟩) h1
   ·exact h2 (hk2▸u9 (σ:=σ) _ k hk1 hko))
  have hrv2:R w' G2 (ren σ sv) v fV:=R.ren (ns:=aQ ext') (G:=G') (G':=G2) (σ:=σ) rfl hG2 sv v fV hcl hrv;obtain⟨fE4,hD⟩:=hC.putD (fX':=zf) hrv2 (fun g=>by simp[zf]) o.dst a rfl;refine⟨_,G2,hK,⟨fE4,(fun g=>fO' g+fr' g),?_⟩,Act.put_defers _ _ _⟩;unfold rZ;rw[<-hd];exact hD
 unfold Oper.wp;rw[hexec];rcases hgoes with⟨hrun,hcalls⟩|⟨v,w',hrun,hafter⟩
 ·rw[hrun,Oper.upon_enter];refine Calls.mono hcalls ?_;rintro e w' ⟨v,rfl,hv⟩;exact key v w' hv
 ·rw[hrun,Oper.upon_value];exact key v w' hafter
end
end Go.AM
end
