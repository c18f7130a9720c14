/- Part 4 of the proof of FnTidyAll; no condition. -/
import Derived.Test.YtmjlecabpbiigaaGreatX02
import Derived.Deep.AppendSrc
open Option renaming some -> U
open Decidable renaming decide -> aa
open Bool renaming true -> ae
open Bool renaming false -> ag
open Option renaming none -> aj
open Sum renaming inr -> an
open Sum renaming inl -> ao
open List renaming length -> au
open Int renaming toNat -> aw
open List renaming drop -> cU
open List renaming take -> de
set_option autoImplicit true
set_option relaxedAutoImplicit true
set_option linter.all false
section
namespace Go.AM
section
variable {P:Program}{T:Nat->TI}{C:zAz}{w0 w w':World}{L:Lv}{st st1:St}{a:Act}{G G':Gh}{fE fO fX fV:FP}{o:Oper}{K:St->Prop}{Q:Exit->Act->World->Prop}{v:Value}{sv:SV}
def aH.cells {k:Nat}:∀(rows:List (List SV)) (vs:List Value) (f:FP),(∀r∈rows,r.length=k)->aH w G rows vs f->rows.length*k<=vs.length/\∀v∈vs.take (rows.length*k),v.oneCell'=ae
 |[],vs,f,_,_=>by simp
 | r::rows,vs,f,hl,h=>by
   simp only[aH]at h;obtain⟨f1,f2,h1,ho,h2,_⟩:=h;have hr:=hl r (by simp);have ih:=aH.cells rows _ f2 (fun r hr=>hl r (by simp[hr])) h2;have hle:=Ex _ _ _ h1;have e:(rows.length+1)*k=k+rows.length*k:=by rw[Nat.add_mul];omega
   refine⟨?_,?_⟩
   ·have:=ih.1;simp only[dx,hr]at this;simp only[bL,e]
    omega
   ·intro v hv;simp only[bL,e]at hv;rw[List.take_add]at hv;rcases List.mem_append.1 hv with hv|hv
    ·obtain⟨j,hj⟩:=List.getElem?_of_mem hv;rw[List.getElem?_take]at hj;split at hj
     ·exact ho j v (by omega) hj
     ·simp at hj
    ·exact ih.2 v (by rw[hr];exact hv)
def aU.moreRows (h:aU w0 L st a.tmps w G fE fO fX){y:Operand}{k':Nat}{rows':List (List SV)}(ht:moreRows st y=U (k',rows',st1)) :
  ∃(fE' fY:FP),aU w0 L st1 a.tmps w G fE' fO (fun g=>fX g+fY g)/\∃p cap,a.eval y = .slice p rows'.length cap /\
   (rows'=[]\/∃g base c e fr f',p=U ⟨g,base,aj⟩/\w.heap[g]? = U (.cells c e fr)/\(G.F g\/1<=fY g)/\(∀r∈rows',r.length=k')/\aH w G.pure rows' (c.toList.drop base) f'/\∀j,f' j<=fY j):=by
 unfold AM.moreRows at ht;split at ht
 ·rename_i e;simp at ht;obtain⟨rfl,rfl,rfl⟩:=ht;have hx:=h.ev0 a rfl y (by rw[e];rfl);rw[e]at hx;simp only[R]at hx;obtain⟨_,p,hv⟩:=hx;exact⟨fE,zf,by simpa[ma]using h,p,0,hv,.inl rfl⟩
 ·rename_i k rows e;simp at ht;obtain⟨rfl,rfl,rfl⟩:=ht;obtain⟨fE1,f1,hr,h1⟩:=h.take a rfl y;rw[e]at hr;refine⟨fE1,f1,h1,?_⟩;simp only[R]at hr;rcases hr with⟨rfl,_,p,hv⟩|⟨g,base,cap,c,e,f',hv,hc,hh,hb,hl,hrr,hff⟩
  ·exact⟨p,0,hv,.inl rfl⟩
  ·exact⟨_,cap,hv,.inr ⟨g,base,c,e,_,f',rfl,hh,.inr (by have:=bK hff g;simp only[one,if_true]at this;omega),hl,hrr,fun j=>by have:=bK hff j;omega⟩⟩
 ·rename_i k rows e;simp at ht;obtain⟨rfl,rfl,rfl⟩:=ht;have hx:=h.ev0 a rfl y (by rw[e];rfl);rw[e]at hx;simp only[R]at hx;obtain⟨_,p,cap,hv,hc,hrows⟩:=hx;refine⟨fE,zf,by simpa[ma]using h,p,cap,hv,?_⟩;rcases hrows with h0|⟨g,base,c,e,fr,hp,hF,hh,hl,hrr⟩
  ·exact .inl h0
  ·exact .inr ⟨g,base,c,e,fr,zf,hp,hh,.inl hF,hl,hrr,fun j=>Nat.zero_le _⟩
 ·simp at ht
def E7 (t tx ty e:TypeId)(i:TypeInfo)(ht:P.underlying t=U (.slice e))(hi:P.info? e=U i)(b:Addr)(sLen sCap:Nat)(x:Value)(n:Nat)(news:List Value)(hs:Src P i.size tx x n news w)
  (hroom:sLen+n<=sCap) (hst:(storeCells (b.add (sLen*i.size)) news).run P w = .ok () w') :
  (Builtin.append_ #[t,tx] ty #[.slice (U b) sLen sCap,x]).run P w = .ok (.slice (U b) (sLen+n) sCap) w':=by
 rcases hs.kind with⟨e',hk⟩|hk<;>simp[Builtin.append_,run_underlying ht,run_underlying hk,sizeOf,typeInfo,hi,hs.len,hroom,hs.cells,hst]
def MV (t tx ty e:TypeId)(i:TypeInfo)(ht:P.underlying t=U (.slice e))(hi:P.info? e=U i)(b:Option Addr)(sLen sCap:Nat)(x:Value)(hs:Src P i.size tx x 0 [] w)
  (hroom:sLen<=sCap) :
  (Builtin.append_ #[t,tx] ty #[.slice b sLen sCap,x]).run P w = .ok (.slice b sLen sCap) w:=by
 cases b with
 |none=>rcases hs.kind with⟨e',hk⟩|hk<;>simp[Builtin.append_,run_underlying ht,run_underlying hk,sizeOf,typeInfo,hi,hs.len,hroom,hs.cells]
 | some b=>
   have:=E7 (P:=P) (w':=w) t tx ty e i ht hi b sLen sCap x 0 [] hs hroom (by simp[storeCells]);exact this
def MW {k' size:Nat}{rows':List (List SV)}{fY:FP}{t' e':Nat}{p:Option Addr}{cap:Nat}(hT:bU P T)(hkd:(T t').kind = .slice e')(hk:k'=size\/rows'=[])
  (hrows:rows'=[]\/∃g base c e fr f',p=U ⟨g,base,aj⟩/\w.heap[g]? = U (.cells c e fr)/\(G.F g\/1<=fY g)/\(∀r∈rows',r.length=k')/\aH w G.pure rows' (c.toList.drop base) f'/\∀j,f' j<=fY j) :
  ∃(news:List Value) (f':FP),Src P size t' (.slice p rows'.length cap) rows'.length news w/\(∀r∈rows',r.length=size)/\aH w G.pure rows' news f'/\(∀j,f' j<=fY j)/\(∀v∈news,v.oneCell'=ae)/\news.length=rows'.length*size:=by
 rcases hrows with rfl|⟨g,base,c,e,fr,f',rfl,hh,_,hl,hrr,hf⟩
 ·refine⟨[],zf,?_,by simp,by simp[aH],fun j=>Nat.zero_le _,by simp,by simp⟩;cases p with
  |none=>exact Src.ofNil (P:=P) w (hT.slice hkd) cap
  |some q=>exact Src.ofSlice (P:=P) w (hT.slice hkd) q 0 cap [] (by simp) (by simp) (by simp)
 ·by_cases h0:rows'=[]
  ·subst h0;exact⟨[],zf,Src.ofSlice (P:=P) w (hT.slice hkd) _ 0 cap [] (by simp) (by simp) (by simp),by simp,by simp[aH],fun j=>Nat.zero_le _,by simp,by simp⟩
  have hk:k'=size:=by rcases hk with h|h;exact h;exact absurd h h0
  subst hk;obtain⟨hle,hone⟩:=aH.cells _ _ _ hl hrr;have hlen:((c.toList.drop base).take (rows'.length*k')).length=rows'.length*k':=by rw[bT];omega
  refine⟨(c.toList.drop base).take (rows'.length*k'),f',?_,hl,?_,hf,hone,hlen⟩
  ·refine Src.ofSlice (P:=P) w (hT.slice hkd) _ _ cap _ hlen (fun j u hj=>?_) hone;rw[Addr.add_lit,rS hh];rw[List.getElem?_take]at hj;split at hj
   ·rw[List.getElem?_drop]at hj;simpa using hj
   ·simp at hj
  ·exact rH _ _ _ _ hl (fun j hj=>by rw[List.getElem?_take,if_pos hj]) hrr
def aU.writeX {tmps:Array Value}(h:aU w0 L st tmps w G fE fO fX){g:Nat}(hg:1<=fX g)(c':Array Value):aU w0 L st tmps (w.setRow g c') G fE fO fX:=by
 have hoth:∀j,j≠g->(w.setRow g c').heap[j]? = w.heap[j]?:=fun j hj=>z_ w g j c' hj
 have hF:∀j,G.F j->(w.setRow g c').heap[j]? = w.heap[j]?:=fun j hj=>hoth j (fun e=>by have:=h.fz j hj;subst e;omega)
 exact
  {size:=h.size
   E:=RL.frame (fun _ h=>h) rfl hF _ _ _ (fun j hj=>hoth j (fun e=>by have:=h.le j;subst e;omega)) h.E
   O:=aW.frame (fun _ h=>h) rfl hF _ _ (fun j hj=>hoth j (fun e=>by have:=h.le j;subst e;omega)) h.O
   le:=h.le,fz:=h.fz,lf:=h.lf
   lt:=fun j hj=>by simp only[size_setRow];exact h.lt j hj
   nodup:=h.nodup,fl:=h.fl,fm:=h.fm,bk:=h.bk
   fsize:=fun j hj=>by simp only[size_setRow];exact h.fsize j hj
   keep:=fun j hj=>by rw[hoth j (fun e=>by have:=h.lf j hj;subst e;omega)];exact h.keep j hj
   lsize:=h.lsize
   grow:=by simp only[size_setRow];exact h.grow
   os:=h.os,tape:=h.tape,output:=h.output}
def MX {c:Call}(hT:bU P T)(ho:o.op = .call c)(hb:c.callee = .builtin .append)(h:SR w0 L st a.tmps w G)(hk:a9 T C o st K):o.wp P a w (Nx w0 L a.defers K) Q:=by
 obtain⟨fE,fO,h⟩:=h;simp only[a9,ho,hb]at hk;split at hk
 ·rename_i x y t t' eargs etypes;split at hk
  ·rename_i e e' k' rows' st1 hkd hkd' hm;split at hk
   ·rename_i k rows st2 htk;obtain⟨hkn,rfl,hk',h63,hby,hk⟩:=hk;obtain⟨fE1,fY,h1,py,capy,hvy,hrowsy⟩:=h.moreRows hm;obtain⟨G',fE2,fO2,fV,hF,hr,h2⟩:=h1.takeRows htk;have hpure:G'.pure=G.pure:=jP hF;obtain⟨i,z,d,hi,hsi,hbyt,hz,hzz,hone,hzl,hc1,hpl,hd,hkdd,hagg,_,_⟩:=hT.ok e hkn;obtain⟨news,f',hsrc,hl',hrr',hf',hn1,hnl⟩:=MW (P:=P) (cap:=capy) hT hkd' hk' hrowsy
    have hargs:c.args.map a.eval = #[a.eval x,.slice py rows'.length capy]:=by
     apply Array.ext';rw[Array.toList_map,eargs];simp[hvy]
    have htypes:c.argTypes = #[t,t']:=by apply Array.ext';rw[etypes]
    have hexec:∀(v:Value) (w':World),(Builtin.append_ #[t,t'] o.type #[a.eval x,.slice py rows'.length capy]).run P w = .ok v w'->(execOp a.eval o).run P w = .ok (.value v) w':=by
     intro v w' hv;rw[<-hargs,<-htypes]at hv;simp only[execOp,ho,hb,resolve,invoke,builtin,Sem.run_bind,Sem.run_pure,Result.andThen_ok,hv]
    have hcase:∃p cap,a.eval x = .slice p rows.length cap/\rows.length<=cap/\((rows=[]/\cap=0)\/∃g base cc e0 fv,p=U ⟨g,base,aj⟩/\w.heap[g]? = U (.cells cc e0 (0,0))/\base+cap*(T e).size<=cc.size /\
      (∀r∈rows,r.length=(T e).size)/\aH w G'.pure rows (cc.toList.drop base) fv/\fV=fun h=>one g h+fv h):=by
     simp only[R]at hr;rcases hr with⟨h0,_,p,hv⟩|⟨g,base,cap,cc,e0,fv,hv,hcap,hh,hbb,hl,hrr,hff⟩
     ·exact⟨p,0,by rw[hv,h0];rfl,by simp[h0],.inl ⟨h0,rfl⟩⟩
     ·exact⟨_,cap,hv,hcap,.inr ⟨g,base,cc,e0,fv,rfl,hh,hbb,hl,hrr,hff⟩⟩
    obtain⟨p,cap,hvx,hcap,hc⟩:=hcase;by_cases hroom:rows.length+rows'.length<=cap
    ·
     rcases hc with⟨h0,hcap0⟩|⟨g,base,cc,e0,fv,rfl,hh,hbb,hl,hrr,hff⟩
     ·have h0':rows'=[]:=List.eq_nil_of_length_eq_zero (by omega);subst h0 h0' hcap0;have hnews:news=[]:=List.eq_nil_of_length_eq_zero (by simpa using hnl);subst hnews;have hrun:=hexec _ _ (by rw[hvx];exact MV (P:=P) t t' o.type e i (hT.slice hkd) hi p 0 0 _ (by rw[hsi];exact hsrc) (bJ _));refine ow hrun h2 (sv:=.own (T e).size ([]++[])) (fV:=zf) ?_ (fun j=>Nat.zero_le _) hk;simp only[R,cB]
      exact .inl ⟨trivial,trivial,_,rfl⟩
     ·have hub:base+rows.length*(T e).size+news.length<=cc.size:=by
       have:(rows.length+rows'.length)*(T e).size<=cap*(T e).size:=Nat.mul_le_mul_right _ hroom;rw[Nat.add_mul]at this;omega
      have hst:=run_storeCells_at P g (base+rows.length*(T e).size) e0 news 0 cc w hh (by simpa using hub) hn1;simp only[Nat.add_zero]at hst;have hrun:=hexec _ _ (by rw[hvx];exact E7 (P:=P) t t' o.type e i (hT.slice hkd) hi ⟨g,base,aj⟩ rows.length cap _ rows'.length news (by rw[hsi];exact hsrc) hroom (by rw[hsi,Addr.add_lit];exact hst));have hg1:one g g=1:=by simp[one]
      have hVg:=bK hff g;have h3:=h2.writeX (g:=g) (by omega) (cc.toList.take (base+rows.length*(T e).size)++news++cc.toList.drop (base+rows.length*(T e).size+news.length)).toArray;have hbl:base+rows.length*(T e).size+news.length<=cc.toList.length:=by simpa using hub
      obtain⟨hsame,hdrop⟩:=Ah hbl
      have hsz:(cc.toList.take (base+rows.length*(T e).size)++news++cc.toList.drop (base+rows.length*(T e).size+news.length)).toArray.size=cc.size:=by
       simp only[List.size_toArray,aP,bT,dx];rw[<-Array.length_toList];omega
      generalize hc':(cc.toList.take (base+rows.length*(T e).size)++news++cc.toList.drop (base+rows.length*(T e).size+news.length))=c' at *;have hoth:∀j,j≠g->(w.setRow g c'.toArray).heap[j]? = w.heap[j]?:=fun j hj=>z_ w g j _ hj
      have hFw:∀j,G'.F j->(w.setRow g c'.toArray).heap[j]? = w.heap[j]?:=fun j hj=>hoth j (fun ee=>by have:=h2.fz j hj;subst ee;omega)
      have hleg:=h2.le g
      skip
      have hfg:=hf' g
      have r1:aH (w.setRow g c'.toArray) G'.pure rows (c'.drop base) fv:=by
       refine rH _ _ _ _ hl (fun j hj=>?_) (aH.frame (G:=G'.pure) (fun _ h=>h) rfl hFw _ _ _ (fun j hj=>hoth j (fun ee=>by subst ee;omega)) hrr);rw[List.getElem?_drop,List.getElem?_drop];exact hsame _ (.inl (by omega))
      have r2:aH (w.setRow g c'.toArray) G'.pure rows' ((c'.drop base).drop (rows.length*(T e).size)) f':=by
       rw[List.drop_drop,hdrop,hpure];refine rH _ _ _ _ hl' (fun j hj=>?_) (aH.frame (G:=G.pure) (fun _ h=>h) rfl (fun j hj=>hFw j (by rw[hF];exact hj)) _ _ _ (fun j hj=>hoth j (fun ee=>by subst ee;omega)) hrr');rw[List.getElem?_append_left (by omega)]
      have r3:=aH.append _ _ _ _ _ hl r1 r2;refine ow hrun h3 (sv:=.own (T e).size (rows++rows')) (fV:=fun j=>one g j+(fv j+f' j)) ?_ (fun j=>by have:=bK hff j;have:=hf' j;simp only[zf];omega) hk;simp only[R]
      refine .inr ⟨g,base,cap,c'.toArray,e0,_,by rw[aP],by rw[aP];exact hroom,setRow_heap w g cc _ e0 (0,0) hh,by rw[hsz];exact hbb,?_,by simpa using r3,rfl⟩;intro r hr;rcases List.mem_append.1 hr with hr|hr
      ·exact hl r hr
      ·exact hl' r hr
    ·
     have hg:cap<rows.length+rows'.length:=by omega
     have hfit:Builtin.nextslicecap (rows.length+rows'.length) cap*i.bytes<=281474976710656:=growslice_fits hg (by rw[hbyt];exact hby)
     have hold:∃(olds:List Value) (fv:FP),(Builtin.firstCells i.size rows.length (.slice p rows.length cap)).run P w.drew = .ok olds.toArray w.drew/\olds.length=rows.length*(T e).size/\aH w G'.pure rows olds fv/\(∀r∈rows,r.length=(T e).size)/\∀j,fv j<=fV j:=by
      rcases hc with⟨h0,hcap0⟩|⟨g,base,cc,e0,fv,rfl,hh,hbb,hl,hrr,hff⟩
      ·subst h0;refine⟨[],zf,?_,by simp,by simp[aH],by simp,fun j=>Nat.zero_le _⟩;cases p with
       |none=>exact run_firstCells_none (P:=P) w.drew _ _ _ _
       |some q=>exact run_firstCells_some _ _ _ _ _ _ [] (by simp) (by simp)
      ·obtain⟨hle,hone'⟩:=aH.cells _ _ _ hl hrr;have hlen:((cc.toList.drop base).take (rows.length*(T e).size)).length=rows.length*(T e).size:=by rw[bT];omega
       refine⟨_,fv,run_firstCells_some _ _ _ _ _ _ ((cc.toList.drop base).take (rows.length*(T e).size)) (by rw[hsi];exact hlen) (fun j u hj=>?_),hlen,rH _ _ _ _ hl (fun j hj=>by rw[List.getElem?_take,if_pos hj]) hrr,hl,fun j=>by have:=bK hff j;omega⟩;have hd:(w.drew).cell? ((⟨g,base,aj⟩:Addr).add j)=w.cell? ((⟨g,base,aj⟩:Addr).add j):=by simp
       rw[hd,Addr.add_lit,rS hh];rw[List.getElem?_take]at hj;split at hj
       ·rw[List.getElem?_drop]at hj;simpa using hj
       ·simp at hj
     obtain⟨olds,fv,hold,holen,hrr,hl,hfv⟩:=hold;have hrun:=hexec _ _ (by rw[hvx];exact run_append_grow_src (P:=P) w t t' o.type e i z (hT.slice hkd) hi hz p rows.length cap olds hold _ rows'.length news (by rw[hsi];exact hsrc) hg (by omega) hfit);have h3:=h2.drew.fresh (.cells ((olds++news).toArray++Builtin.zeroCells z.cells (grownCap w (rows.length+rows'.length) cap e-(rows.length+rows'.length))) e);have hge:=grownCap_ge w (rows.length+rows'.length) cap e;have hzs:z.cells.size=(T e).size:=by rw[<-hzl,<-hzz];simp
     have hsame:∀j,j<w.heap.size->(w.drew.alloc (.cells ((olds++news).toArray++Builtin.zeroCells z.cells (grownCap w (rows.length+rows'.length) cap e-(rows.length+rows'.length))) e)).heap[j]? = w.heap[j]?:=fun j hj=>heap_alloc_old w.drew _ hj
     have hlv:∀j,1<=fV j->j<w.heap.size:=fun j hj=>h2.lt j (by omega)
     have hly:∀j,1<=fY j->j<w.heap.size:=fun j hj=>h2.lt j (by omega)
     have r1:=aH.frame (G:=G'.pure) (G':=G'.pure) (fun _ h=>h) rfl (fun j hj=>hsame j (h2.fsize j hj)) _ _ _ (fun j hj=>hsame j (hlv j (by have:=hfv j;omega))) hrr;have r2:=aH.frame (G:=G.pure) (G':=G.pure) (fun _ h=>h) rfl (fun j hj=>hsame j (h1.fsize j hj)) _ _ _ (fun j hj=>hsame j (hly j (by have:=hf' j;omega))) hrr'
     have r3:=aH.append (k:=(T e).size) rows rows' (olds++(news++(Builtin.zeroCells z.cells (grownCap w (rows.length+rows'.length) cap e-(rows.length+rows'.length))).toList)) fv f' hl
      (rH _ _ _ _ hl (fun j hj=>by rw[List.getElem?_append_left (by omega)]) r1)
      (by
       rw[List.drop_append_of_le_length (by omega),List.drop_eq_nil_of_le (by omega),dy,hpure]
       exact rH _ _ _ _ hl' (fun j hj=>by rw[List.getElem?_append_left (by omega)]) r2)
     refine ow hrun h3 (sv:=.own (T e).size (rows++rows')) (fV:=fun j=>one w.heap.size j+(fv j+f' j)) ?_ (fun j=>by have:=hfv j;have:=hf' j;simp only[zf];have e1:w.drew.heap.size=w.heap.size:=rfl;rw[e1];omega) hk;simp only[R]
     refine .inr ⟨w.heap.size,0,grownCap w (rows.length+rows'.length) cap e,_,e,_,by rw[aP],by rw[aP];exact hge,heap_alloc_new w.drew _,?_,?_,by simpa[bD]using r3,rfl⟩
     ·have hzc:(Builtin.zeroCells z.cells (grownCap w (rows.length+rows'.length) cap e-(rows.length+rows'.length))).size=(grownCap w (rows.length+rows'.length) cap e-(rows.length+rows'.length))*(T e).size:=by
       rw[<-hzs];simp[Builtin.zeroCells]
      simp only[Array.size_append,List.size_toArray,aP,holen,hnl,hzc,<-Nat.add_mul]
      have:rows.length+rows'.length+(grownCap w (rows.length+rows'.length) cap e-(rows.length+rows'.length))=grownCap w (rows.length+rows'.length) cap e:=by omega
      rw[this];omega
     ·intro r hr;rcases List.mem_append.1 hr with hr|hr
      ·exact hl r hr
      ·exact hl' r hr
   ·exact hk.elim
  ·exact hk.elim
 ·exact hk.elim
end
end Go.AM
end
section
namespace Go.AM
def gK (K:St->Prop)(st:St):Prop :=
 ∀(w0 w:World) (L:Lv) (tmps:Array Value) (G:Gh),SR w0 L st tmps w G->∃st' G',K st'/\SR w0 L st' tmps w G'
mutual
def wk:SV->SV->Prop
 |_,.u=>True
 |.nil,.own _ rows=>rows=[]
 |.nil,.sl _ rows=>rows=[]
 |.agg xs,.agg ys=>wkL xs ys
 |.tup xs,.tup ys=>wkL xs ys
 |x,y=>x=y
def wkL:List SV->List SV->Prop
 |[],ys=>ys=[]
 | x::xs,ys=>match ys with
   |[]=>False
   |y::ys=>wk x y/\wkL xs ys
end
def wkRows:List (List SV)->List (List SV)->Prop
 |[],ys=>ys=[]
 | x::xs,ys=>match ys with
   |[]=>False
   |y::ys=>wkL x y/\wkRows xs ys
def wkObs:List Ob->List Ob->Prop
 |[],ys=>ys=[]
 | x::xs,ys=>match ys with
   |[]=>False
   |y::ys=>x.name=y.name/\x.k=y.k/\x.nm=y.nm/\wkRows x.rows y.rows/\wkObs xs ys
mutual
def uV:∀x:SV,wk x x
 |.u=>trivial
 |.sk=>rfl
 |.i _ _=>rfl
 |.b _=>rfl
 |.s _=>rfl
 |.sl _ _=>rfl
 |.own _ _=>rfl
 |.ar _=>rfl
 |.p _ _ _=>rfl
 |.ro _=>rfl
 |.nilp=>rfl
 |.nil=>rfl
 |.fn _ _=>rfl
 |.agg cs=>eP cs
 |.tup cs=>eP cs
def eP:∀l:List SV,wkL l l
 |[]=>rfl
 |x::l=>⟨uV x,eP l⟩
end
def na:∀l:List (List SV),wkRows l l
 |[]=>rfl
 |r::l=>⟨eP r,na l⟩
section
variable {w0 w w':World}{L:Lv}{st st1:St}{a:Act}{G G':Gh}{fE fO fX:FP}{K K':St->Prop}{tmps:Array Value}{T:Nat->TI}{C:zAz}{o:Oper}
mutual
def R.wk:∀(x y:SV) (v:Value) (f:FP),AM.wk x y->R w G x v f->∃f':FP,R w G y v f'/\∀j,f' j<=f j
 |x,.u,v,f,_,h=>⟨zf,gJ _ _ _,fun j=>Nat.zero_le _⟩
 | x,.own k rows,v,f,hw,h=>by
   cases x with
   | nil=>
     have:rows=[]:=hw;subst this;simp only[R]at h;exact⟨zf,by simp only[R];exact .inl ⟨trivial,trivial,h.2⟩,fun j=>Nat.zero_le _⟩
   |_=>simp only[AM.wk]at hw;first|(rw[<-hw];exact⟨f,h,fun j=>bJ _⟩)|cases hw
 | x,.sl k rows,v,f,hw,h=>by
   cases x with
   | nil=>
     have:rows=[]:=hw;subst this;simp only[R]at h;obtain⟨hf,p,hv⟩:=h;exact⟨zf,by simp only[R];exact⟨trivial,p,0,hv,bJ _,.inl trivial⟩,fun j=>Nat.zero_le _⟩
   |_=>simp only[AM.wk]at hw;first|(rw[<-hw];exact⟨f,h,fun j=>bJ _⟩)|cases hw
 | x,.agg ys,v,f,hw,h=>by
   cases x with
   | agg xs=>
     simp only[AM.wk]at hw;simp only[R]at h;obtain⟨vs,hv,hs,hr⟩:=h;obtain⟨f',h',hle,hl⟩:=RL.wk xs ys _ f hw hr;exact⟨f',by simp only[R];exact⟨vs,hv,by rw[hs,hl],h'⟩,hle⟩
   |_=>simp only[AM.wk]at hw;first|(rw[<-hw];exact⟨f,h,fun j=>bJ _⟩)|cases hw
 | x,.tup ys,v,f,hw,h=>by
   cases x with
   | tup xs=>
     simp only[AM.wk]at hw;simp only[R]at h;obtain⟨vs,hv,hs,hr⟩:=h;obtain⟨f',h',hle,hl⟩:=RL.wk xs ys _ f hw hr;exact⟨f',by simp only[R];exact⟨vs,hv,by rw[hs,hl],h'⟩,hle⟩
   |_=>simp only[AM.wk]at hw;first|(rw[<-hw];exact⟨f,h,fun j=>bJ _⟩)|cases hw
 | x,.sk,v,f,hw,h=>by
   have e:x = .sk:=by cases x<;>simpa[AM.wk]using hw
   exact⟨f,e▸h,fun j=>bJ _⟩
 | x,.i k n,v,f,hw,h=>by
   have e:x = .i k n:=by cases x<;>simpa[AM.wk]using hw
   exact⟨f,e▸h,fun j=>bJ _⟩
 | x,.b z,v,f,hw,h=>by
   have e:x = .b z:=by cases x<;>simpa[AM.wk]using hw
   exact⟨f,e▸h,fun j=>bJ _⟩
 | x,.s z,v,f,hw,h=>by
   have e:x = .s z:=by cases x<;>simpa[AM.wk]using hw
   exact⟨f,e▸h,fun j=>bJ _⟩
 | x,.ar z,v,f,hw,h=>by
   have e:x = .ar z:=by cases x<;>simpa[AM.wk]using hw
   exact⟨f,e▸h,fun j=>bJ _⟩
 | x,.p z z1 z2,v,f,hw,h=>by
   have e:x = .p z z1 z2:=by cases x<;>simpa[AM.wk]using hw
   exact⟨f,e▸h,fun j=>bJ _⟩
 | x,.ro z,v,f,hw,h=>by
   have e:x = .ro z:=by cases x<;>simpa[AM.wk]using hw
   exact⟨f,e▸h,fun j=>bJ _⟩
 | x,.nilp,v,f,hw,h=>by
   have e:x = .nilp:=by cases x<;>simpa[AM.wk]using hw
   exact⟨f,e▸h,fun j=>bJ _⟩
 | x,.nil,v,f,hw,h=>by
   have e:x = .nil:=by cases x<;>simpa[AM.wk]using hw
   exact⟨f,e▸h,fun j=>bJ _⟩
 | x,.fn z z1,v,f,hw,h=>by
   have e:x = .fn z z1:=by cases x<;>simpa[AM.wk]using hw
   exact⟨f,e▸h,fun j=>bJ _⟩
def RL.wk:∀(xs ys:List SV) (vs:List Value) (f:FP),AM.wkL xs ys->RL w G xs vs f->∃f':FP,RL w G ys vs f'/\(∀j,f' j<=f j)/\xs.length=ys.length
 |[],ys,vs,f,hw,h=>by simp only[AM.wkL]at hw;subst hw;exact⟨f,h,fun j=>bJ _,rfl⟩
 |x::xs,[],vs,f,hw,h=>by simp only[AM.wkL]at hw
 | x::xs,y::ys,vs,f,hw,h=>by
   simp only[AM.wkL]at hw;simp only[RL]at h;obtain⟨v,vs',f1,f2,hv,h1,h2,hff⟩:=h;obtain⟨g1,hg1,hl1⟩:=R.wk x y v f1 hw.1 h1;obtain⟨g2,hg2,hl2,hlen⟩:=RL.wk xs ys vs' f2 hw.2 h2;exact⟨fun j=>g1 j+g2 j,by simp only[RL];exact⟨v,vs',g1,g2,hv,hg1,hg2,rfl⟩,fun j=>by have:=bK hff j;have:=hl1 j;have:=hl2 j;dsimp only;omega,by simp[hlen]⟩
end
def aH.wk:∀(xs ys:List (List SV)) (vs:List Value) (f:FP),AM.wkRows xs ys->aH w G xs vs f->∃f':FP,aH w G ys vs f'/\(∀j,f' j<=f j)/\xs.length=ys.length/\∀k,(∀r∈xs,r.length=k)->∀r∈ys,r.length=k
 |[],ys,vs,f,hw,h=>by simp only[AM.wkRows]at hw;subst hw;exact⟨f,h,fun j=>bJ _,rfl,fun k _ r hr=>by simp at hr⟩
 |x::xs,[],vs,f,hw,h=>by simp only[AM.wkRows]at hw
 | x::xs,y::ys,vs,f,hw,h=>by
   simp only[AM.wkRows]at hw;simp only[aH]at h;obtain⟨f1,f2,h1,ho,h2,hff⟩:=h;obtain⟨g1,hg1,hl1,hlen1⟩:=RL.wk x y vs f1 hw.1 h1;obtain⟨g2,hg2,hl2,hlen2,hk2⟩:=aH.wk xs ys (vs.drop x.length) f2 hw.2 h2;refine⟨fun j=>g1 j+g2 j,by simp only[aH];exact⟨g1,g2,hg1,by rw[<-hlen1];exact ho,by rw[<-hlen1];exact hg2,rfl⟩,fun j=>by have:=bK hff j;have:=hl1 j;have:=hl2 j;dsimp only;omega,by simp[hlen2],?_⟩;intro k hk r hr;rcases List.mem_cons.1 hr with rfl|hr
   ·rw[<-hlen1];exact hk x (by simp)
   ·exact hk2 k (fun r hr=>hk r (by simp[hr])) r hr
def aW.wk:∀(xs ys:List Ob) (f:FP),AM.wkObs xs ys->aW w G xs f->∃f':FP,aW w G ys f'/\(∀j,f' j<=f j)/\aQ xs=aQ ys
 |[],ys,f,hw,h=>by simp only[AM.wkObs]at hw;subst hw;exact⟨f,h,fun j=>bJ _,rfl⟩
 |x::xs,[],f,hw,h=>by simp only[AM.wkObs]at hw
 | x::xs,y::ys,f,hw,h=>by
   simp only[AM.wkObs]at hw;obtain⟨hn,hk,hnm,hrows,hw⟩:=hw;obtain⟨f1,f2,h1,h2,hff⟩:=h;obtain⟨g2,hg2,hl2,hnames⟩:=aW.wk xs ys f2 hw h2;obtain⟨r,hr,hrk,hrn,hl,hm⟩:=h1;have hnames':aQ (x::xs)=aQ (y::ys):=by simp only[aQ,bF]at hnames ⊢;rw[hn,hnames]
   cases hb:r.blk with
   | none=>
     rw[hb]at hm;obtain⟨hx0,hf0⟩:=hm;have hy0:y.rows=[]:=by rw[hx0]at hrows;simpa[AM.wkRows]using hrows
     exact⟨fun j=>f1 j+g2 j,⟨f1,g2,⟨r,by rw[<-hn];exact hr,by rw[hrk,hk],by rw[hrn,hx0,hy0],by simp[hy0],by rw[hb];exact⟨hy0,hf0⟩⟩,hg2,rfl⟩,fun j=>by have:=bK hff j;have:=hl2 j;dsimp only;omega,hnames'⟩
   | some q=>
     obtain⟨g,base,csz⟩:=q;rw[hb]at hm;obtain⟨c,e,f',hh,hs,hbb,hrr,hf1⟩:=hm;obtain⟨g1,hg1,hl1,hlen,hk1⟩:=aH.wk x.rows y.rows _ f' hrows hrr;refine⟨fun j=>(one g j+g1 j)+g2 j,⟨fun j=>one g j+g1 j,g2,⟨r,by rw[<-hn];exact hr,by rw[hrk,hk],by rw[hrn,hlen],by rw[<-hk];exact hk1 x.k hl,?_⟩,hg2,rfl⟩,fun j=>by have:=bK hff j;have:=hl2 j;have:=bK hf1 j;have:=hl1 j;dsimp only;omega,hnames'⟩;rw[hb];exact⟨c,e,g1,hh,hs,hbb,by rw[<-hnm];exact hg1,rfl⟩
def E8 (st':St)(he:wkL st.env st'.env)(ho:wkObs st.ob st'.ob)(h:K st'):gK K st:=by
 intro w0 w L tmps G ⟨fE,fO,hc⟩;obtain⟨fE',hE,hle,hlen⟩:=RL.wk _ _ _ _ he hc.E;obtain⟨fO',hO,hleO,hnames⟩:=aW.wk _ _ _ ho hc.O;refine⟨st',G,h,fE',fO',?_⟩
 exact
  {size:=by rw[hc.size,hlen]
   E:=hE,O:=hO
   le:=fun g=>by have:=hc.le g;have:=hle g;have:=hleO g;omega
   fz:=fun g hg=>by have:=hc.fz g hg;have:=hle g;have:=hleO g;omega
   lf:=fun g hg=>by have:=hc.lf g hg;have:=hle g;have:=hleO g;omega
   lt:=fun g hg=>hc.lt g (by have:=hle g;have:=hleO g;omega)
   nodup:=by rw[<-hnames];exact hc.nodup
   fl:=hc.fl,fm:=hc.fm,bk:=hc.bk,fsize:=hc.fsize,keep:=hc.keep,lsize:=hc.lsize,grow:=hc.grow,os:=hc.os,tape:=hc.tape,output:=hc.output}
def bX {b:Bool}{K:Prop}(h:chk b K):b=ae/\K:=by
 unfold chk at h;split at h
 ·exact⟨rfl,h⟩
 ·exact h.elim
def dZ {a b:Nat}(h:ble a b=ae):a<=b:=Nat.le_of_ble_eq_true h
def d_ (h:K st):gK K st:=fun _ _ _ _ G hs=>⟨st,G,h,hs⟩
def nb (h:gK K st)(hk:∀ st,K st->K' st):gK K' st:=fun w0 w L t G hs=>
 let⟨st',G',h1,h2⟩:=h w0 w L t G hs;⟨st',G',hk _ h1,h2⟩
def gh (h:gK (gK K) st):gK K st:=fun w0 w L t G hs=>by
 obtain⟨st',G',h1,h2⟩:=h w0 w L t G hs;exact h1 w0 w L t G' h2
def uJ {o:Nat}:∀(l:List Ob) (f:FP) (x:Ob),bu l o=U x->aW w G l f->∃f1 f2:FP,RO w G x f1/\∀j,f1 j+f2 j=f j
 |[],f,x,hg,h=>by simp[bu]at hg
 | y::l,f,x,hg,h=>by
   obtain⟨f1,f2,h1,h2,hff⟩:=h;simp only[bu]at hg;split at hg
   ·simp at hg;subst hg;exact⟨f1,f2,h1,fun j=>(bK hff j).symm⟩
   ·obtain⟨g1,g2,ha,hab⟩:=uJ l f2 x hg h2;exact⟨g1,fun j=>f1 j+g2 j,ha,fun j=>by have:=bK hff j;have:=hab j;dsimp only;omega⟩
def rT {x:Ob}{i:Nat}{row:List SV}{B:List SV->Prop}(hx:x.rows[i]? = U row)(h:B row):jn x i B:=by
 unfold jn;split
 ·rw[hx];exact h
 ·intro r hr;rw[hx]at hr;cases hr;exact h
def nc {α:Type}{l:List α}{i:Nat}{r:α}(h:l[i]? = U r):i<l.length:=by
 rcases Nat.lt_or_ge i l.length with hl|hl
 ·exact hl
 ·rw[List.getElem?_eq_none hl]at h;cases h
def pY:∀(ks:List TK) (row:List SV) (B:List SV->Prop),l_ T ks row->jN T ks B->B row
 |[],row,B,hs,h=>by simp only[l_]at hs;subst hs;exact h
 |k::ks,[],B,hs,h=>by simp only[l_]at hs
 | k::ks,c::cs,B,hs,h=>by
   obtain⟨h1,h2⟩:=hs;cases k with
   | int k=>cases c with
     |i k' n=>simp only at h1;subst h1;exact pY ks cs _ h2 (h n)
     |_=>simp only at h1
   | bool=>cases c with
     |b x=>exact pY ks cs _ h2 (h x)
     |_=>simp only at h1
   | str=>cases c with
     |s x=>exact pY ks cs _ h2 (h x)
     |_=>simp only at h1
   | slice e=>cases c with
     |sl n rows=>simp only at h1;subst h1;exact pY ks cs _ h2 (h rows)
     |_=>simp only at h1
   |_=>exact h.elim
def E9 {op:BinOp}{x y:SV}{K:SV->Prop}(h:ly op x y K):mV op x y K:=by
 unfold ly at h;unfold mV;split at h
 ·split at h
  ·have:=bX h;exact⟨of_decide_eq_true this.1,this.2⟩
  ·have:=bX h;exact⟨of_decide_eq_true this.1,this.2⟩
  ·have:=bX h;exact⟨of_decide_eq_true this.1,this.2⟩
  ·have:=bX h;exact⟨of_decide_eq_true this.1,this.2⟩
  ·have:=bX h;exact⟨of_decide_eq_true this.1,this.2⟩
  ·exact h
  ·exact h
  ·split at h
   ·rename_i hb;try simp only[hb]
    have:=bX h;exact⟨of_decide_eq_true this.1,this.2⟩
   ·exact h.elim
  ·split at h
   ·rename_i hb;try simp only[hb]
    have:=bX h;exact⟨of_decide_eq_true this.1,this.2⟩
   ·exact h.elim
  ·split at h
   ·rename_i hb;try simp only[hb]
    have:=bX h;exact⟨of_decide_eq_true this.1,this.2⟩
   ·exact h.elim
  ·split at h
   ·rename_i hb;try simp only[hb]
    have:=bX h;exact⟨of_decide_eq_true this.1,this.2⟩
   ·exact h.elim
 ·exact h
 ·exact h.elim
def uW {op:BinOp}{x y:SV}{K K':SV->Prop}(h:mV op x y K)(hk:∀ v,K v->K' v):mV op x y K':=by
 unfold mV at *;split at h
 ·split at h
  ·exact⟨h.1,hk _ h.2⟩
  ·exact⟨h.1,hk _ h.2⟩
  ·exact⟨h.1,hk _ h.2⟩
  ·exact⟨h.1,h.2.1,hk _ h.2.2⟩
  ·exact⟨h.1,h.2.1,hk _ h.2.2⟩
  ·exact⟨h.1,hk _ h.2⟩
  ·exact⟨h.1,hk _ h.2⟩
  ·split at h
   ·exact⟨h.1,hk _ h.2⟩
   ·exact h
  ·split at h
   ·exact⟨h.1,hk _ h.2⟩
   ·exact h
  ·split at h
   ·exact⟨h.1,hk _ h.2⟩
   ·exact h
  ·split at h
   ·exact⟨h.1,hk _ h.2⟩
   ·exact h
 ·split at h
  ·exact⟨h.1,hk _ h.2⟩
  ·split at h
   ·exact hk _ h
   ·exact h
 ·exact h
def E_ {ob i off d:Nat}(hk:jq ob i off d K st):gK K st:=by
 unfold jq at hk;split at hk
 ·rename_i x hg;split at hk
  ·rename_i row hrow;split at hk
   ·rename_i k rows hcl;obtain⟨h1,hk⟩:=bX hk;simp only[aK,bne_iff_ne]at h1;obtain⟨⟨⟨hd0,hne⟩,hnm⟩,hoff0⟩:=h1;have hd:d<100000:=Nat.le_of_ble_eq_true hd0;have hoff:=dZ hoff0;intro w0 w L tmps G ⟨fE,fO,h⟩
    have hcell:(row.drop off).take 1=[.own k rows]:=by
     rw[pV row off (by omega)]at hcl;rw[List.drop_eq_getElem_cons (by omega)];simp[hcl]
    obtain⟨f1,f2,hro,_⟩:=uJ _ _ _ hg h.O;obtain⟨r,hr,hrk,hrn,hl,hm⟩:=hro;rw[kc _ _ _ hg]at hr;obtain⟨blk,rk,rn⟩:=r;cases blk with
    |none=>simp only at hm;rw[hm.1]at hrow;simp at hrow
    |some q=>
    obtain⟨g0,base0,csz0⟩:=q
    have hp:R w G (.p ob i off) (.pointer (U ⟨g0,base0+i*rk+off,aj⟩)) zf:=by
     simp only[R]
     exact⟨trivial,g0,base0,csz0,rk,rn,hr,rfl⟩
    obtain⟨g,b,c,e,fr,f,hv,hh,hle,hr,hput⟩:=h.row (m:=1) hg hrow hoff hp;simp only[hnm,if_true]at hr hput;rw[hcell]at hr;have hlt:b<c.size:=by omega
    have hu:(c.toList.drop b).take 1=[c[b]]:=by rw[List.drop_eq_getElem_cons (by simpa using hlt)];simp
    have hdrop:c.toList.drop b=c[b]::c.toList.drop (b+1):=by rw[List.drop_eq_getElem_cons (by simpa using hlt)];simp
    rw[hu]at hr;simp only[RL]at hr;obtain⟨u',us,f1,f2,hu',hru,hz,hff⟩:=hr;simp only[List.cons.injEq]at hu';obtain⟨rfl,rfl⟩:=hu';obtain⟨r,hro,har⟩:=hru.name d;obtain⟨fO2,h2⟩:=hput [.u] zf f rfl (by simp only[RL];exact⟨c[b],c.toList.drop (b+1),zf,zf,hdrop,gJ _ _ _,rfl,by funext j;simp[zf]⟩) (fun j=>by simp[zf]);obtain⟨fO3,h3⟩:=h2.addOb d k hd rows ag r (fX':=zf) hro (fun j=>by have:=bK hff j;simp only[zf];omega)
    change (match bu (AM.addOb ⟨st.env,dz st.ob ob (x.rows.set i (wr row off [.u]))⟩ d k rows ag).ob ob with
     |some y=>_|none=>False)at hk
    split at hk
    ·rename_i x1 hx1;split at hk
     ·rename_i row1 hrow1;obtain⟨h1,hk⟩:=bX hk;simp only[aK]at h1;obtain⟨hnm1,hoff1⟩:=h1;have hoff1:=dZ hoff1
      have hp3:R w (G.bind d r) (.p ob i off) (.pointer (U ⟨g0,base0+i*rk+off,aj⟩)) zf:=by
       simp only[R]at hp ⊢;rw[zU ob (Ne.symm hne)];exact hp
      obtain⟨g',b',c',e',fr',f',hv',hh',hle',hr',hput'⟩:=h3.row (m:=1) hx1 hrow1 hoff1 hp3;rw[hv]at hv';simp only[Value.pointer.injEq,aF,Addr.mk.injEq,and_true]at hv';obtain⟨rfl,rfl⟩:=hv';rw[hh]at hh';simp only[aF,Obj.cells.injEq]at hh';obtain⟨rfl,rfl,rfl⟩:=hh';simp only[hnm1,if_true]at hput';obtain⟨fO4,h4⟩:=hput' [.ar d] zf zf rfl (by simp only[RL];exact⟨c[b],c.toList.drop (b+1),zf,zf,hdrop,har,rfl,by funext j;simp[zf]⟩) (fun j=>by simp[zf]);exact⟨_,G.bind d r,hk,_,fO4,h4⟩
     ·exact hk.elim
    ·exact hk.elim
   ·exact d_ hk
  ·exact hk.elim
 ·exact hk.elim
def Fa {ob i d:Nat}:∀(n j:Nat) {K:St->Prop} {st:St},m8 ob i d n j K st->gK K st
 |0,j,K,st,h=>d_ h
 |n+1,j,K,st,h=>gh (nb (E_ h) fun s hs=>Fa n (j+1) hs)
def MY {t:Nat}{o:Nat}{i off:Nat}{d:Option Tmp}{K:St->Prop}(h:m9 T t o i off d K st):iY T t (.p o i off) d st K:=by
 unfold m9 at h;unfold iY;split at h
 ·rename_i x hx;split at h
  ·rename_i row hrow;obtain⟨h1,h2⟩:=bX h;simp only[aK,Bool.not_eq_true']at h1;simp only[hx]
   refine⟨h1.1.1,nc hrow,rT hrow ⟨dZ h1.1.2,?_⟩⟩;have h8:=h1.2;generalize valOf T t (de (T t).size (cU off row))=v at *;cases v with
   |own k rows=>simp[cu]at h8
   | _=>
     first
     |(rw[if_neg (by rw[h8];simp)];exact h2)
     |(simp only[] ;rw[if_neg (by rw[h8];simp)];exact h2)
  ·exact h.elim
 ·exact h.elim
def MZ {t:Nat}{o:Nat}{i off:Nat}{x:Ob}{d:Option Tmp}{K:St->Prop}(hx:bu st.ob o=U x)(h:pU T t o i off x d K st):iY T t (.p o i off) d st K:=by
 unfold pU at h;unfold iY;simp only[hx]
 split at h
 ·rename_i e he;split at h
  ·rename_i d;obtain⟨h1,h2,h3⟩:=bX h;simp only[aK,beq_iff_eq]at h1;have hr:=bI h2;obtain⟨⟨h4,r,h5⟩,h6⟩:=h3 _ hr;refine⟨h1.1,h2,rT hr ⟨by rw[h1.2];exact h4,?_⟩⟩
   have hv:valOf T t (de (T t).size (cU off x.rows[i])) = .own (T e).size r:=by
    rw[h1.2,h5];unfold valOf;rw[he];rfl
   rw[hv];exact .inr (h6 r h5)
  ·exact h.elim
 ·obtain⟨h1,h2,h3⟩:=bX h;refine⟨h1,h2,?_⟩;have hr:=bI h2;obtain⟨⟨h4,h5⟩,h6⟩:=h3 _ hr;refine rT hr ⟨h4,?_⟩;have h7:=pY _ _ _ h5 h6 rfl;obtain⟨h8,h9⟩:=bX h7;simp only[Bool.not_eq_true']at h8;generalize valOf T t (de (T t).size (cU _ _))=v at *;cases v with
  |own k rows=>simp[cu]at h8
  | _=>
    first
    |(rw[if_neg (by rw[h8];simp)];exact h9)
    |(simp only[] ;rw[if_neg (by rw[h8];simp)];exact h9)
def M0 {t:Nat}{a:Operand}{d:Option Tmp}{K:St->Prop}(h:rM T t a d st K):gK (fun s=>iY T t (ev s.env a) d s K) st:=by
 unfold rM at h;split at h
 ·rename_i cells hv;obtain⟨h1,h2⟩:=bX h;simp only[aK,bne_iff_ne]at h1;refine d_ ?_;rw[hv];exact⟨h1.1.1,h1.1.2,dZ h1.2,h2⟩
 ·rename_i o i off hv;split at h
  ·rename_i x hx;split at h
   ·refine nb (Fa _ _ h) fun s hs=>?_
    unfold rL at hs;split at hs
    ·rename_i hv';rw[hv'];exact MY hs
    ·exact hs.elim
   ·refine d_ ?_;rw[hv];exact MZ hx h
  ·exact h.elim
 ·exact h.elim
def Fb:∀xs ys:List SV,uL xs ys->wkL xs ys
 |[],_,h=>h
 |_::_,[],h=>h.elim
 | x::xs,y::ys,⟨h1,h2⟩=>by
   refine⟨?_,Fb xs ys h2⟩;rcases h1 with rfl|⟨rfl,k,rfl|rfl⟩
   ·exact uV _
   ·rfl
   ·rfl
def Fc:∀cs cs' row:List SV,wkL cs cs'->wkL (lY cs row) (lY cs' row)
 |[],cs',row,h=>by rw[show cs'=[]from h];exact eP _
 |_::_,[],_,h=>h.elim
 |c::cs,c'::cs',[],_=>rfl
 |c::cs,c'::cs',r::row,h=>⟨h.1,Fc cs cs' row h.2⟩
def Fe (cs cs':List SV)(h:wkL cs cs'):∀(row:List SV) (n:Nat),wkL (wr row n cs) (wr row n cs')
 |row,0=>by simp only[wr];exact Fc cs cs' row h
 |[],n+1=>rfl
 |x::row,n+1=>⟨uV x,Fe cs cs' h row n⟩
def uX {r r':List SV}(h:wkL r r'):∀(rows:List (List SV)) (i:Nat),wkRows (rows.set i r) (rows.set i r')
 |[],i=>rfl
 |x::l,0=>⟨h,na l⟩
 |x::l,i+1=>⟨eP x,uX h l i⟩
def Ff:∀l:List Ob,wkObs l l
 |[]=>rfl
 |x::l=>⟨rfl,rfl,rfl,na _,Ff l⟩
def Fg {o:Nat}{rows rows':List (List SV)}(h:wkRows rows rows'):∀l:List Ob,wkObs (dz l o rows) (dz l o rows')
 |[]=>rfl
 | x::l=>by
   unfold dz;by_cases hx:x.name=o
   ·rw[if_pos hx,if_pos hx];exact⟨rfl,rfl,rfl,h,Ff l⟩
   ·rw[if_neg hx,if_neg hx];exact⟨rfl,rfl,rfl,na _,Fg h l⟩
def M1 {t:Nat}{a:SV}{x:Operand}{d:Option Tmp}{K:St->Prop}(h:uM T t a x st (kJ d K)):ou T t a x st (kJ d (gK K)):=by
 unfold uM at h;unfold ou;split at h
 ·split at h
  ·rename_i y hy;obtain⟨h1,h2⟩:=bX h;simp only[aK,Bool.or_eq_true,beq_iff_eq]at h1;obtain⟨⟨⟨h3,h4⟩,h5⟩,h6⟩:=h1;split at h2
   ·split at h2
    ·rename_i row hr;obtain⟨h7,h8⟩:=bX h2;exact⟨h3,nc hr,rT hr ⟨dZ h7,h4,h5,h6,d_ h8⟩⟩
    ·exact h2.elim
   ·obtain⟨h7,h8⟩:=h2;have hr:=bI h7;obtain⟨h9,cs,hcs,h10⟩:=h8 _ hr;refine⟨h3,h7,rT hr ⟨h9,h4,h5,h6,?_⟩⟩;refine E8 _ ?_ ?_ h10
    ·cases d<;>exact eP _
    ·cases d<;>exact Fg (uX (Fe _ _ (Fb _ _ hcs) _ _) y.rows _) (dA st x).ob
  ·exact h.elim
 ·exact h.elim
def M3 {t:Nat}{x:Operand}{lo hi mx:Option Operand}{d:Option Tmp}{K:St->Prop}(h:rN T t x lo hi mx d st K):kb T t x lo hi mx d st K:=by
 unfold rN at h;split at h
 ·rename_i e k rows hk hv;unfold kb;simp only[hk,hv]
  obtain⟨h1,h2⟩:=bX h;simp only[aK,beq_iff_eq]at h1;refine⟨h1.1,h1.2,?_⟩;split at h2
  ·split at h2
   ·exact⟨h2.1.1,h2.1.2.1,h2.1.2.2,h2.2⟩
   ·exact h2.elim
  ·split at h2
   ·rename_i h3 h4 h5 h6;obtain⟨⟨q1,q2,q3,q4,q5⟩,q6⟩:=h2;exact⟨q1,q2,q3,q4,by rw[if_neg q5];exact q6⟩
   ·exact h2.elim
 ·exact h
def Fh:∀(ks:List TK) (row:List SV),wkL row (jo T ks row)
 |[],row=>eP row
 |_::_,[]=>rfl
 | k::ks,v::vs=>by
   simp only[jo,wkL]
   refine⟨?_,Fh ks vs⟩;unfold pT;split
   ·rfl
   ·exact uV _
def Am (ks:List TK):∀rows:List (List SV),wkRows rows (mZ T ks rows)
 |[]=>rfl
 |r::l=>⟨Fh ks r,Am ks l⟩
def Fi {t:Nat}{a:SV}{d:Option Tmp}{K K':St->Prop}(h:iY T t a d st K)(hk:∀ s,K s->K' s):iY T t a d st K':=by
 unfold iY at *;split at h
 ·exact⟨h.1,h.2.1,h.2.2.1,hk _ h.2.2.2⟩
 ·split at h
  ·refine⟨h.1,h.2.1,h.2.2.mono fun row ⟨hr,h2⟩=>⟨hr,?_⟩⟩;split at h2
   ·split at h2
    ·rcases h2 with h2|h2
     ·left;refine⟨h2.1,h2.2.1,h2.2.2.1,?_⟩;have h3:=h2.2.2.2;unfold openK at *;split at h3
      ·exact⟨h3.1,h3.2.1,h3.2.2.mono fun r ⟨hr,h⟩=>⟨hr,hk _ h⟩⟩
      ·exact h3
     ·exact .inr (hk _ h2)
    ·exact h2
   ·split at h2
    ·rename_i hh;rw[if_pos hh];exact⟨h2.1,h2.2.1,hk _ h2.2.2⟩
    ·rename_i hh;rw[if_neg hh];exact hk _ h2
  ·exact h
 ·exact h
def M4 {t:Nat}{a:SV}{x:Operand}{K K':St->Prop}(h:ou T t a x st K)(hk:∀ s,K s->K' s):ou T t a x st K':=by
 unfold ou at *;split at h
 ·split at h
  ·exact⟨h.1,h.2.1,h.2.2.mono fun row ⟨h1,h2,h3,h4,h5⟩=>⟨h1,h2,h3,h4,hk _ h5⟩⟩
  ·exact h
 ·exact h
def Fj {t:Nat}{x:Operand}{lo hi mx:Option Operand}{d:Option Tmp}{K K':St->Prop}(h:kb T t x lo hi mx d st K)(hk:∀ s,K s->K' s):kb T t x lo hi mx d st K':=by
 unfold kb at *;split at h
 ·split at h
  ·exact⟨h.1,h.2.1,h.2.2.1,hk _ h.2.2.2⟩
  ·exact h
 ·refine⟨h.1,h.2.1,?_⟩;have h3:=h.2.2;split at h3
  ·split at h3
   ·exact⟨h3.1,h3.2.1,h3.2.2.1,hk _ h3.2.2.2⟩
   ·exact h3
  ·split at h3
   ·refine⟨h3.1,h3.2.1,h3.2.2.1,h3.2.2.2.1,?_⟩;have h4:=h3.2.2.2.2;split at h4
    ·rename_i hc;rw[if_pos hc];exact hk _ h4
    ·rename_i hc;rw[if_neg hc];exact hk _ h4
   ·exact h3
 ·split at h
  ·exact⟨h.1,hk _ h.2⟩
  ·exact h
 ·split at h
  ·refine⟨h.1,h.2.1,?_⟩;have h3:=h.2.2;split at h3
   ·exact⟨h3.1,h3.2.1,h3.2.2.1,hk _ h3.2.2.2⟩
   ·exact h3
  ·exact h
 ·exact h
def Mo {x y:SV}(hR:∀ v f,R w G x v f->∃ f':FP,R w G y v f'/\∀ j,f' j<=f j):∀(l:List SV) (t:Nat) (vs:List Value) (f:FP),RL w G (cI l t x) vs f->∃f':FP,RL w G (cI l t y) vs f'/\∀j,f' j<=f j
 |[],t,vs,f,h=>⟨f,h,fun j=>bJ _⟩
 | z::l,0,vs,f,h=>by
   simp only[cI,RL]at h ⊢;obtain⟨v,vs',f1,f2,hv,h1,h2,hff⟩:=h;obtain⟨g1,hg1,hl1⟩:=hR v f1 h1;exact⟨fun j=>g1 j+f2 j,⟨v,vs',g1,f2,hv,hg1,h2,rfl⟩,fun j=>by have:=bK hff j;have:=hl1 j;dsimp only;omega⟩
 | z::l,t+1,vs,f,h=>by
   simp only[cI,RL]at h ⊢;obtain⟨v,vs',f1,f2,hv,h1,h2,hff⟩:=h;obtain⟨g2,hg2,hl2⟩:=Mo hR l t vs' f2 h2;exact⟨fun j=>f1 j+g2 j,⟨v,vs',f1,g2,hv,h1,hg2,rfl⟩,fun j=>by have:=bK hff j;have:=hl2 j;dsimp only;omega⟩
def Fk {d:Option Tmp}{x y:SV}{K:St->Prop}(hR:∀ w G v f,R w G x v f->∃ f':FP,R w G y v f'/\∀ j,f' j<=f j)(h:K (aZ st d y)):gK K (aZ st d x):=by
 cases d with
 |none=>exact d_ h
 | some t=>
   intro w0 w L tmps G ⟨fE,fO,hc⟩;obtain⟨fE',hE,hle⟩:=Mo (hR w G) _ _ _ _ hc.E
   have e:∀(l:List SV) (t:Nat) (x:SV),(cI l t x).length=l.length:=by
    intro l
    induction l with
    |nil=>intro t x;rfl
    |cons z l ih=>intro t x;cases t<;>simp[cI,ih]
   refine⟨_,G,h,fE',fO,?_⟩
   exact
    {size:=by rw[hc.size];simp only[aZ,b_,e]
     E:=hE,O:=hc.O
     le:=fun g=>by have:=hc.le g;have:=hle g;omega
     fz:=fun g hg=>by have:=hc.fz g hg;have:=hle g;omega
     lf:=fun g hg=>by have:=hc.lf g hg;have:=hle g;omega
     lt:=fun g hg=>hc.lt g (by have:=hle g;omega)
     nodup:=hc.nodup
     fl:=hc.fl,fm:=hc.fm,bk:=hc.bk,fsize:=hc.fsize,keep:=hc.keep,lsize:=hc.lsize,grow:=hc.grow,os:=hc.os,tape:=hc.tape,output:=hc.output}
def R.own_wk {k:Nat}{rows rows':List (List SV)}(hw:wkRows rows rows'){v:Value}{f:FP}(h:R w G (.own k rows) v f):∃f':FP,R w G (.own k rows') v f'/\∀j,f' j<=f j:=by
 simp only[R]at h ⊢;rcases h with⟨hr,hf,a,hv⟩|⟨g,base,cap,c,e,f1,hv,hcap,hh,hb,hk,hrr,hf⟩
 ·subst hr;have:rows'=[]:=hw;subst this;exact⟨zf,.inl ⟨rfl,rfl,a,hv⟩,fun j=>by simp[zf]⟩
 ·obtain⟨g1,hg1,hl1,hlen,hk1⟩:=aH.wk rows rows' _ f1 hw hrr;refine⟨fun j=>one g j+g1 j,.inr ⟨g,base,cap,c,e,g1,by rw[hv,hlen],by rw[<-hlen];exact hcap,hh,hb,hk1 k hk,hg1,rfl⟩,fun j=>by have:=bK hf j;have:=hl1 j;dsimp only;omega⟩
def M5 (hv:∀ c f,o.op = .call c->c.callee ≠ .value f)(h:bO T C o st K)(hl:∀ t x,o.op ≠ .load t x):a9 T C o st (gK K):=by
 have same:a9 T C o st K->(∀c f,o.op = .call c->c.callee ≠ .value f)->a9 T C o st (gK K):=by
  intro h hv;unfold a9 at *;have g:∀s,K s->gK K s:=fun s hs=>d_ hs
  cases ho:o.op with
  |move x=>rw[ho]at h;simp only at *;split at h;· split at h
                                                  ·exact⟨h.1,g _ h.2⟩
                                                  ·split at h
                                                   ·rename_i hh;rw[if_pos hh];exact g _ h
                                                   ·rename_i hh;rw[if_neg hh];exact g _ h
           ·exact g _ h
  |assign x=>rw[ho]at h;exact g _ h
  | pick c x y=>
    rw[ho]at h;simp only at *;split at h
    ·exact g _ h
    ·exact cnd.mk (fun e=>g _ (uH h e)) (fun e=>g _ (cnd.no h e))
    ·exact h
  |nilCheck x=>rw[ho]at h;simp only at *;split at h;exact g _ h;exact g _ h;exact h
  | binOp op t x y ty=>
    rw[ho]at h;simp only at *;split at h
    ·split at h
     ·split at h
      ·exact g _ h
      ·exact g _ h
      ·exact h
     ·exact h
    ·split at h
     ·exact⟨h.1,fun z hz=>g _ (h.2 z hz)⟩
     ·exact⟨h.1,fun z hz=>g _ (h.2 z hz)⟩
     ·exact h
    ·split at h
     ·exact g _ h
     ·exact g _ h
     ·exact h
    ·split at h
     ·exact⟨h.1,fun z=>g _ (h.2 z)⟩
     ·exact⟨h.1,fun z=>g _ (h.2 z)⟩
     ·exact h
    ·exact uW h fun v hk=>g _ hk
  |unOp op t x=>rw[ho]at h;simp only at *;split at h;exact g _ h;exact g _ h;exact h
  | convert s d x=>
    rw[ho]at h;simp only at *;split at h
    ·exact⟨h.1,g _ h.2⟩
    ·split at h
     ·exact g _ h
     ·exact h
    ·split at h
     ·exact g _ h
     ·split at h
      ·exact g _ h
      ·exact h
     ·split at h
      ·exact g _ h
      ·exact h
     ·exact h
    ·exact h
  | makeSlice t l c=>
    rw[ho]at h;simp only at *;split at h
    ·exact⟨h.1,h.2.1,h.2.2.1,h.2.2.2.1,h.2.2.2.2.1,g _ h.2.2.2.2.2⟩
    ·exact h
  | index t x i=>
    rw[ho]at h;simp only at *;split at h
    ·exact⟨h.1,fun c hc=>g _ (h.2 c hc)⟩
    ·exact h
  | call c=>
    rw[ho]at h;simp only at *;split at h
    ·split at h
     ·split at h
      ·exact g _ h
      ·split at h
       ·exact g _ h
       ·exact h
      ·exact h
     ·exact h
    ·split at h
     ·split at h
      ·split at h
       ·exact⟨h.1,h.2.1,h.2.2.1,h.2.2.2.1,h.2.2.2.2.1,g _ h.2.2.2.2.2⟩
       ·exact h
      ·exact h
     ·exact h
    ·rename_i f hf;exact absurd hf (hv c f ho)
    ·exact h
  |alloc e=>rw[ho]at h;simp only at *;split at h;exact⟨h.1,h.2.1,g _ h.2.2⟩;exact h
  |box e x=>rw[ho]at h;simp only at *;split at h;exact⟨h.1,h.2.1,h.2.2.1,h.2.2.2.1,g _ h.2.2.2.2⟩;exact h
  |build t ps=>rw[ho]at h;simp only at *;split at h;exact⟨h.1,h.2.1,h.2.2.1,g _ h.2.2.2⟩;exact h
  |buildSlice t n ps=>rw[ho]at h;simp only at *;split at h;exact⟨h.1,h.2.1,h.2.2.1,h.2.2.2.1,h.2.2.2.2.1,g _ h.2.2.2.2.2⟩;exact h
  |load t x=>rw[ho]at h;exact Fi h g
  |store t x y=>rw[ho]at h;exact M4 h fun s hs=>g _ hs
  |makeFunc f fs cs=>rw[ho]at h;simp only at *;split at h;exact⟨h.1,h.2.1,g _ h.2.2⟩;exact h
  |slice t x lo hi mx=>rw[ho]at h;exact Fj h g
  | fieldAddr s x f=>
    rw[ho]at h;simp only at *;split at h
    ·split at h
     ·exact⟨h.1,h.2.1,g _ h.2.2⟩
     ·exact h
    ·split at h
     ·exact⟨h.1,h.2.1,g _ h.2.2⟩
     ·exact h
    ·exact h
  | field s x f=>
    rw[ho]at h;simp only at *;split at h
    ·split at h
     ·exact⟨h.1,h.2.1,h.2.2.1,g _ h.2.2.2⟩
     ·exact h
    ·exact h
  | indexAddr t x i=>
    rw[ho]at h;simp only at *;split at h
    ·exact⟨h.1,h.2.1,h.2.2.1,fun r hr=>g _ (h.2.2.2 r hr)⟩
    ·exact⟨h.1,h.2.1,h.2.2.1,fun r hr=>g _ (h.2.2.2 r hr)⟩
    ·split at h
     ·exact⟨h.1,h.2.1,h.2.2.1,g _ h.2.2.2⟩
     ·exact h
    ·exact h
  | extract x j=>
    rw[ho]at h;simp only at *;split at h
    ·split at h
     ·exact⟨h.1,g _ h.2⟩
     ·exact h
    ·exact h
  |_=>rw[ho]at h;exact h
 have g:∀s,K s->gK K s:=fun s hs=>d_ hs
 unfold bO at h;cases ho:o.op with
 | alloc e=>
   rw[ho]at h;simp only at h;unfold a9;rw[ho];simp only
   split at h
   ·obtain⟨h1,h2⟩:=bX h;simp only[aK]at h1;exact⟨Nat.le_of_ble_eq_true h1.1,h1.2,g _ h2⟩
   ·exact h
 | box e x=>
   rw[ho]at h;simp only at h;unfold a9;rw[ho];simp only
   split at h
   ·obtain⟨h1,h2⟩:=bX h;simp only[aK,beq_iff_eq]at h1;exact⟨Nat.le_of_ble_eq_true h1.1.1.1,h1.1.1.2,h1.1.2,h1.2,g _ h2⟩
   ·exact h
 | build t ps=>
   rw[ho]at h;simp only at h;unfold a9;rw[ho];simp only
   split at h
   ·obtain⟨h1,h2⟩:=bX h;simp only[aK]at h1;exact⟨h1.1.1,h1.1.2,h1.2,g _ h2⟩
   ·exact h
 | buildSlice t n ps=>
   rw[ho]at h;simp only at h;unfold a9;rw[ho];simp only
   split at h
   ·obtain⟨h1,h2⟩:=bX h;simp only[aK,beq_iff_eq]at h1;refine⟨h1.1.1.1.1,h1.1.1.1.2,dZ h1.1.1.2,h1.1.2,h1.2,?_⟩;exact Fk (fun w G v f hr=>R.own_wk (Am _ _) hr) h2
   ·exact h
 |load t x=>exact absurd ho (hl t x)
 |store t x y=>rw[ho]at h;unfold a9;rw[ho];exact M1 h
 | binOp op t x y ty=>
   rw[ho]at h;simp only at h;split at h
   ·rename_i k a k' b hx hy;unfold a9;rw[ho];simp only[hx,hy]
    exact uW (E9 h) fun v hk=>g _ hk
   ·rename_i a b hx hy;unfold a9;rw[ho];simp only[hx,hy]
    exact uW (E9 h) fun v hk=>g _ hk
   ·exact same h hv
 | convert s d x=>
   rw[ho]at h;simp only at h;split at h
   ·rename_i k kk n hk hx;unfold a9;rw[ho];simp only[hk,hx]
    have:=bX h;exact⟨this.1,g _ this.2⟩
   ·exact same h hv
 | makeFunc f fs cs=>
   rw[ho]at h;simp only at h;unfold a9;rw[ho];simp only
   split at h
   ·obtain⟨h1,h2⟩:=bX h;simp only[aK,beq_iff_eq,Bool.not_eq_true']at h1;exact⟨h1.1,h1.2,g _ h2⟩
   ·exact h
 |slice t x lo hi mx=>rw[ho]at h;unfold a9;rw[ho];exact Fj (M3 h) g
 | fieldAddr s x f=>
   rw[ho]at h;simp only at h;unfold a9;rw[ho];simp only
   split at h
   ·split at h
    ·rename_i hf
     try rw[hf]
     obtain⟨h1,h2⟩:=bX h;simp only[aK,bne_iff_ne]at h1;exact⟨h1.1,h1.2,g _ h2⟩
    ·exact h.elim
   ·split at h
    ·rename_i hf
     try rw[hf]
     obtain⟨h1,h2⟩:=bX h;simp only[aK,bne_iff_ne]at h1;exact⟨h1.1,h1.2,g _ h2⟩
    ·exact h.elim
   ·exact h
 | field s x f=>
   rw[ho]at h;simp only at h;unfold a9;rw[ho];simp only
   split at h
   ·split at h
    ·rename_i hf
     try rw[hf]
     obtain⟨h1,h2⟩:=bX h;simp only[aK,Bool.not_eq_true']at h1;exact⟨h1.1.1,h1.1.2,dZ h1.2,g _ h2⟩
    ·exact h.elim
   ·exact h
 | indexAddr t x i=>
   rw[ho]at h;simp only at h;unfold a9;rw[ho];simp only
   have hix:∀{e:Nat} {rows:List (List SV)} {n:Nat} {s:St},uN T e rows n o.dst s K->zX rows n o.dst s (gK K):=by
    intro e rows n s ⟨h1,h2⟩ row hr;exact g _ (pY _ _ _ (h1 row (dO hr)) h2 hr)
   split at h
   ·obtain⟨h1,h2,h3⟩:=bX h;simp only[aK,beq_iff_eq]at h1;exact⟨h1.1,h1.2,h2,hix h3⟩
   ·obtain⟨h1,h2,h3⟩:=bX h;simp only[aK,beq_iff_eq]at h1;exact⟨h1.1,h1.2,h2,hix h3⟩
   ·split at h
    ·rename_i hf
     try rw[hf]
     obtain⟨h1,h2,h3⟩:=bX h;simp only[aK,beq_iff_eq]at h1;exact⟨h1.1,h1.2,h2,g _ h3⟩
    ·exact h.elim
   ·exact h
 | extract x j=>
   rw[ho]at h;simp only at h;unfold a9;rw[ho];simp only
   split at h
   ·split at h
    ·obtain⟨h1,h2⟩:=bX h;refine⟨Nat.le_of_ble_eq_true h1,?_⟩;split at h2
     ·rename_i hh;rw[if_pos hh];exact g _ h2
     ·rename_i hh;rw[if_neg (by rw[hh];simp)];exact g _ h2
    ·exact h
   ·exact h
 | call c=>
   rw[ho]at h;simp only at h;split at h
   ·rename_i hc;unfold a9;rw[ho];simp only[hc]
    split at h
    ·split at h
     ·split at h
      ·obtain⟨h1,h2,h3⟩:=bX h;simp only[aK,beq_iff_eq,Bool.or_eq_true]at h1
       try (rename_i hta;rw[hta])
       refine⟨h1.1.1,h1.1.2,?_,h2.1,h2.2,g _ h3⟩;rcases h1.2 with h|h
       ·exact .inl h
       ·right;unfold zZ at h;split at h
        ·rfl
        ·cases h
      ·exact h.elim
     ·exact h
    ·exact h
   ·exact same h hv
 | move x=>
   rw[ho]at h;simp only at h;unfold a9;rw[ho];simp only
   split at h
   ·split at h
    ·obtain⟨h1,h2⟩:=bX h;exact⟨Nat.le_of_ble_eq_true h1,g _ h2⟩
    ·split at h
     ·rename_i hh;rw[if_pos hh];exact g _ h
     ·rename_i hh;rw[if_neg (by rw[hh];simp)];exact g _ h
   ·exact g _ h
 |_=>rw[ho]at h;exact same h hv
def Fl (hv:∀ c f,o.op = .call c->c.callee ≠ .value f)(h:bO T C o st K):gK (fun s=>a9 T C o s (gK K)) st:=by
 by_cases hl:∃t x,o.op = .load t x
 ·obtain⟨t,x,ho⟩:=hl;simp only[bO,ho]at h;refine nb (M0 h) fun s hs=>?_
  simp only[a9,ho]
  exact Fi hs fun s hs=>d_ hs
 ·exact d_ (M5 hv h fun t x e=>hl ⟨t,x,e⟩)
def nd (row:List SV):Nat->Nat->Bool
 |0,_=>ae
 |n+1,j=>!cu (bx row j)&&nd row n (j+1)
def rU (T:Nat->TI)(o:Oper)(st:St):Bool:=match o.op with
 |.move x=>!cu (ev st.env x)
 |.pick _ a b=>!cu (ev st.env a)&&!cu (ev st.env b)
 |.nilCheck _|.unOp .. | .binOp .. | .fieldAddr .. | .field .. | .index .. | .makeFunc .. | .convert .. => ae
 |.build _ ps=>!eF ((cx ps).map (ev st.env))
 | .load t a=>match ev st.env a with
   |.ro _=>ae
   | .p o i off=>match bu st.ob o with
     | some x=>match x.nm with
       | true=>match x.rows[i]? with
         |some row=>nd row (T t).size off
         |none=>ag
       | false=>match(T t).kind with
         |.slice _=>ag
         |_=>ae
     |none=>ag
   |_=>ag
 | .slice _ x _ _ _=>match ev st.env x with
   |.s _|.sl _ _|.nil=>ae
   |_=>ag
 | .indexAddr _ x _=>match ev st.env x with
   |.sl _ _|.ar _=>ae
   |_=>ag
 | .extract x j=>match x with
   | .tmp t=>match bx st.env t with
     |.tup vs=>!cu (bx vs j)
     |_=>ag
   |_=>ag
 | .call c=>match c.callee with
   |.builtin .len=>ae
   |_=>ag
 |_=>ag
def An {st:St}{x:Operand}(h:cu (ev st.env x)=ag):dA st x=st:=by
 cases x with
 |tmp t=>simp only[dA];rw[if_neg (by simpa[AM.ev]using h)]
 |_=>rfl
def Fm {st:St}:∀(l:List Operand),eF (l.map (ev st.env))=ag->j9 st l=st
 |[],_=>rfl
 | x::l,h=>by
   simp only[bF,eF,Bool.or_eq_false_iff]at h;simp only[j9,An h.1,Fm l h.2]
def M6 {ob i off d:Nat}{x:Ob}{row:List SV}{K:St->Prop}(hx:bu st.ob ob=U x)(hr:x.rows[i]? = U row)(hn:cu (bx row off)=ag)(h:jq ob i off d K st):K st:=by
 unfold jq at h;rw[hx]at h;simp only at h;rw[hr]at h;simp only at h;split at h
 ·rename_i k rows hc;rw[hc]at hn;simp[cu]at hn
 ·exact h
def Fo {ob i d:Nat}{x:Ob}{row:List SV}(hx:bu st.ob ob=U x)(hr:x.rows[i]? = U row):∀(n j:Nat) {K:St->Prop},nd row n j=ae->m8 ob i d n j K st->K st
 |0,j,K,_,h=>h
 | n+1,j,K,hn,h=>by
   simp only[nd,aK,Bool.not_eq_true']at hn;exact Fo hx hr n (j+1) hn.2 (M6 hx hr hn.1 h)
def Fp {ob i d:Nat}{x:Ob}{row:List SV}(hx:bu st.ob ob=U x)(hr:x.rows[i]? = U row):∀(n j:Nat) {K:St->Prop},nd row n j=ae->K st->m8 ob i d n j K st
 |0,j,K,_,h=>h
 | n+1,j,K,hn,h=>by
   simp only[nd,aK,Bool.not_eq_true']at hn;unfold m8 jq;rw[hx];simp only
   rw[hr];simp only
   split
   ·rename_i k rows hc;have:=hn.1;rw[hc]at this;simp[cu]at this
   ·exact Fp hx hr n (j+1) hn.2 h
def pZ:∀(ks:List TK) {B B':List SV->Prop},jN T ks B->(∀r,B r->B' r)->jN T ks B'
 |[],B,B',h,hb=>hb _ h
 | k::ks,B,B',h,hb=>by
   cases k with
   |int k=>exact fun n=>pZ ks (h n) fun r=>hb _
   |bool=>exact fun n=>pZ ks (h n) fun r=>hb _
   |str=>exact fun n=>pZ ks (h n) fun r=>hb _
   |slice e=>exact fun n=>pZ ks (h n) fun r=>hb _
   |_=>exact h
def eQ {b:Bool}{A B:Prop}(h:chk b A)(hb:A->B):chk b B:=by
 unfold chk at *;split at h
 ·exact hb h
 ·exact h
def Fq {op:BinOp}{x y:SV}{K K':SV->Prop}(h:ly op x y K)(hk:∀ v,K v->K' v):ly op x y K':=by
 unfold ly at *;split at h
 ·split at h
  ·exact eQ h (hk _)
  ·exact eQ h (hk _)
  ·exact eQ h (hk _)
  ·exact eQ h fun h=>⟨h.1,hk _ h.2⟩
  ·exact eQ h fun h=>⟨h.1,hk _ h.2⟩
  ·exact⟨h.1,hk _ h.2⟩
  ·exact⟨h.1,hk _ h.2⟩
  ·split at h
   ·exact eQ h (hk _)
   ·exact h
  ·split at h
   ·exact eQ h (hk _)
   ·exact h
  ·split at h
   ·exact eQ h (hk _)
   ·exact h
  ·split at h
   ·exact eQ h (hk _)
   ·exact h
 ·split at h
  ·exact⟨h.1,hk _ h.2⟩
  ·split at h
   ·exact hk _ h
   ·exact h
 ·exact h
def Fs (hs:rU T o st=ae)(h:bO T C o st K)(g:∀ v,K (aZ st o.dst v)->K' (aZ st o.dst v)):bO T C o st K':=by
 unfold bO at *;unfold rU at hs;cases ho:o.op with
 | move x=>
   rw[ho]at h hs;simp only at *;split at h
   ·rename_i t;simp only[AM.ev,Bool.not_eq_true']at hs;split at h
    ·rename_i hv;rw[hv]at hs;simp[cu]at hs
    ·rename_i v hv;rw[hs]at h ⊢;exact g _ h
   ·exact g _ h
 | pick c x y=>
   rw[ho]at h hs;simp only[a9,ho,aK,Bool.not_eq_true']at *;split at h
   ·exact g _ h
   ·rw[An hs.1,An hs.2]at *;exact cnd.mk (fun e=>g _ (uH h e)) (fun e=>g _ (cnd.no h e))
   ·exact h
 |nilCheck x=>rw[ho]at h;simp only[a9,ho]at *;split at h;exact g _ h;exact g _ h;exact h
 |unOp op t x=>rw[ho]at h;simp only[a9,ho]at *;split at h;exact g _ h;exact g _ h;exact h
 | binOp op t x y ty=>
   rw[ho]at h;simp only at *;split at h
   ·exact Fq h fun v hk=>g _ hk
   ·exact Fq h fun v hk=>g _ hk
   ·simp only[a9,ho]at *;split at h
    ·split at h
     ·split at h
      ·exact g _ h
      ·exact g _ h
      ·exact h
     ·exact h
    ·split at h
     ·exact⟨h.1,fun z hz=>g _ (h.2 z hz)⟩
     ·exact⟨h.1,fun z hz=>g _ (h.2 z hz)⟩
     ·exact h
    ·split at h
     ·exact g _ h
     ·exact g _ h
     ·exact h
    ·split at h
     ·exact⟨h.1,fun z=>g _ (h.2 z)⟩
     ·exact⟨h.1,fun z=>g _ (h.2 z)⟩
     ·exact h
    ·exact uW h fun v hk=>g _ hk
 | convert s d x=>
   rw[ho]at h;simp only at *;split at h
   ·exact eQ h (g _)
   ·simp only[a9,ho]at *;split at h
    ·exact⟨h.1,g _ h.2⟩
    ·split at h
     ·exact g _ h
     ·exact h
    ·split at h
     ·exact g _ h
     ·split at h
      ·exact g _ h
      ·exact h
     ·split at h
      ·exact g _ h
      ·exact h
     ·exact h
    ·exact h
 | index t x i=>
   rw[ho]at h;simp only[a9,ho]at *;split at h
   ·exact⟨h.1,fun c hc=>g _ (h.2 c hc)⟩
   ·exact h
 | build t ps=>
   rw[ho]at h hs;simp only[Bool.not_eq_true']at *;rw[Fm _ hs]at *;split at h
   ·exact eQ h (g _)
   ·exact h
 | load t a=>
   rw[ho]at h hs;simp only at *;unfold rM at *;split at h
   ·exact eQ h (g _)
   ·rename_i ob i off hv;rw[hv]at hs;simp only at hs;split at h
    ·rename_i x hx;rw[hx]at hs;simp only at hs;split at h
     ·rename_i hnm;rw[hnm]at hs;simp only at hs;split at hs
      ·rename_i row hr;have h1:=Fo hx hr _ _ hs h;refine Fp hx hr _ _ hs ?_;unfold rL m9 at *;simp only[hv,hx,hr]at *;exact eQ h1 (g _)
      ·cases hs
     ·rename_i hnm;rw[hnm]at hs;simp only at hs;unfold pU at *;split at h
      ·rename_i hk;rw[hk]at hs;cases hs
      ·exact eQ h fun h=>⟨h.1,fun row hr=>⟨(h.2 row hr).1,pZ _ (h.2 row hr).2 fun cs hc e=>eQ (hc e) (g _)⟩⟩
    ·exact h
   ·exact h
 | makeFunc f fs cs=>
   rw[ho]at h;simp only at *;split at h
   ·exact eQ h (g _)
   ·exact h
 | slice t x lo hi mx=>
   rw[ho]at h hs;simp only at *;unfold rN at *;split at h
   ·refine eQ h fun h=>?_
    split at h
    ·split at h
     ·exact⟨h.1,g _ h.2⟩
     ·exact h
    ·split at h
     ·exact⟨h.1,g _ h.2⟩
     ·exact h
   ·unfold kb at *;split at h
    ·split at h
     ·exact⟨h.1,h.2.1,h.2.2.1,g _ h.2.2.2⟩
     ·exact h
    ·refine⟨h.1,h.2.1,?_⟩;have h3:=h.2.2;split at h3
     ·split at h3
      ·exact⟨h3.1,h3.2.1,h3.2.2.1,g _ h3.2.2.2⟩
      ·exact h3
     ·split at h3
      ·refine⟨h3.1,h3.2.1,h3.2.2.1,h3.2.2.2.1,?_⟩;have h4:=h3.2.2.2.2;split at h4
       ·rename_i hc;rw[if_pos hc];exact g _ h4
       ·rename_i hc;rw[if_neg hc];exact g _ h4
      ·exact h3
    ·split at h
     ·exact⟨h.1,g _ h.2⟩
     ·exact h
    ·rename_i hn1 hn2;split at hs
     ·split at h
      ·rename_i hq _ _ _;simp only[takeRows]at *;simp_all
      ·exact h
     ·rename_i k r hq;exact absurd hq (hn1 _ _)
     ·rename_i hq;exact absurd hq hn2
     ·cases hs
    ·exact h
 | fieldAddr s x f=>
   rw[ho]at h;simp only at *;split at h
   ·split at h
    ·exact eQ h (g _)
    ·exact h
   ·split at h
    ·exact eQ h (g _)
    ·exact h
   ·exact h
 | field s x f=>
   rw[ho]at h;simp only at *;split at h
   ·split at h
    ·exact eQ h (g _)
    ·exact h
   ·exact h
 | indexAddr t x i=>
   rw[ho]at h hs;simp only at *;split at h
   ·exact eQ h fun h=>⟨h.1,h.2.1,pZ _ h.2.2 fun r hr e=>g _ (hr e)⟩
   ·rename_i hq _;rw[hq]at hs;cases hs
   ·split at h
    ·exact eQ h fun h=>⟨h.1,g _ h.2⟩
    ·exact h
   ·exact h
 | extract x j=>
   rw[ho]at h hs;simp only at *;split at h
   ·split at h
    ·rename_i vs hv;simp only[hv,Bool.not_eq_true']at hs;rw[hs]at h ⊢;exact eQ h (g _)
    ·exact h
   ·exact h
 | call c=>
   rw[ho]at h hs;simp only at *;split at hs
   ·rename_i hc;simp only[hc,a9,ho]at *;split at h
    ·split at h
     ·exact g _ h
     ·split at h
      ·exact g _ h
      ·exact h
     ·exact h
    ·exact h
   ·cases hs
 |_=>rw[ho]at hs;simp at hs
mutual
def rV:SV->SV->Prop
 |.i k n,.i k' n'=>chk (aa (k=k')) (n=n')
 |.b x,.b y=>x=y
 |.s x,.s y=>x=y
 |.sl k r,.sl k' r'=>chk (k==k') (r=r')
 |.ar a,.ar b=>chk (a==b) True
 |.p a b c,.p a' b' c'=>chk (a==a'&&b==b'&&c==c') True
 |.ro c,.ro c'=>rW c c'
 |.agg xs,.agg ys=>rW xs ys
 |x,y=>x=y
def rW:List SV->List SV->Prop
 | [],ys=>match ys with
   |[]=>True
   |_=>False
 | x::xs,ys=>match ys with
   |[]=>False
   |y::ys=>rV x y/\rW xs ys
end
mutual
def Ft:∀(x y:SV),rV x y->x=y
 | x,y,h=>by
   cases x with
   | i k n=>cases y with
     |i k' n'=>obtain⟨h1,h2⟩:=bX h;have:=of_decide_eq_true h1;subst this;subst h2;rfl
     |_=>exact h
   |b z=>cases y<;>first|(rw[show z=_ from h])|exact h
   |s z=>cases y<;>first|(rw[show z=_ from h])|exact h
   | sl k r=>cases y with
     |sl k' r'=>obtain⟨h1,h2⟩:=bX h;have:=eq_of_beq h1;subst this;subst h2;rfl
     |_=>exact h
   | ar a=>cases y with
     |ar b=>obtain⟨h1,h3⟩:=bX h;have:=eq_of_beq h1;subst this;rfl
     |_=>exact h
   | p a b c=>cases y with
     | p a' b' c' =>
       obtain⟨h1,h3⟩:=bX h;simp only[aK,beq_iff_eq]at h1;obtain⟨⟨rfl,rfl⟩,rfl⟩:=h1;rfl
     |_=>exact h
   | ro c=>cases y with
     |ro c'=>rw[Ao c c' h]
     |_=>exact h
   | agg c=>cases y with
     |agg c'=>rw[Ao c c' h]
     |_=>exact h
   |_=>cases y<;>exact h
def Ao:∀(xs ys:List SV),rW xs ys->xs=ys
 |[],[],_=>rfl
 |[],_::_,h=>h.elim
 |x::xs,[],h=>h.elim
 |x::xs,y::ys,h=>by rw[Ft x y h.1,Ao xs ys h.2]
end
def Fu (d:Option Tmp)(st st':St):Prop:=match d with
 |some t=>rV (bx st'.env t) (bx st.env t)
 |none=>True
def uY (T:Nat->TI)(C:zAz)(o:Oper)(st:St):Prop:=chk (rU T o st) (bO T C o st (Fu o.dst st))
def Fv:∀(l:List SV) (t:Nat) (v:SV),(bx (cI l t v) t=v)\/cI l t v=l
 |[],t,v=>.inr rfl
 |x::l,0,v=>.inl rfl
 | x::l,t+1,v=>by
   rcases Fv l t v with h|h
   ·exact .inl h
   ·exact .inr (by simp[cI,h])
def Fw:∀(l:List SV) (n:Nat),cI l n (bx l n)=l
 |[],n=>rfl
 |x::l,0=>rfl
 |x::l,n+1=>by simp[cI,bx,Fw l n]
def M7 (h:uY T C o st):bO T C o st fun st'=>st'=st:=by
 obtain⟨h1,h2⟩:=bX h;refine Fs h1 h2 fun v hv=>?_
 revert hv;cases o.dst with
 |none=>intro _;rfl
 | some t=>
   intro hv;simp only[Fu,aZ,b_]at hv ⊢;rcases Fv st.env t v with e|e
   ·have:=Ft _ _ hv;rw[e]at this;rw[this,Fw]
   ·rw[e]
end
end Go.AM
end
section
namespace Go.AM
section
variable {P:Program}{T:Nat->TI}{C:zAz}{w0 w w':World}{L:Lv}{st st1:St}{a:Act}{G G':Gh}{fE fO fX fV:FP}{o:Oper}{K:St->Prop}{Q:Exit->Act->World->Prop}{v:Value}{sv:SV}
def lA (P:Program)(C:zAz):Prop:=∀(o:Oper) (c:Call) (f:Operand) (a:Act) (w0 w:World) (L:Lv) (st:St) (G:Gh) (K:St->Prop) (Q:Exit->Act->World->Prop),
 o.op = .call c->c.callee = .value f->C f c.args.toList o.dst st K->SR w0 L st a.tmps w G->o.wp P a w (Nx w0 L a.defers K) Q
def Nx.gK {ds:List Deferred}{a':Act}{w':World}(h:Nx w0 L ds (gK K) a' w'):Nx w0 L ds K a' w':=by
 obtain⟨s,G,h1,h2,h3⟩:=h;obtain⟨s',G',h4,h5⟩:=h1 _ _ _ _ _ h2;exact⟨s',G',h4,h5,h3⟩
def M8 (hT:bU P T)(hC:lA P C)(h:SR w0 L st a.tmps w G)(hk:bO T C o st K):o.wp P a w (Nx w0 L a.defers K) Q:=by
 by_cases hcall:∃c f,o.op = .call c/\c.callee = .value f
 ·obtain⟨c,f,ho,hc⟩:=hcall;simp only[bO,a9,ho,hc]at hk;exact hC o c f a w0 w L st G K Q ho hc hk h
 obtain⟨st',G',hk,h⟩:=Fl (fun c f ho hc=>hcall ⟨c,f,ho,hc⟩) hk _ _ _ _ _ h;revert h hk;generalize st'=st;generalize G'=G;intro hk h;refine Oper.wp_mono (fun _ _ hn=>Nx.gK hn) ?_;revert hk;generalize gK K=K;intro hk;cases ho:o.op with
 |move x=>exact(EH (T:=T) ho h hk).1
 |assign x=>exact(MF (T:=T) ho h hk).1
 |pick c x y=>exact(EI (T:=T) ho h hk).1
 |alloc e=>exact MR hT ho h hk
 |box e x=>exact MS ho h hk
 |build t ps=>exact(E1 (T:=T) hT ho h hk).1
 |buildSlice t n ps=>exact MT hT ho h hk
 |load t x=>exact(Ag (T:=T) hT ho h hk).1
 |store t x y=>exact MP hT ho h hk
 |nilCheck x=>exact(EM (T:=T) ho h hk).1
 |binOp op t x y ty=>exact(EK (T:=T) hT ho h hk).1
 |unOp op t x=>exact(EL (T:=T) ho h hk).1
 |convert s d x=>exact(E6 (T:=T) hT ho h hk).1
 |makeFunc f fs cs=>exact(E4 (T:=T) ho h hk).1
 |makeSlice t l c=>exact MU hT ho h hk
 |slice t x lo hi mx=>exact(EV (T:=T) hT ho h hk).1
 |fieldAddr s x f=>exact(ES (T:=T) hT ho h hk).1
 |field s x f=>exact(ET (T:=T) hT ho h hk).1
 |indexAddr t x i=>exact(EU (T:=T) hT ho h hk).1
 |index t x i=>exact(EO (T:=T) hT ho h hk).1
 |extract x j=>exact(EN (T:=T) ho h hk).1
 | call c=>
   cases hc:c.callee with
   | builtin b=>
     cases b with
     |len=>exact(EP (T:=T) hT ho hc h hk).1
     |append=>exact MX hT ho hc h hk
     |_=>simp only[a9,ho,hc]at hk
   |value f=>exact absurd ⟨c,f,ho,hc⟩ hcall
   |_=>simp only[a9,ho,hc]at hk
 |_=>simp only[a9,ho]at hk
def kL (T:Nat->TI):Op->Bool
 |.move _|.pick .. | .load .. | .nilCheck _|.binOp .. | .unOp .. | .makeFunc .. | .slice .. | .fieldAddr .. | .field .. | .indexAddr .. | .index .. | .extract .. | .build .. => ae
 |.convert _ d _=>match(T d).kind with|.slice _=>ag|_=>ae
 |.call c=>match c.callee with|.builtin .len=>ae|_=>ag
 |_=>ag
def sound_float (hT:bU P T)(hf:kL T o.op=ae)(h:SR w0 L st a.tmps w G)(hk:bO T C o st K):∃v,(execOp a.eval o).run P w = .ok (.value v) w/\Nx w0 L a.defers K (a.put o.dst v) w:=by
 obtain⟨st',G',hk,h⟩:=Fl (fun c f ho hc=>by rw[ho]at hf;simp[kL,hc]at hf) hk _ _ _ _ _ h;revert h hk;generalize st'=st;generalize G'=G;intro hk h
 suffices hs:∃v,(execOp a.eval o).run P w = .ok (.value v) w/\Nx w0 L a.defers (gK K) (a.put o.dst v) w by
  obtain⟨v,h1,h2⟩:=hs;exact⟨v,h1,Nx.gK h2⟩
 revert hk;generalize gK K=K;intro hk
 have key:∀{N:Act->World->Prop},Ow P T o a w N (fun _ _ _=>False)->uQ T o.op=ag->∃v,(execOp a.eval o).run P w = .ok (.value v) w/\N (a.put o.dst v) w:=by
  intro N ⟨h1,h2⟩ hl;rcases h2 with⟨v,hv⟩|h2
  ·refine⟨v,hv,?_⟩;unfold Oper.wp at h1;rw[hv]at h1;exact h1
  ·rw[hl]at h2;cases h2
 cases ho:o.op with
 |move x=>exact key (EH (T:=T) ho h hk) (by rw[ho];rfl)
 |pick c x y=>exact key (EI (T:=T) ho h hk) (by rw[ho];rfl)
 |build t ps=>exact key (E1 (T:=T) hT ho h hk) (by rw[ho];rfl)
 |load t x=>exact key (Ag (T:=T) hT ho h hk) (by rw[ho];rfl)
 |nilCheck x=>exact key (EM (T:=T) ho h hk) (by rw[ho];rfl)
 |binOp op t x y ty=>exact key (EK (T:=T) hT ho h hk) (by rw[ho];rfl)
 |unOp op t x=>exact key (EL (T:=T) ho h hk) (by rw[ho];rfl)
 | convert s d x=>
   refine key (E6 (T:=T) hT ho h hk) ?_;rw[ho]at hf ⊢;simp only[kL,uQ]at hf ⊢;split at hf<;>simp_all
 |makeFunc f fs cs=>exact key (E4 (T:=T) ho h hk) (by rw[ho];rfl)
 |slice t x lo hi mx=>exact key (EV (T:=T) hT ho h hk) (by rw[ho];rfl)
 |fieldAddr s x f=>exact key (ES (T:=T) hT ho h hk) (by rw[ho];rfl)
 |field s x f=>exact key (ET (T:=T) hT ho h hk) (by rw[ho];rfl)
 |indexAddr t x i=>exact key (EU (T:=T) hT ho h hk) (by rw[ho];rfl)
 |index t x i=>exact key (EO (T:=T) hT ho h hk) (by rw[ho];rfl)
 |extract x j=>exact key (EN (T:=T) ho h hk) (by rw[ho];rfl)
 | call c=>
   cases hc:c.callee with
   | builtin b=>
     cases b with
     |len=>exact key (EP (T:=T) hT ho hc h hk) (by rw[ho];rfl)
     |_=>rw[ho]at hf;simp[kL,hc]at hf
   |_=>rw[ho]at hf;simp[kL,hc]at hf
 |_=>rw[ho]at hf;simp[kL]at hf
def p4:∀(l:List SV) (n:Nat),cI l n (bx l n)=l
 |[],n=>rfl
 |x::l,0=>rfl
 |x::l,n+1=>by simp[cI,bx,p4 l n]
def Fx {ops:Array Oper}{tmps:Array Value}{j d:Nat}{x:Bool}(hd:(ops[j]?).bind (·.dst)=U d)(h:RL w G st.env tmps.toList fE)(hs:tmps.size=st.env.length)(hl:bx st.env d = .b x):yielded ops tmps j=U x:=by
 have hlt:d<st.env.length:=by
  rcases Nat.lt_or_ge d st.env.length with h|h
  ·exact h
  ·rw[m_ _ _ h]at hl;simp at hl
 obtain⟨v,f1,f2,hv,hr,_⟩:=mU st.env _ fE d hlt h;rw[hl]at hr;simp only[R]at hr;have:tmps[d]? = U v:=by rw[<-Array.getElem?_toList];exact hv
 simp[yielded,hd,this,hr.2]
def Fy {ops:Array Oper}{tmps:Array Value}{j d:Nat}(hd:(ops[j]?).bind (·.dst)=U d)(h:RL w G st.env tmps.toList fE)(hs:tmps.size=st.env.length)(hl:bx st.env d = .sk):yielded ops tmps j=aj:=by
 have hlt:d<st.env.length:=by
  rcases Nat.lt_or_ge d st.env.length with h|h
  ·exact h
  ·rw[m_ _ _ h]at hl;simp at hl
 obtain⟨v,f1,f2,hv,hr,_⟩:=mU st.env _ fE d hlt h;rw[hl]at hr;simp only[R]at hr;have:tmps[d]? = U v:=by rw[<-Array.getElem?_toList];exact hv
 simp[yielded,hd,this,hr.2,undef]
end
end Go.AM
end
section
namespace Go.AM
inductive AX
 |normal|exit (id:Nat)|ret
abbrev AQ:=AX->St->Prop
def mc (next:St->Prop)(Q:AQ):AQ
 |.normal,st=>next st
 |.exit id,st=>Q (.exit id) st
 |.ret,st=>Q .ret st
def oz (id:Nat)(Q:AQ):AQ
 |.normal,st=>Q .normal st
 |.exit id',st=>if id'=id then Q .normal st else Q (.exit id') st
 |.ret,st=>Q .ret st
def QS (w0:World)(L:Lv)(ds:List Deferred)(Q:AQ):Exit->Act->World->Prop
 |.normal=>Nx w0 L ds (Q .normal)
 |.exit id=>Nx w0 L ds (Q (.exit id))
 |.ret=>Nx w0 L ds (Q .ret)
 |_=>fun _ _=>False
def sp (P:Program)(c:Code)(Q:AQ)(st:St):Prop :=
 ∀(w0 w:World) (L:Lv) (a:Act) (G:Gh),SR w0 L st a.tmps w G->c.wp P (QS w0 L a.defers Q) a w
section
variable {P:Program}{T:Nat->TI}{C:zAz}{w0 w w':World}{L:Lv}{st st1:St}{a:Act}{G G':Gh}{Q Q':AQ}{K K':St->Prop}{ds:List Deferred}
def Nx.mono (h:Nx w0 L ds K a w)(hk:∀ st,K st->K' st):Nx w0 L ds K' a w:=by
 obtain⟨st,G,h1,h2,h3⟩:=h;exact⟨st,G,hk st h1,h2,h3⟩
def QS.mono (hq:∀ x st,Q x st->Q' x st):∀e a w,QS w0 L ds Q e a w->QS w0 L ds Q' e a w:=by
 intro e a w h;cases e<;>first|exact Nx.mono h (hq _)|exact h
def Ap {c:Code}(h:sp P c Q st)(hq:∀ x st,Q x st->Q' x st):sp P c Q' st :=
 fun w0 w L a G hs=>wp_mono (h w0 w L a G hs) (QS.mono hq)
def M9 (h:Q .normal st):sp P .skip Q st:=fun w0 w L a G hs=>wp_skip ⟨st,G,h,hs,rfl⟩
def M_ {id:Nat}(h:Q (.exit id) st):sp P (.exit id) Q st:=fun w0 w L a G hs=>wp_exit ⟨st,G,h,hs,rfl⟩
def Na (h:Q .ret st):sp P .ret Q st:=fun w0 w L a G hs=>wp_ret ⟨st,G,h,hs,rfl⟩
def Fz {x y:Code}(h:sp P x (mc (sp P y Q) Q) st):sp P (.seq x y) Q st:=fun w0 w L a G hs=>
 wp_seq (wp_mono (h w0 w L a G hs) (fun e a' w' hq=>by
  cases e with
  | normal=>
    obtain⟨st',G',h1,h2,h3⟩:=hq;have:=h1 w0 w' L a' G' h2;rw[h3]at this;exact this
  |_=>exact hq))
def FA {id:Nat}{c:Code}(h:sp P c (oz id Q) st):sp P (.block id c) Q st:=fun w0 w L a G hs=>
 wp_block (wp_mono (h w0 w L a G hs) (fun e a' w' hq=>by
  cases e with
  | exit id' =>
    simp only[Exit.inBlock]
    by_cases hid:id'=id
    ·rw[if_pos hid];exact Nx.mono hq (fun st h=>by simpa[oz,hid]using h)
    ·rw[if_neg hid];exact Nx.mono hq (fun st h=>by simpa[oz,hid]using h)
  |_=>exact hq))
def Nb {c:Operand}{x y:Code}{t:Bool}(hc:AM.ev st.env c = .b t)(hx:t=ae->sp P x Q st)(hy:t=ag->sp P y Q st):sp P (.cond c x y) Q st:=fun w0 w L a G hs=>by
 obtain⟨fE,fO,h⟩:=hs;have hr:=h.ev0 a rfl c (by rw[hc];rfl);rw[hc]at hr;simp only[R]at hr;exact wp_cond_split hr.2 (fun ht=>hx ht w0 w L a G ⟨fE,fO,h⟩) (fun ht=>hy ht w0 w L a G ⟨fE,fO,h⟩)
def Nc {c:Code}(h:gK (sp P c Q) st):sp P c Q st:=fun w0 w L a G hs=>by
 obtain⟨st',G',h1,h2⟩:=h w0 w L a.tmps G hs;exact h1 w0 w L a G' h2
def FB (p:Nat->Prop)(h:∃ n,p n):∃n,p n/\∀m,p m->n<=m:=by
 obtain⟨n,hn⟩:=h
 induction n using Nat.strongRecOn with
 | _ n ih=>
   by_cases hm:∃m,m<n/\p m
   ·obtain⟨m,hlt,hp⟩:=hm;exact ih m hlt hp
   ·exact⟨n,hn,fun m hp=>by
     rcases Nat.lt_or_ge m n with h|h
     ·exact absurd ⟨m,h,hp⟩ hm
     ·exact h⟩
def Nd {c:Code}(I:St->Prop)(μ:St->Nat)(h0:gK I st)(hr:∀ st,I st->sp P c (mc (gK fun st'=>I st'/\μ st'<μ st) Q) st):sp P (.loop c) Q st:=by
 intro w0 w L a G hs;obtain⟨st',G',hI,hs'⟩:=h0 w0 w L a.tmps G hs
 let good:Act->World->Nat->Prop:=fun a' w' n=>∃st G,I st/\SR w0 L st a'.tmps w' G/\μ st=n
 let I':Act->World->Prop:=fun a' w'=>a'.defers=a.defers/\∃n,good a' w' n
 let m:Act->World->Nat:=fun a' w'=>Classical.epsilon fun n=>good a' w' n/\∀k,good a' w' k->n<=k
 have hm:∀a' w',(h:∃n,good a' w' n)->good a' w' (m a' w')/\∀k,good a' w' k->m a' w'<=k:=by
  intro a' w' h;exact Classical.epsilon_spec (p:=fun n=>good a' w' n/\∀k,good a' w' k->n<=k) (FB _ h)
 refine wp_loop I' m ⟨rfl,_,st',G',hI,hs',rfl⟩ ?_;rintro a1 w1 ⟨hd,hn⟩;obtain⟨⟨st1,G1,hI1,hs1,hμ⟩,_⟩:=hm a1 w1 hn;refine wp_mono (hr st1 hI1 w0 w1 L a1 G1 hs1) (fun e a2 w2 hq=>?_);rw[hd]at hq;cases e with
 | normal=>
   obtain⟨st2,G2,h2,hs2,hd2⟩:=hq;obtain⟨st3,G3,⟨hI3,hlt⟩,hs3⟩:=h2 w0 w2 L a2.tmps G2 hs2;have hex:∃n,good a2 w2 n:=⟨_,st3,G3,hI3,hs3,rfl⟩
   refine⟨⟨hd2,hex⟩,?_⟩;have:=(hm a2 w2 hex).2 _ ⟨st3,G3,hI3,hs3,rfl⟩;omega
 |_=>exact hq
end
end Go.AM
end
