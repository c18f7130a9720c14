/- Part 4 of the proof of FnTidy; no condition. -/
import Derived.Test.YtdpapeledldifaaGreatX02
import Derived.Deep.AppendSrc
set_option autoImplicit true
set_option relaxedAutoImplicit true
set_option linter.all false
section
namespace Go.AM
section
variable {P:Program}{T:Nat→TI}{C:zAx}{w0 w w':World}{L:Lv}{st st1:St}{a:Act}{G G':Gh}{fE fO fX fV:FP}{o:Oper}{K:St→Prop}{Q:Exit→Act→World→Prop}{v:Value}{sv:SV}
def RLL.cells {k:Nat}:∀(rows:List (List SV)) (vs:List Value) (f:FP),(∀r∈rows,r.length=k)→RLL w G rows vs f→rows.length*k≤vs.length∧∀v∈vs.take (rows.length*k),v.oneCell'=true
 |[],vs,f,_,_=>by simp
 | r::rows,vs,f,hl,h=>by
   simp only[RLL]at h;obtain⟨f1,f2,h1,ho,h2,_⟩:=h;have hr:=hl r (by simp);have ih:=RLL.cells rows _ f2 (fun r hr=>hl r (by simp[hr])) h2;have hle:=RL.length_le _ _ _ h1;have e:(rows.length+1)*k=k+rows.length*k:=by rw[Nat.add_mul];omega
   refine⟨?_,?_⟩
   ·have:=ih.1;simp only[zLd,hr]at this;simp only[zLc,e]
    omega
   ·intro v hv;simp only[zLc,e]at hv;rw[List.take_add]at hv;rcases List.mem_append.1 hv with hv|hv
    ·obtain⟨j,hj⟩:=List.getElem?_of_mem hv;rw[List.getElem?_take]at hj;split at hj
     ·exact ho j v (by omega) hj
     ·simp at hj
    ·exact ih.2 v (by rw[hr];exact hv)
def Core.moreRows (h:Core w0 L st a.tmps w G fE fO fX){y:Operand}{k':Nat}{rows':List (List SV)}(ht:moreRows st y=some (k',rows',st1)) :
  ∃(fE' fY:FP),Core w0 L st1 a.tmps w G fE' fO (fun g=>fX g+fY g)∧∃p cap,a.eval y = .slice p rows'.length cap ∧
   (rows'=[]∨∃g base c e fr f',p=some ⟨g,base,none⟩∧w.heap[g]? = some (.cells c e fr)∧(G.F g∨1≤fY g)∧(∀r∈rows',r.length=k')∧RLL w G.pure rows' (c.toList.drop base) f'∧∀j,f' j≤fY j):=by
 unfold AM.moreRows at ht;split at ht
 ·rename_i e;simp at ht;obtain⟨rfl,rfl,rfl⟩:=ht;have hx:=h.ev0 a rfl y (by rw[e];rfl);rw[e]at hx;simp only[R]at hx;obtain⟨_,p,hv⟩:=hx;exact⟨fE,zf,by simpa[zHg]using h,p,0,hv,.inl rfl⟩
 ·rename_i k rows e;simp at ht;obtain⟨rfl,rfl,rfl⟩:=ht;obtain⟨fE1,f1,hr,h1⟩:=h.take a rfl y;rw[e]at hr;refine⟨fE1,f1,h1,?_⟩;simp only[R]at hr;rcases hr with⟨rfl,_,p,hv⟩|⟨g,base,cap,c,e,f',hv,hc,hh,hb,hl,hrr,hff⟩
  ·exact⟨p,0,hv,.inl rfl⟩
  ·exact⟨_,cap,hv,.inr ⟨g,base,c,e,_,f',rfl,hh,.inr (by have:=fpa hff g;simp only[one,if_true]at this;omega),hl,hrr,fun j=>by have:=fpa hff j;omega⟩⟩
 ·rename_i k rows e;simp at ht;obtain⟨rfl,rfl,rfl⟩:=ht;have hx:=h.ev0 a rfl y (by rw[e];rfl);rw[e]at hx;simp only[R]at hx;obtain⟨_,p,cap,hv,hc,hrows⟩:=hx;refine⟨fE,zf,by simpa[zHg]using h,p,cap,hv,?_⟩;rcases hrows with h0|⟨g,base,c,e,fr,hp,hF,hh,hl,hrr⟩
  ·exact .inl h0
  ·exact .inr ⟨g,base,c,e,fr,zf,hp,hh,.inl hF,hl,hrr,fun j=>Nat.zero_le _⟩
 ·simp at ht
def zFL (t tx ty e:TypeId)(i:TypeInfo)(ht:P.underlying t=some (.slice e))(hi:P.info? e=some i)(b:Addr)(sLen sCap:Nat)(x:Value)(n:Nat)(news:List Value)(hs:Src P i.size tx x n news w)
  (hroom:sLen+n≤sCap) (hst:(storeCells (b.add (sLen*i.size)) news).run P w = .ok () w') :
  (Builtin.append_ #[t,tx] ty #[.slice (some b) sLen sCap,x]).run P w = .ok (.slice (some b) (sLen+n) sCap) w':=by
 rcases hs.kind with⟨e',hk⟩|hk<;>simp[Builtin.append_,run_underlying ht,run_underlying hk,sizeOf,typeInfo,hi,hs.len,hroom,hs.cells,hst]
def zIg (t tx ty e:TypeId)(i:TypeInfo)(ht:P.underlying t=some (.slice e))(hi:P.info? e=some i)(b:Option Addr)(sLen sCap:Nat)(x:Value)(hs:Src P i.size tx x 0 [] w)
  (hroom:sLen≤sCap) :
  (Builtin.append_ #[t,tx] ty #[.slice b sLen sCap,x]).run P w = .ok (.slice b sLen sCap) w:=by
 cases b with
 |none=>rcases hs.kind with⟨e',hk⟩|hk<;>simp[Builtin.append_,run_underlying ht,run_underlying hk,sizeOf,typeInfo,hi,hs.len,hroom,hs.cells]
 | some b=>
   have:=zFL (P:=P) (w':=w) t tx ty e i ht hi b sLen sCap x 0 [] hs hroom (by simp[storeCells]);exact this
def src_of {k' size:Nat}{rows':List (List SV)}{fY:FP}{t' e':Nat}{p:Option Addr}{cap:Nat}(hT:LayOk P T)(hkd:(T t').kind = .slice e')(hk:k'=size∨rows'=[])
  (hrows:rows'=[]∨∃g base c e fr f',p=some ⟨g,base,none⟩∧w.heap[g]? = some (.cells c e fr)∧(G.F g∨1≤fY g)∧(∀r∈rows',r.length=k')∧RLL w G.pure rows' (c.toList.drop base) f'∧∀j,f' j≤fY j) :
  ∃(news:List Value) (f':FP),Src P size t' (.slice p rows'.length cap) rows'.length news w∧(∀r∈rows',r.length=size)∧RLL w G.pure rows' news f'∧(∀j,f' j≤fY j)∧(∀v∈news,v.oneCell'=true)∧news.length=rows'.length*size:=by
 rcases hrows with rfl|⟨g,base,c,e,fr,f',rfl,hh,_,hl,hrr,hf⟩
 ·refine⟨[],zf,?_,by simp,by simp[RLL],fun j=>Nat.zero_le _,by simp,by simp⟩;cases p with
  |none=>exact Src.ofNil (P:=P) w (hT.slice hkd) cap
  |some q=>exact Src.ofSlice (P:=P) w (hT.slice hkd) q 0 cap [] (by simp) (by simp) (by simp)
 ·by_cases h0:rows'=[]
  ·subst h0;exact⟨[],zf,Src.ofSlice (P:=P) w (hT.slice hkd) _ 0 cap [] (by simp) (by simp) (by simp),by simp,by simp[RLL],fun j=>Nat.zero_le _,by simp,by simp⟩
  have hk:k'=size:=by rcases hk with h|h;exact h;exact absurd h h0
  subst hk;obtain⟨hle,hone⟩:=RLL.cells _ _ _ hl hrr;have hlen:((c.toList.drop base).take (rows'.length*k')).length=rows'.length*k':=by rw[zLt];omega
  refine⟨(c.toList.drop base).take (rows'.length*k'),f',?_,hl,?_,hf,hone,hlen⟩
  ·refine Src.ofSlice (P:=P) w (hT.slice hkd) _ _ cap _ hlen (fun j u hj=>?_) hone;rw[Addr.add_lit,zHc hh];rw[List.getElem?_take]at hj;split at hj
   ·rw[List.getElem?_drop]at hj;simpa using hj
   ·simp at hj
  ·exact RLL.agree _ _ _ _ hl (fun j hj=>by rw[List.getElem?_take,if_pos hj]) hrr
def Core.writeX {tmps:Array Value}(h:Core w0 L st tmps w G fE fO fX){g:Nat}(hg:1≤fX g)(c':Array Value):Core w0 L st tmps (w.setRow g c') G fE fO fX:=by
 have hoth:∀j,j≠g→(w.setRow g c').heap[j]? = w.heap[j]?:=fun j hj=>zFX w g j c' hj
 have hF:∀j,G.F j→(w.setRow g c').heap[j]? = w.heap[j]?:=fun j hj=>hoth j (fun e=>by have:=h.fz j hj;subst e;omega)
 exact
  {size:=h.size
   E:=RL.frame (fun _ h=>h) rfl hF _ _ _ (fun j hj=>hoth j (fun e=>by have:=h.le j;subst e;omega)) h.E
   O:=ROs.frame (fun _ h=>h) rfl hF _ _ (fun j hj=>hoth j (fun e=>by have:=h.le j;subst e;omega)) h.O
   le:=h.le,fz:=h.fz,lf:=h.lf
   lt:=fun j hj=>by simp only[size_setRow];exact h.lt j hj
   nodup:=h.nodup,fl:=h.fl,fm:=h.fm,bk:=h.bk
   fsize:=fun j hj=>by simp only[size_setRow];exact h.fsize j hj
   keep:=fun j hj=>by rw[hoth j (fun e=>by have:=h.lf j hj;subst e;omega)];exact h.keep j hj
   lsize:=h.lsize
   grow:=by simp only[size_setRow];exact h.grow
   os:=h.os,tape:=h.tape,output:=h.output}
def zPa {c:Call}(hT:LayOk P T)(ho:o.op = .call c)(hb:c.callee = .builtin .append)(h:SR w0 L st a.tmps w G)(hk:zAL T C o st K):o.wp P a w (Nx w0 L a.defers K) Q:=by
 obtain⟨fE,fO,h⟩:=h;simp only[zAL,ho,hb]at hk;split at hk
 ·rename_i x y t t' eargs etypes;split at hk
  ·rename_i e e' k' rows' st1 hkd hkd' hm;split at hk
   ·rename_i k rows st2 htk;obtain⟨hkn,rfl,hk',h63,hby,hk⟩:=hk;obtain⟨fE1,fY,h1,py,capy,hvy,hrowsy⟩:=h.moreRows hm;obtain⟨G',fE2,fO2,fV,hF,hr,h2⟩:=h1.takeRows htk;have hpure:G'.pure=G.pure:=zCm hF;obtain⟨i,z,d,hi,hsi,hbyt,hz,hzz,hone,hzl,hc1,hpl,hd,hkdd,hagg,_,_⟩:=hT.ok e hkn;obtain⟨news,f',hsrc,hl',hrr',hf',hn1,hnl⟩:=src_of (P:=P) (cap:=capy) hT hkd' hk' hrowsy
    have hargs:c.args.map a.eval = #[a.eval x,.slice py rows'.length capy]:=by
     apply Array.ext';rw[Array.toList_map,eargs];simp[hvy]
    have htypes:c.argTypes = #[t,t']:=by apply Array.ext';rw[etypes]
    have hexec:∀(v:Value) (w':World),(Builtin.append_ #[t,t'] o.type #[a.eval x,.slice py rows'.length capy]).run P w = .ok v w'→(execOp a.eval o).run P w = .ok (.value v) w':=by
     intro v w' hv;rw[←hargs,←htypes]at hv;simp only[execOp,ho,hb,resolve,invoke,builtin,Sem.run_bind,Sem.run_pure,Result.andThen_ok,hv]
    have hcase:∃p cap,a.eval x = .slice p rows.length cap∧rows.length≤cap∧((rows=[]∧cap=0)∨∃g base cc e0 fv,p=some ⟨g,base,none⟩∧w.heap[g]? = some (.cells cc e0 (0,0))∧base+cap*(T e).size≤cc.size ∧
      (∀r∈rows,r.length=(T e).size)∧RLL w G'.pure rows (cc.toList.drop base) fv∧fV=fun h=>one g h+fv h):=by
     simp only[R]at hr;rcases hr with⟨h0,_,p,hv⟩|⟨g,base,cap,cc,e0,fv,hv,hcap,hh,hbb,hl,hrr,hff⟩
     ·exact⟨p,0,by rw[hv,h0];rfl,by simp[h0],.inl ⟨h0,rfl⟩⟩
     ·exact⟨_,cap,hv,hcap,.inr ⟨g,base,cc,e0,fv,rfl,hh,hbb,hl,hrr,hff⟩⟩
    obtain⟨p,cap,hvx,hcap,hc⟩:=hcase;by_cases hroom:rows.length+rows'.length≤cap
    ·
     rcases hc with⟨h0,hcap0⟩|⟨g,base,cc,e0,fv,rfl,hh,hbb,hl,hrr,hff⟩
     ·have h0':rows'=[]:=List.eq_nil_of_length_eq_zero (by omega);subst h0 h0' hcap0;have hnews:news=[]:=List.eq_nil_of_length_eq_zero (by simpa using hnl);subst hnews;have hrun:=hexec _ _ (by rw[hvx];exact zIg (P:=P) t t' o.type e i (hT.slice hkd) hi p 0 0 _ (by rw[hsi];exact hsrc) (zLr _));refine zEv hrun h2 (sv:=.own (T e).size ([]++[])) (fV:=zf) ?_ (fun j=>Nat.zero_le _) hk;simp only[R,zAn]
      exact .inl ⟨trivial,trivial,_,rfl⟩
     ·have hub:base+rows.length*(T e).size+news.length≤cc.size:=by
       have:(rows.length+rows'.length)*(T e).size≤cap*(T e).size:=Nat.mul_le_mul_right _ hroom;rw[Nat.add_mul]at this;omega
      have hst:=run_storeCells_at P g (base+rows.length*(T e).size) e0 news 0 cc w hh (by simpa using hub) hn1;simp only[Nat.add_zero]at hst;have hrun:=hexec _ _ (by rw[hvx];exact zFL (P:=P) t t' o.type e i (hT.slice hkd) hi ⟨g,base,none⟩ rows.length cap _ rows'.length news (by rw[hsi];exact hsrc) hroom (by rw[hsi,Addr.add_lit];exact hst));have hg1:one g g=1:=by simp[one]
      have hVg:=fpa hff g;have h3:=h2.writeX (g:=g) (by omega) (cc.toList.take (base+rows.length*(T e).size)++news++cc.toList.drop (base+rows.length*(T e).size+news.length)).toArray;have hbl:base+rows.length*(T e).size+news.length≤cc.toList.length:=by simpa using hub
      obtain⟨hsame,hdrop⟩:=zHv hbl
      have hsz:(cc.toList.take (base+rows.length*(T e).size)++news++cc.toList.drop (base+rows.length*(T e).size+news.length)).toArray.size=cc.size:=by
       simp only[List.size_toArray,zLa,zLt,zLd];rw[←Array.length_toList];omega
      generalize hc':(cc.toList.take (base+rows.length*(T e).size)++news++cc.toList.drop (base+rows.length*(T e).size+news.length))=c' at *;have hoth:∀j,j≠g→(w.setRow g c'.toArray).heap[j]? = w.heap[j]?:=fun j hj=>zFX w g j _ hj
      have hFw:∀j,G'.F j→(w.setRow g c'.toArray).heap[j]? = w.heap[j]?:=fun j hj=>hoth j (fun ee=>by have:=h2.fz j hj;subst ee;omega)
      have hleg:=h2.le g
      skip
      have hfg:=hf' g
      have r1:RLL (w.setRow g c'.toArray) G'.pure rows (c'.drop base) fv:=by
       refine RLL.agree _ _ _ _ hl (fun j hj=>?_) (RLL.frame (G:=G'.pure) (fun _ h=>h) rfl hFw _ _ _ (fun j hj=>hoth j (fun ee=>by subst ee;omega)) hrr);rw[List.getElem?_drop,List.getElem?_drop];exact hsame _ (.inl (by omega))
      have r2:RLL (w.setRow g c'.toArray) G'.pure rows' ((c'.drop base).drop (rows.length*(T e).size)) f':=by
       rw[List.drop_drop,hdrop,hpure];refine RLL.agree _ _ _ _ hl' (fun j hj=>?_) (RLL.frame (G:=G.pure) (fun _ h=>h) rfl (fun j hj=>hFw j (by rw[hF];exact hj)) _ _ _ (fun j hj=>hoth j (fun ee=>by subst ee;omega)) hrr');rw[List.getElem?_append_left (by omega)]
      have r3:=RLL.append _ _ _ _ _ hl r1 r2;refine zEv hrun h3 (sv:=.own (T e).size (rows++rows')) (fV:=fun j=>one g j+(fv j+f' j)) ?_ (fun j=>by have:=fpa hff j;have:=hf' j;simp only[zf];omega) hk;simp only[R]
      refine .inr ⟨g,base,cap,c'.toArray,e0,_,by rw[zLa],by rw[zLa];exact hroom,setRow_heap w g cc _ e0 (0,0) hh,by rw[hsz];exact hbb,?_,by simpa using r3,rfl⟩;intro r hr;rcases List.mem_append.1 hr with hr|hr
      ·exact hl r hr
      ·exact hl' r hr
    ·
     have hg:cap<rows.length+rows'.length:=by omega
     have hfit:Builtin.nextslicecap (rows.length+rows'.length) cap*i.bytes≤281474976710656:=growslice_fits hg (by rw[hbyt];exact hby)
     have hold:∃(olds:List Value) (fv:FP),(Builtin.firstCells i.size rows.length (.slice p rows.length cap)).run P w.drew = .ok olds.toArray w.drew∧olds.length=rows.length*(T e).size∧RLL w G'.pure rows olds fv∧(∀r∈rows,r.length=(T e).size)∧∀j,fv j≤fV j:=by
      rcases hc with⟨h0,hcap0⟩|⟨g,base,cc,e0,fv,rfl,hh,hbb,hl,hrr,hff⟩
      ·subst h0;refine⟨[],zf,?_,by simp,by simp[RLL],by simp,fun j=>Nat.zero_le _⟩;cases p with
       |none=>exact run_firstCells_none (P:=P) w.drew _ _ _ _
       |some q=>exact run_firstCells_some _ _ _ _ _ _ [] (by simp) (by simp)
      ·obtain⟨hle,hone'⟩:=RLL.cells _ _ _ hl hrr;have hlen:((cc.toList.drop base).take (rows.length*(T e).size)).length=rows.length*(T e).size:=by rw[zLt];omega
       refine⟨_,fv,run_firstCells_some _ _ _ _ _ _ ((cc.toList.drop base).take (rows.length*(T e).size)) (by rw[hsi];exact hlen) (fun j u hj=>?_),hlen,RLL.agree _ _ _ _ hl (fun j hj=>by rw[List.getElem?_take,if_pos hj]) hrr,hl,fun j=>by have:=fpa hff j;omega⟩;have hd:(w.drew).cell? ((⟨g,base,none⟩:Addr).add j)=w.cell? ((⟨g,base,none⟩:Addr).add j):=by simp
       rw[hd,Addr.add_lit,zHc hh];rw[List.getElem?_take]at hj;split at hj
       ·rw[List.getElem?_drop]at hj;simpa using hj
       ·simp at hj
     obtain⟨olds,fv,hold,holen,hrr,hl,hfv⟩:=hold;have hrun:=hexec _ _ (by rw[hvx];exact run_append_grow_src (P:=P) w t t' o.type e i z (hT.slice hkd) hi hz p rows.length cap olds hold _ rows'.length news (by rw[hsi];exact hsrc) hg (by omega) hfit);have h3:=h2.drew.fresh (.cells ((olds++news).toArray++Builtin.zeroCells z.cells (grownCap w (rows.length+rows'.length) cap e-(rows.length+rows'.length))) e);have hge:=grownCap_ge w (rows.length+rows'.length) cap e;have hzs:z.cells.size=(T e).size:=by rw[←hzl,←hzz];simp
     have hsame:∀j,j<w.heap.size→(w.drew.alloc (.cells ((olds++news).toArray++Builtin.zeroCells z.cells (grownCap w (rows.length+rows'.length) cap e-(rows.length+rows'.length))) e)).heap[j]? = w.heap[j]?:=fun j hj=>heap_alloc_old w.drew _ hj
     have hlv:∀j,1≤fV j→j<w.heap.size:=fun j hj=>h2.lt j (by omega)
     have hly:∀j,1≤fY j→j<w.heap.size:=fun j hj=>h2.lt j (by omega)
     have r1:=RLL.frame (G:=G'.pure) (G':=G'.pure) (fun _ h=>h) rfl (fun j hj=>hsame j (h2.fsize j hj)) _ _ _ (fun j hj=>hsame j (hlv j (by have:=hfv j;omega))) hrr;have r2:=RLL.frame (G:=G.pure) (G':=G.pure) (fun _ h=>h) rfl (fun j hj=>hsame j (h1.fsize j hj)) _ _ _ (fun j hj=>hsame j (hly j (by have:=hf' j;omega))) hrr'
     have r3:=RLL.append (k:=(T e).size) rows rows' (olds++(news++(Builtin.zeroCells z.cells (grownCap w (rows.length+rows'.length) cap e-(rows.length+rows'.length))).toList)) fv f' hl
      (RLL.agree _ _ _ _ hl (fun j hj=>by rw[List.getElem?_append_left (by omega)]) r1)
      (by
       rw[List.drop_append_of_le_length (by omega),List.drop_eq_nil_of_le (by omega),zNa,hpure]
       exact RLL.agree _ _ _ _ hl' (fun j hj=>by rw[List.getElem?_append_left (by omega)]) r2)
     refine zEv hrun h3 (sv:=.own (T e).size (rows++rows')) (fV:=fun j=>one w.heap.size j+(fv j+f' j)) ?_ (fun j=>by have:=hfv j;have:=hf' j;simp only[zf];have e1:w.drew.heap.size=w.heap.size:=rfl;rw[e1];omega) hk;simp only[R]
     refine .inr ⟨w.heap.size,0,grownCap w (rows.length+rows'.length) cap e,_,e,_,by rw[zLa],by rw[zLa];exact hge,heap_alloc_new w.drew _,?_,?_,by simpa[zAa]using r3,rfl⟩
     ·have hzc:(Builtin.zeroCells z.cells (grownCap w (rows.length+rows'.length) cap e-(rows.length+rows'.length))).size=(grownCap w (rows.length+rows'.length) cap e-(rows.length+rows'.length))*(T e).size:=by
       rw[←hzs];simp[Builtin.zeroCells]
      simp only[Array.size_append,List.size_toArray,zLa,holen,hnl,hzc,←Nat.add_mul]
      have:rows.length+rows'.length+(grownCap w (rows.length+rows'.length) cap e-(rows.length+rows'.length))=grownCap w (rows.length+rows'.length) cap e:=by omega
      rw[this];omega
     ·intro r hr;rcases List.mem_append.1 hr with hr|hr
      ·exact hl r hr
      ·exact hl' r hr
   ·exact hk.elim
  ·exact hk.elim
 ·exact hk.elim
end
end Go.AM
end
section
namespace Go.AM
def gK (K:St→Prop)(st:St):Prop :=
 ∀(w0 w:World) (L:Lv) (tmps:Array Value) (G:Gh),SR w0 L st tmps w G→∃st' G',K st'∧SR w0 L st' tmps w G'
mutual
def wk:SV→SV→Prop
 |_,.u=>True
 |.nil,.own _ rows=>rows=[]
 |.nil,.sl _ rows=>rows=[]
 |.agg xs,.agg ys=>wkL xs ys
 |.tup xs,.tup ys=>wkL xs ys
 |x,y=>x=y
def wkL:List SV→List SV→Prop
 |[],ys=>ys=[]
 | x::xs,ys=>match ys with
   |[]=>False
   |y::ys=>wk x y∧wkL xs ys
end
def wkRows:List (List SV)→List (List SV)→Prop
 |[],ys=>ys=[]
 | x::xs,ys=>match ys with
   |[]=>False
   |y::ys=>wkL x y∧wkRows xs ys
def wkObs:List Ob→List Ob→Prop
 |[],ys=>ys=[]
 | x::xs,ys=>match ys with
   |[]=>False
   |y::ys=>x.name=y.name∧x.k=y.k∧x.nm=y.nm∧wkRows x.rows y.rows∧wkObs xs ys
mutual
def zLk:∀x:SV,wk x x
 |.u=>trivial
 |.sk=>rfl
 |.i _ _=>rfl
 |.b _=>rfl
 |.s _=>rfl
 |.sl _ _=>rfl
 |.own _ _=>rfl
 |.ar _=>rfl
 |.p _ _ _=>rfl
 |.ro _=>rfl
 |.nilp=>rfl
 |.nil=>rfl
 |.fn _ _=>rfl
 |.agg cs=>zAo cs
 |.tup cs=>zAo cs
def zAo:∀l:List SV,wkL l l
 |[]=>rfl
 |x::l=>⟨zLk x,zAo l⟩
end
def zBk:∀l:List (List SV),wkRows l l
 |[]=>rfl
 |r::l=>⟨zAo r,zBk l⟩
section
variable {w0 w w':World}{L:Lv}{st st1:St}{a:Act}{G G':Gh}{fE fO fX:FP}{K K':St→Prop}{tmps:Array Value}{T:Nat→TI}{C:zAx}{o:Oper}
mutual
def R.wk:∀(x y:SV) (v:Value) (f:FP),AM.wk x y→R w G x v f→∃f':FP,R w G y v f'∧∀j,f' j≤f j
 |x,.u,v,f,_,h=>⟨zf,R_u _ _ _,fun j=>Nat.zero_le _⟩
 | x,.own k rows,v,f,hw,h=>by
   cases x with
   | nil=>
     have:rows=[]:=hw;subst this;simp only[R]at h;exact⟨zf,by simp only[R];exact .inl ⟨trivial,trivial,h.2⟩,fun j=>Nat.zero_le _⟩
   |_=>simp only[AM.wk]at hw;first|(rw[←hw];exact⟨f,h,fun j=>zLr _⟩)|cases hw
 | x,.sl k rows,v,f,hw,h=>by
   cases x with
   | nil=>
     have:rows=[]:=hw;subst this;simp only[R]at h;obtain⟨hf,p,hv⟩:=h;exact⟨zf,by simp only[R];exact⟨trivial,p,0,hv,zLr _,.inl trivial⟩,fun j=>Nat.zero_le _⟩
   |_=>simp only[AM.wk]at hw;first|(rw[←hw];exact⟨f,h,fun j=>zLr _⟩)|cases hw
 | x,.agg ys,v,f,hw,h=>by
   cases x with
   | agg xs=>
     simp only[AM.wk]at hw;simp only[R]at h;obtain⟨vs,hv,hs,hr⟩:=h;obtain⟨f',h',hle,hl⟩:=RL.wk xs ys _ f hw hr;exact⟨f',by simp only[R];exact⟨vs,hv,by rw[hs,hl],h'⟩,hle⟩
   |_=>simp only[AM.wk]at hw;first|(rw[←hw];exact⟨f,h,fun j=>zLr _⟩)|cases hw
 | x,.tup ys,v,f,hw,h=>by
   cases x with
   | tup xs=>
     simp only[AM.wk]at hw;simp only[R]at h;obtain⟨vs,hv,hs,hr⟩:=h;obtain⟨f',h',hle,hl⟩:=RL.wk xs ys _ f hw hr;exact⟨f',by simp only[R];exact⟨vs,hv,by rw[hs,hl],h'⟩,hle⟩
   |_=>simp only[AM.wk]at hw;first|(rw[←hw];exact⟨f,h,fun j=>zLr _⟩)|cases hw
 | x,.sk,v,f,hw,h=>by
   have e:x = .sk:=by cases x<;>simpa[AM.wk]using hw
   exact⟨f,e▸h,fun j=>zLr _⟩
 | x,.i k n,v,f,hw,h=>by
   have e:x = .i k n:=by cases x<;>simpa[AM.wk]using hw
   exact⟨f,e▸h,fun j=>zLr _⟩
 | x,.b z,v,f,hw,h=>by
   have e:x = .b z:=by cases x<;>simpa[AM.wk]using hw
   exact⟨f,e▸h,fun j=>zLr _⟩
 | x,.s z,v,f,hw,h=>by
   have e:x = .s z:=by cases x<;>simpa[AM.wk]using hw
   exact⟨f,e▸h,fun j=>zLr _⟩
 | x,.ar z,v,f,hw,h=>by
   have e:x = .ar z:=by cases x<;>simpa[AM.wk]using hw
   exact⟨f,e▸h,fun j=>zLr _⟩
 | x,.p z z1 z2,v,f,hw,h=>by
   have e:x = .p z z1 z2:=by cases x<;>simpa[AM.wk]using hw
   exact⟨f,e▸h,fun j=>zLr _⟩
 | x,.ro z,v,f,hw,h=>by
   have e:x = .ro z:=by cases x<;>simpa[AM.wk]using hw
   exact⟨f,e▸h,fun j=>zLr _⟩
 | x,.nilp,v,f,hw,h=>by
   have e:x = .nilp:=by cases x<;>simpa[AM.wk]using hw
   exact⟨f,e▸h,fun j=>zLr _⟩
 | x,.nil,v,f,hw,h=>by
   have e:x = .nil:=by cases x<;>simpa[AM.wk]using hw
   exact⟨f,e▸h,fun j=>zLr _⟩
 | x,.fn z z1,v,f,hw,h=>by
   have e:x = .fn z z1:=by cases x<;>simpa[AM.wk]using hw
   exact⟨f,e▸h,fun j=>zLr _⟩
def RL.wk:∀(xs ys:List SV) (vs:List Value) (f:FP),AM.wkL xs ys→RL w G xs vs f→∃f':FP,RL w G ys vs f'∧(∀j,f' j≤f j)∧xs.length=ys.length
 |[],ys,vs,f,hw,h=>by simp only[AM.wkL]at hw;subst hw;exact⟨f,h,fun j=>zLr _,rfl⟩
 |x::xs,[],vs,f,hw,h=>by simp only[AM.wkL]at hw
 | x::xs,y::ys,vs,f,hw,h=>by
   simp only[AM.wkL]at hw;simp only[RL]at h;obtain⟨v,vs',f1,f2,hv,h1,h2,hff⟩:=h;obtain⟨g1,hg1,hl1⟩:=R.wk x y v f1 hw.1 h1;obtain⟨g2,hg2,hl2,hlen⟩:=RL.wk xs ys vs' f2 hw.2 h2;exact⟨fun j=>g1 j+g2 j,by simp only[RL];exact⟨v,vs',g1,g2,hv,hg1,hg2,rfl⟩,fun j=>by have:=fpa hff j;have:=hl1 j;have:=hl2 j;dsimp only;omega,by simp[hlen]⟩
end
def RLL.wk:∀(xs ys:List (List SV)) (vs:List Value) (f:FP),AM.wkRows xs ys→RLL w G xs vs f→∃f':FP,RLL w G ys vs f'∧(∀j,f' j≤f j)∧xs.length=ys.length∧∀k,(∀r∈xs,r.length=k)→∀r∈ys,r.length=k
 |[],ys,vs,f,hw,h=>by simp only[AM.wkRows]at hw;subst hw;exact⟨f,h,fun j=>zLr _,rfl,fun k _ r hr=>by simp at hr⟩
 |x::xs,[],vs,f,hw,h=>by simp only[AM.wkRows]at hw
 | x::xs,y::ys,vs,f,hw,h=>by
   simp only[AM.wkRows]at hw;simp only[RLL]at h;obtain⟨f1,f2,h1,ho,h2,hff⟩:=h;obtain⟨g1,hg1,hl1,hlen1⟩:=RL.wk x y vs f1 hw.1 h1;obtain⟨g2,hg2,hl2,hlen2,hk2⟩:=RLL.wk xs ys (vs.drop x.length) f2 hw.2 h2;refine⟨fun j=>g1 j+g2 j,by simp only[RLL];exact⟨g1,g2,hg1,by rw[←hlen1];exact ho,by rw[←hlen1];exact hg2,rfl⟩,fun j=>by have:=fpa hff j;have:=hl1 j;have:=hl2 j;dsimp only;omega,by simp[hlen2],?_⟩;intro k hk r hr;rcases List.mem_cons.1 hr with rfl|hr
   ·rw[←hlen1];exact hk x (by simp)
   ·exact hk2 k (fun r hr=>hk r (by simp[hr])) r hr
def ROs.wk:∀(xs ys:List Ob) (f:FP),AM.wkObs xs ys→ROs w G xs f→∃f':FP,ROs w G ys f'∧(∀j,f' j≤f j)∧names xs=names ys
 |[],ys,f,hw,h=>by simp only[AM.wkObs]at hw;subst hw;exact⟨f,h,fun j=>zLr _,rfl⟩
 |x::xs,[],f,hw,h=>by simp only[AM.wkObs]at hw
 | x::xs,y::ys,f,hw,h=>by
   simp only[AM.wkObs]at hw;obtain⟨hn,hk,hnm,hrows,hw⟩:=hw;obtain⟨f1,f2,h1,h2,hff⟩:=h;obtain⟨g2,hg2,hl2,hnames⟩:=ROs.wk xs ys f2 hw h2;obtain⟨r,hr,hrk,hrn,hl,hm⟩:=h1;have hnames':names (x::xs)=names (y::ys):=by simp only[names,zMc]at hnames ⊢;rw[hn,hnames]
   cases hb:r.blk with
   | none=>
     rw[hb]at hm;obtain⟨hx0,hf0⟩:=hm;have hy0:y.rows=[]:=by rw[hx0]at hrows;simpa[AM.wkRows]using hrows
     exact⟨fun j=>f1 j+g2 j,⟨f1,g2,⟨r,by rw[←hn];exact hr,by rw[hrk,hk],by rw[hrn,hx0,hy0],by simp[hy0],by rw[hb];exact⟨hy0,hf0⟩⟩,hg2,rfl⟩,fun j=>by have:=fpa hff j;have:=hl2 j;dsimp only;omega,hnames'⟩
   | some q=>
     obtain⟨g,base,csz⟩:=q;rw[hb]at hm;obtain⟨c,e,f',hh,hs,hbb,hrr,hf1⟩:=hm;obtain⟨g1,hg1,hl1,hlen,hk1⟩:=RLL.wk x.rows y.rows _ f' hrows hrr;refine⟨fun j=>(one g j+g1 j)+g2 j,⟨fun j=>one g j+g1 j,g2,⟨r,by rw[←hn];exact hr,by rw[hrk,hk],by rw[hrn,hlen],by rw[←hk];exact hk1 x.k hl,?_⟩,hg2,rfl⟩,fun j=>by have:=fpa hff j;have:=hl2 j;have:=fpa hf1 j;have:=hl1 j;dsimp only;omega,hnames'⟩;rw[hb];exact⟨c,e,g1,hh,hs,hbb,by rw[←hnm];exact hg1,rfl⟩
def gK_le (st':St)(he:wkL st.env st'.env)(ho:wkObs st.ob st'.ob)(h:K st'):gK K st:=by
 intro w0 w L tmps G ⟨fE,fO,hc⟩;obtain⟨fE',hE,hle,hlen⟩:=RL.wk _ _ _ _ he hc.E;obtain⟨fO',hO,hleO,hnames⟩:=ROs.wk _ _ _ ho hc.O;refine⟨st',G,h,fE',fO',?_⟩
 exact
  {size:=by rw[hc.size,hlen]
   E:=hE,O:=hO
   le:=fun g=>by have:=hc.le g;have:=hle g;have:=hleO g;omega
   fz:=fun g hg=>by have:=hc.fz g hg;have:=hle g;have:=hleO g;omega
   lf:=fun g hg=>by have:=hc.lf g hg;have:=hle g;have:=hleO g;omega
   lt:=fun g hg=>hc.lt g (by have:=hle g;have:=hleO g;omega)
   nodup:=by rw[←hnames];exact hc.nodup
   fl:=hc.fl,fm:=hc.fm,bk:=hc.bk,fsize:=hc.fsize,keep:=hc.keep,lsize:=hc.lsize,grow:=hc.grow,os:=hc.os,tape:=hc.tape,output:=hc.output}
def zAO {b:Bool}{K:Prop}(h:chk b K):b=true∧K:=by
 unfold chk at h;split at h
 ·exact⟨rfl,h⟩
 ·exact h.elim
def zBY {a b:Nat}(h:ble a b=true):a≤b:=Nat.le_of_ble_eq_true h
def zDB (h:K st):gK K st:=fun _ _ _ _ G hs=>⟨st,G,h,hs⟩
def zFj (h:gK K st)(hk:∀ st,K st→K' st):gK K' st:=fun w0 w L t G hs=>
 let⟨st',G',h1,h2⟩:=h w0 w L t G hs;⟨st',G',hk _ h1,h2⟩
def zBQ (h:gK (gK K) st):gK K st:=fun w0 w L t G hs=>by
 obtain⟨st',G',h1,h2⟩:=h w0 w L t G hs;exact h1 w0 w L t G' h2
def ROs.rem' {o:Nat}:∀(l:List Ob) (f:FP) (x:Ob),zAZ l o=some x→ROs w G l f→∃f1 f2:FP,RO w G x f1∧∀j,f1 j+f2 j=f j
 |[],f,x,hg,h=>by simp[zAZ]at hg
 | y::l,f,x,hg,h=>by
   obtain⟨f1,f2,h1,h2,hff⟩:=h;simp only[zAZ]at hg;split at hg
   ·simp at hg;subst hg;exact⟨f1,f2,h1,fun j=>(fpa hff j).symm⟩
   ·obtain⟨g1,g2,ha,hab⟩:=ROs.rem' l f2 x hg h2;exact⟨g1,fun j=>f1 j+g2 j,ha,fun j=>by have:=fpa hff j;have:=hab j;dsimp only;omega⟩
def zHC {x:Ob}{i:Nat}{row:List SV}{B:List SV→Prop}(hx:x.rows[i]? = some row)(h:B row):zHD x i B:=by
 unfold zHD;split
 ·rw[hx];exact h
 ·intro r hr;rw[hx]at hr;cases hr;exact h
def zCP {α:Type}{l:List α}{i:Nat}{r:α}(h:l[i]? = some r):i<l.length:=by
 rcases Nat.lt_or_ge i l.length with hl|hl
 ·exact hl
 ·rw[List.getElem?_eq_none hl]at h;cases h
def zEc:∀(ks:List TK) (row:List SV) (B:List SV→Prop),zHA T ks row→zEd T ks B→B row
 |[],row,B,hs,h=>by simp only[zHA]at hs;subst hs;exact h
 |k::ks,[],B,hs,h=>by simp only[zHA]at hs
 | k::ks,c::cs,B,hs,h=>by
   obtain⟨h1,h2⟩:=hs;cases k with
   | int k=>cases c with
     |i k' n=>simp only at h1;subst h1;exact zEc ks cs _ h2 (h n)
     |_=>simp only at h1
   | bool=>cases c with
     |b x=>exact zEc ks cs _ h2 (h x)
     |_=>simp only at h1
   | str=>cases c with
     |s x=>exact zEc ks cs _ h2 (h x)
     |_=>simp only at h1
   | slice e=>cases c with
     |sl n rows=>simp only at h1;subst h1;exact zEc ks cs _ h2 (h rows)
     |_=>simp only at h1
   |_=>exact h.elim
def binN_K {op:BinOp}{x y:SV}{K:SV→Prop}(h:binN op x y K):binK op x y K:=by
 unfold binN at h;unfold binK;split at h
 ·split at h
  ·have:=zAO h;exact⟨of_decide_eq_true this.1,this.2⟩
  ·have:=zAO h;exact⟨of_decide_eq_true this.1,this.2⟩
  ·have:=zAO h;exact⟨of_decide_eq_true this.1,this.2⟩
  ·have:=zAO h;exact⟨of_decide_eq_true this.1,this.2⟩
  ·have:=zAO h;exact⟨of_decide_eq_true this.1,this.2⟩
  ·exact h
  ·exact h
  ·split at h
   ·rename_i hb;try simp only[hb]
    have:=zAO h;exact⟨of_decide_eq_true this.1,this.2⟩
   ·exact h.elim
  ·split at h
   ·rename_i hb;try simp only[hb]
    have:=zAO h;exact⟨of_decide_eq_true this.1,this.2⟩
   ·exact h.elim
  ·split at h
   ·rename_i hb;try simp only[hb]
    have:=zAO h;exact⟨of_decide_eq_true this.1,this.2⟩
   ·exact h.elim
  ·split at h
   ·rename_i hb;try simp only[hb]
    have:=zAO h;exact⟨of_decide_eq_true this.1,this.2⟩
   ·exact h.elim
 ·exact h
 ·exact h.elim
def zHd {op:BinOp}{x y:SV}{K K':SV→Prop}(h:binK op x y K)(hk:∀ v,K v→K' v):binK op x y K':=by
 unfold binK at *;split at h
 ·split at h
  ·exact⟨h.1,hk _ h.2⟩
  ·exact⟨h.1,hk _ h.2⟩
  ·exact⟨h.1,hk _ h.2⟩
  ·exact⟨h.1,h.2.1,hk _ h.2.2⟩
  ·exact⟨h.1,h.2.1,hk _ h.2.2⟩
  ·exact⟨h.1,hk _ h.2⟩
  ·exact⟨h.1,hk _ h.2⟩
  ·split at h
   ·exact⟨h.1,hk _ h.2⟩
   ·exact h
  ·split at h
   ·exact⟨h.1,hk _ h.2⟩
   ·exact h
  ·split at h
   ·exact⟨h.1,hk _ h.2⟩
   ·exact h
  ·split at h
   ·exact⟨h.1,hk _ h.2⟩
   ·exact h
 ·split at h
  ·exact⟨h.1,hk _ h.2⟩
  ·split at h
   ·exact hk _ h
   ·exact h
 ·exact h
def zTl {ob i off d:Nat}(hk:zHH ob i off d K st):gK K st:=by
 unfold zHH at hk;split at hk
 ·rename_i x hg;split at hk
  ·rename_i row hrow;split at hk
   ·rename_i k rows hcl;obtain⟨h1,hk⟩:=zAO hk;simp only[zBa,bne_iff_ne]at h1;obtain⟨⟨⟨hd0,hne⟩,hnm⟩,hoff0⟩:=h1;have hd:d<100000:=Nat.le_of_ble_eq_true hd0;have hoff:=zBY hoff0;intro w0 w L tmps G ⟨fE,fO,h⟩
    have hcell:(row.drop off).take 1=[.own k rows]:=by
     rw[zLL row off (by omega)]at hcl;rw[List.drop_eq_getElem_cons (by omega)];simp[hcl]
    obtain⟨f1,f2,hro,_⟩:=ROs.rem' _ _ _ hg h.O;obtain⟨r,hr,hrk,hrn,hl,hm⟩:=hro;rw[zBN _ _ _ hg]at hr;obtain⟨blk,rk,rn⟩:=r;cases blk with
    |none=>simp only at hm;rw[hm.1]at hrow;simp at hrow
    |some q=>
    obtain⟨g0,base0,csz0⟩:=q
    have hp:R w G (.p ob i off) (.pointer (some ⟨g0,base0+i*rk+off,none⟩)) zf:=by
     simp only[R]
     exact⟨trivial,g0,base0,csz0,rk,rn,hr,rfl⟩
    obtain⟨g,b,c,e,fr,f,hv,hh,hle,hr,hput⟩:=h.row (m:=1) hg hrow hoff hp;simp only[hnm,if_true]at hr hput;rw[hcell]at hr;have hlt:b<c.size:=by omega
    have hu:(c.toList.drop b).take 1=[c[b]]:=by rw[List.drop_eq_getElem_cons (by simpa using hlt)];simp
    have hdrop:c.toList.drop b=c[b]::c.toList.drop (b+1):=by rw[List.drop_eq_getElem_cons (by simpa using hlt)];simp
    rw[hu]at hr;simp only[RL]at hr;obtain⟨u',us,f1,f2,hu',hru,hz,hff⟩:=hr;simp only[List.cons.injEq]at hu';obtain⟨rfl,rfl⟩:=hu';obtain⟨r,hro,har⟩:=hru.name d;obtain⟨fO2,h2⟩:=hput [.u] zf f rfl (by simp only[RL];exact⟨c[b],c.toList.drop (b+1),zf,zf,hdrop,R_u _ _ _,rfl,by funext j;simp[zf]⟩) (fun j=>by simp[zf]);obtain⟨fO3,h3⟩:=h2.addOb d k hd rows false r (fX':=zf) hro (fun j=>by have:=fpa hff j;simp only[zf];omega)
    change (match zAZ (AM.addOb ⟨st.env,zAk st.ob ob (x.rows.set i (wr row off [.u]))⟩ d k rows false).ob ob with
     |some y=>_|none=>False)at hk
    split at hk
    ·rename_i x1 hx1;split at hk
     ·rename_i row1 hrow1;obtain⟨h1,hk⟩:=zAO hk;simp only[zBa]at h1;obtain⟨hnm1,hoff1⟩:=h1;have hoff1:=zBY hoff1
      have hp3:R w (G.bind d r) (.p ob i off) (.pointer (some ⟨g0,base0+i*rk+off,none⟩)) zf:=by
       simp only[R]at hp ⊢;rw[Gh.bind_ne ob (Ne.symm hne)];exact hp
      obtain⟨g',b',c',e',fr',f',hv',hh',hle',hr',hput'⟩:=h3.row (m:=1) hx1 hrow1 hoff1 hp3;rw[hv]at hv';simp only[Value.pointer.injEq,zSe,Addr.mk.injEq,and_true]at hv';obtain⟨rfl,rfl⟩:=hv';rw[hh]at hh';simp only[zSe,Obj.cells.injEq]at hh';obtain⟨rfl,rfl,rfl⟩:=hh';simp only[hnm1,if_true]at hput';obtain⟨fO4,h4⟩:=hput' [.ar d] zf zf rfl (by simp only[RL];exact⟨c[b],c.toList.drop (b+1),zf,zf,hdrop,har,rfl,by funext j;simp[zf]⟩) (fun j=>by simp[zf]);exact⟨_,G.bind d r,hk,_,fO4,h4⟩
     ·exact hk.elim
    ·exact hk.elim
   ·exact zDB hk
  ·exact hk.elim
 ·exact hk.elim
def zQN {ob i d:Nat}:∀(n j:Nat) {K:St→Prop} {st:St},zIK ob i d n j K st→gK K st
 |0,j,K,st,h=>zDB h
 |n+1,j,K,st,h=>zBQ (zFj (zTl h) fun s hs=>zQN n (j+1) hs)
def loadN_K {t:Nat}{o:Nat}{i off:Nat}{d:Option Tmp}{K:St→Prop}(h:zQD T t o i off d K st):zGb T t (.p o i off) d st K:=by
 unfold zQD at h;unfold zGb;split at h
 ·rename_i x hx;split at h
  ·rename_i row hrow;obtain⟨h1,h2⟩:=zAO h;simp only[zBa,Bool.not_eq_true']at h1;simp only[hx]
   refine⟨h1.1.1,zCP hrow,zHC hrow ⟨zBY h1.1.2,?_⟩⟩;have h8:=h1.2;generalize valOf T t (List.take (T t).size (List.drop off row))=v at *;cases v with
   |own k rows=>simp[zAg]at h8
   | _=>
     first
     |(rw[if_neg (by rw[h8];simp)];exact h2)
     |(simp only[] ;rw[if_neg (by rw[h8];simp)];exact h2)
  ·exact h.elim
 ·exact h.elim
def loadA_K {t:Nat}{o:Nat}{i off:Nat}{x:Ob}{d:Option Tmp}{K:St→Prop}(hx:zAZ st.ob o=some x)(h:zUm T t o i off x d K st):zGb T t (.p o i off) d st K:=by
 unfold zUm at h;unfold zGb;simp only[hx]
 split at h
 ·rename_i e he;split at h
  ·rename_i d;obtain⟨h1,h2,h3⟩:=zAO h;simp only[zBa,beq_iff_eq]at h1;have hr:=zGe h2;obtain⟨⟨h4,r,h5⟩,h6⟩:=h3 _ hr;refine⟨h1.1,h2,zHC hr ⟨by rw[h1.2];exact h4,?_⟩⟩
   have hv:valOf T t (List.take (T t).size (List.drop off x.rows[i])) = .own (T e).size r:=by
    rw[h1.2,h5];unfold valOf;rw[he];rfl
   rw[hv];exact .inr (h6 r h5)
  ·exact h.elim
 ·obtain⟨h1,h2,h3⟩:=zAO h;refine⟨h1,h2,?_⟩;have hr:=zGe h2;obtain⟨⟨h4,h5⟩,h6⟩:=h3 _ hr;refine zHC hr ⟨h4,?_⟩;have h7:=zEc _ _ _ h5 h6 rfl;obtain⟨h8,h9⟩:=zAO h7;simp only[Bool.not_eq_true']at h8;generalize valOf T t (List.take (T t).size (List.drop _ _))=v at *;cases v with
  |own k rows=>simp[zAg]at h8
  | _=>
    first
    |(rw[if_neg (by rw[h8];simp)];exact h9)
    |(simp only[] ;rw[if_neg (by rw[h8];simp)];exact h9)
def loadN_G {t:Nat}{a:Operand}{d:Option Tmp}{K:St→Prop}(h:zWv T t a d st K):gK (fun s=>zGb T t (ev s.env a) d s K) st:=by
 unfold zWv at h;split at h
 ·rename_i cells hv;obtain⟨h1,h2⟩:=zAO h;simp only[zBa,bne_iff_ne]at h1;refine zDB ?_;rw[hv];exact⟨h1.1.1,h1.1.2,zBY h1.2,h2⟩
 ·rename_i o i off hv;split at h
  ·rename_i x hx;split at h
   ·refine zFj (zQN _ _ h) fun s hs=>?_
    unfold zWu at hs;split at hs
    ·rename_i hv';rw[hv'];exact loadN_K hs
    ·exact hs.elim
   ·refine zDB ?_;rw[hv];exact loadA_K hx h
  ·exact h.elim
 ·exact h.elim
def zWr:∀xs ys:List SV,nilL xs ys→wkL xs ys
 |[],_,h=>h
 |_::_,[],h=>h.elim
 | x::xs,y::ys,⟨h1,h2⟩=>by
   refine⟨?_,zWr xs ys h2⟩;rcases h1 with rfl|⟨rfl,k,rfl|rfl⟩
   ·exact zLk _
   ·rfl
   ·rfl
def zSM:∀cs cs' row:List SV,wkL cs cs'→wkL (over cs row) (over cs' row)
 |[],cs',row,h=>by rw[show cs'=[]from h];exact zAo _
 |_::_,[],_,h=>h.elim
 |c::cs,c'::cs',[],_=>rfl
 |c::cs,c'::cs',r::row,h=>⟨h.1,zSM cs cs' row h.2⟩
def wkL_wr (cs cs':List SV)(h:wkL cs cs'):∀(row:List SV) (n:Nat),wkL (wr row n cs) (wr row n cs')
 |row,0=>by simp only[wr];exact zSM cs cs' row h
 |[],n+1=>rfl
 |x::row,n+1=>⟨zLk x,wkL_wr cs cs' h row n⟩
def zFo {r r':List SV}(h:wkL r r'):∀(rows:List (List SV)) (i:Nat),wkRows (rows.set i r) (rows.set i r')
 |[],i=>rfl
 |x::l,0=>⟨h,zBk l⟩
 |x::l,i+1=>⟨zAo x,zFo h l i⟩
def zKq:∀l:List Ob,wkObs l l
 |[]=>rfl
 |x::l=>⟨rfl,rfl,rfl,zBk _,zKq l⟩
def zGm {o:Nat}{rows rows':List (List SV)}(h:wkRows rows rows'):∀l:List Ob,wkObs (zAk l o rows) (zAk l o rows')
 |[]=>rfl
 | x::l=>by
   unfold zAk;by_cases hx:x.name=o
   ·rw[if_pos hx,if_pos hx];exact⟨rfl,rfl,rfl,h,zKq l⟩
   ·rw[if_neg hx,if_neg hx];exact⟨rfl,rfl,rfl,zBk _,zGm h l⟩
def storeN_K {t:Nat}{a:SV}{x:Operand}{d:Option Tmp}{K:St→Prop}(h:zTD T t a x st (kSk d K)):zJP T t a x st (kSk d (gK K)):=by
 unfold zTD at h;unfold zJP;split at h
 ·split at h
  ·rename_i y hy;obtain⟨h1,h2⟩:=zAO h;simp only[zBa,Bool.or_eq_true,beq_iff_eq]at h1;obtain⟨⟨⟨h3,h4⟩,h5⟩,h6⟩:=h1;split at h2
   ·split at h2
    ·rename_i row hr;obtain⟨h7,h8⟩:=zAO h2;exact⟨h3,zCP hr,zHC hr ⟨zBY h7,h4,h5,h6,zDB h8⟩⟩
    ·exact h2.elim
   ·obtain⟨h7,h8⟩:=h2;have hr:=zGe h7;obtain⟨h9,cs,hcs,h10⟩:=h8 _ hr;refine⟨h3,h7,zHC hr ⟨h9,h4,h5,h6,?_⟩⟩;refine gK_le _ ?_ ?_ h10
    ·cases d<;>exact zAo _
    ·cases d<;>exact zGm (zFo (wkL_wr _ _ (zWr _ _ hcs) _ _) y.rows _) (strip st x).ob
  ·exact h.elim
 ·exact h.elim
def sliceN_K {t:Nat}{x:Operand}{lo hi mx:Option Operand}{d:Option Tmp}{K:St→Prop}(h:zPc T t x lo hi mx d st K):zFK T t x lo hi mx d st K:=by
 unfold zPc at h;split at h
 ·rename_i e k rows hk hv;unfold zFK;simp only[hk,hv]
  obtain⟨h1,h2⟩:=zAO h;simp only[zBa,beq_iff_eq]at h1;refine⟨h1.1,h1.2,?_⟩;split at h2
  ·split at h2
   ·exact⟨h2.1.1,h2.1.2.1,h2.1.2.2,h2.2⟩
   ·exact h2.elim
  ·split at h2
   ·rename_i h3 h4 h5 h6;obtain⟨⟨q1,q2,q3,q4,q5⟩,q6⟩:=h2;exact⟨q1,q2,q3,q4,by rw[if_neg q5];exact q6⟩
   ·exact h2.elim
 ·exact h
def zLG:∀(ks:List TK) (row:List SV),wkL row (zCX T ks row)
 |[],row=>zAo row
 |_::_,[]=>rfl
 | k::ks,v::vs=>by
   simp only[zCX,wkL]
   refine⟨?_,zLG ks vs⟩;unfold zUk;split
   ·rfl
   ·exact zLk _
def zGZ (ks:List TK):∀rows:List (List SV),wkRows rows (zDz T ks rows)
 |[]=>rfl
 |r::l=>⟨zLG ks r,zGZ ks l⟩
def zLK {t:Nat}{a:SV}{d:Option Tmp}{K K':St→Prop}(h:zGb T t a d st K)(hk:∀ s,K s→K' s):zGb T t a d st K':=by
 unfold zGb at *;split at h
 ·exact⟨h.1,h.2.1,h.2.2.1,hk _ h.2.2.2⟩
 ·split at h
  ·refine⟨h.1,h.2.1,h.2.2.mono fun row ⟨hr,h2⟩=>⟨hr,?_⟩⟩;split at h2
   ·split at h2
    ·rcases h2 with h2|h2
     ·left;refine⟨h2.1,h2.2.1,h2.2.2.1,?_⟩;have h3:=h2.2.2.2;unfold openK at *;split at h3
      ·exact⟨h3.1,h3.2.1,h3.2.2.mono fun r ⟨hr,h⟩=>⟨hr,hk _ h⟩⟩
      ·exact h3
     ·exact .inr (hk _ h2)
    ·exact h2
   ·split at h2
    ·rename_i hh;rw[if_pos hh];exact⟨h2.1,h2.2.1,hk _ h2.2.2⟩
    ·rename_i hh;rw[if_neg hh];exact hk _ h2
  ·exact h
 ·exact h
def zRL {t:Nat}{a:SV}{x:Operand}{K K':St→Prop}(h:zJP T t a x st K)(hk:∀ s,K s→K' s):zJP T t a x st K':=by
 unfold zJP at *;split at h
 ·split at h
  ·exact⟨h.1,h.2.1,h.2.2.mono fun row ⟨h1,h2,h3,h4,h5⟩=>⟨h1,h2,h3,h4,hk _ h5⟩⟩
  ·exact h
 ·exact h
def zJX {t:Nat}{x:Operand}{lo hi mx:Option Operand}{d:Option Tmp}{K K':St→Prop}(h:zFK T t x lo hi mx d st K)(hk:∀ s,K s→K' s):zFK T t x lo hi mx d st K':=by
 unfold zFK at *;split at h
 ·split at h
  ·exact⟨h.1,h.2.1,h.2.2.1,hk _ h.2.2.2⟩
  ·exact h
 ·refine⟨h.1,h.2.1,?_⟩;have h3:=h.2.2;split at h3
  ·split at h3
   ·exact⟨h3.1,h3.2.1,h3.2.2.1,hk _ h3.2.2.2⟩
   ·exact h3
  ·split at h3
   ·refine⟨h3.1,h3.2.1,h3.2.2.1,h3.2.2.2.1,?_⟩;have h4:=h3.2.2.2.2;split at h4
    ·rename_i hc;rw[if_pos hc];exact hk _ h4
    ·rename_i hc;rw[if_neg hc];exact hk _ h4
   ·exact h3
 ·split at h
  ·exact⟨h.1,hk _ h.2⟩
  ·exact h
 ·split at h
  ·refine⟨h.1,h.2.1,?_⟩;have h3:=h.2.2;split at h3
   ·exact⟨h3.1,h3.2.1,h3.2.2.1,hk _ h3.2.2.2⟩
   ·exact h3
  ·exact h
 ·exact h
def RL.upd_le {x y:SV}(hR:∀ v f,R w G x v f→∃ f':FP,R w G y v f'∧∀ j,f' j≤f j):∀(l:List SV) (t:Nat) (vs:List Value) (f:FP),RL w G (upd l t x) vs f→∃f':FP,RL w G (upd l t y) vs f'∧∀j,f' j≤f j
 |[],t,vs,f,h=>⟨f,h,fun j=>zLr _⟩
 | z::l,0,vs,f,h=>by
   simp only[upd,RL]at h ⊢;obtain⟨v,vs',f1,f2,hv,h1,h2,hff⟩:=h;obtain⟨g1,hg1,hl1⟩:=hR v f1 h1;exact⟨fun j=>g1 j+f2 j,⟨v,vs',g1,f2,hv,hg1,h2,rfl⟩,fun j=>by have:=fpa hff j;have:=hl1 j;dsimp only;omega⟩
 | z::l,t+1,vs,f,h=>by
   simp only[upd,RL]at h ⊢;obtain⟨v,vs',f1,f2,hv,h1,h2,hff⟩:=h;obtain⟨g2,hg2,hl2⟩:=RL.upd_le hR l t vs' f2 h2;exact⟨fun j=>f1 j+g2 j,⟨v,vs',f1,g2,hv,h1,hg2,rfl⟩,fun j=>by have:=fpa hff j;have:=hl2 j;dsimp only;omega⟩
def zWN {d:Option Tmp}{x y:SV}{K:St→Prop}(hR:∀ w G v f,R w G x v f→∃ f':FP,R w G y v f'∧∀ j,f' j≤f j)(h:K (setD st d y)):gK K (setD st d x):=by
 cases d with
 |none=>exact zDB h
 | some t=>
   intro w0 w L tmps G ⟨fE,fO,hc⟩;obtain⟨fE',hE,hle⟩:=RL.upd_le (hR w G) _ _ _ _ hc.E
   have e:∀(l:List SV) (t:Nat) (x:SV),(upd l t x).length=l.length:=by
    intro l
    induction l with
    |nil=>intro t x;rfl
    |cons z l ih=>intro t x;cases t<;>simp[upd,ih]
   refine⟨_,G,h,fE',fO,?_⟩
   exact
    {size:=by rw[hc.size];simp only[setD,setE,e]
     E:=hE,O:=hc.O
     le:=fun g=>by have:=hc.le g;have:=hle g;omega
     fz:=fun g hg=>by have:=hc.fz g hg;have:=hle g;omega
     lf:=fun g hg=>by have:=hc.lf g hg;have:=hle g;omega
     lt:=fun g hg=>hc.lt g (by have:=hle g;omega)
     nodup:=hc.nodup
     fl:=hc.fl,fm:=hc.fm,bk:=hc.bk,fsize:=hc.fsize,keep:=hc.keep,lsize:=hc.lsize,grow:=hc.grow,os:=hc.os,tape:=hc.tape,output:=hc.output}
def R.own_wk {k:Nat}{rows rows':List (List SV)}(hw:wkRows rows rows'){v:Value}{f:FP}(h:R w G (.own k rows) v f):∃f':FP,R w G (.own k rows') v f'∧∀j,f' j≤f j:=by
 simp only[R]at h ⊢;rcases h with⟨hr,hf,a,hv⟩|⟨g,base,cap,c,e,f1,hv,hcap,hh,hb,hk,hrr,hf⟩
 ·subst hr;have:rows'=[]:=hw;subst this;exact⟨zf,.inl ⟨rfl,rfl,a,hv⟩,fun j=>by simp[zf]⟩
 ·obtain⟨g1,hg1,hl1,hlen,hk1⟩:=RLL.wk rows rows' _ f1 hw hrr;refine⟨fun j=>one g j+g1 j,.inr ⟨g,base,cap,c,e,g1,by rw[hv,hlen],by rw[←hlen];exact hcap,hh,hb,hk1 k hk,hg1,rfl⟩,fun j=>by have:=fpa hf j;have:=hl1 j;dsimp only;omega⟩
def stepK_0 (hv:∀ c f,o.op = .call c→c.callee ≠ .value f)(h:zAi T C o st K)(hl:∀ t x,o.op ≠ .load t x):zAL T C o st (gK K):=by
 have same:zAL T C o st K→(∀c f,o.op = .call c→c.callee ≠ .value f)→zAL T C o st (gK K):=by
  intro h hv;unfold zAL at *;have g:∀s,K s→gK K s:=fun s hs=>zDB hs
  cases ho:o.op with
  |move x=>rw[ho]at h;simp only at *;split at h;· split at h
                                                  ·exact⟨h.1,g _ h.2⟩
                                                  ·split at h
                                                   ·rename_i hh;rw[if_pos hh];exact g _ h
                                                   ·rename_i hh;rw[if_neg hh];exact g _ h
           ·exact g _ h
  |assign x=>rw[ho]at h;exact g _ h
  | pick c x y=>
    rw[ho]at h;simp only at *;split at h
    ·exact g _ h
    ·exact cnd.mk (fun e=>g _ (cnd.yes h e)) (fun e=>g _ (cnd.no h e))
    ·exact h
  |nilCheck x=>rw[ho]at h;simp only at *;split at h;exact g _ h;exact g _ h;exact h
  | binOp op t x y ty=>
    rw[ho]at h;simp only at *;split at h
    ·split at h
     ·split at h
      ·exact g _ h
      ·exact g _ h
      ·exact h
     ·exact h
    ·split at h
     ·exact⟨h.1,fun z hz=>g _ (h.2 z hz)⟩
     ·exact⟨h.1,fun z hz=>g _ (h.2 z hz)⟩
     ·exact h
    ·split at h
     ·exact g _ h
     ·exact g _ h
     ·exact h
    ·split at h
     ·exact⟨h.1,fun z=>g _ (h.2 z)⟩
     ·exact⟨h.1,fun z=>g _ (h.2 z)⟩
     ·exact h
    ·exact zHd h fun v hk=>g _ hk
  |unOp op t x=>rw[ho]at h;simp only at *;split at h;exact g _ h;exact g _ h;exact h
  | convert s d x=>
    rw[ho]at h;simp only at *;split at h
    ·exact⟨h.1,g _ h.2⟩
    ·split at h
     ·exact g _ h
     ·exact h
    ·split at h
     ·exact g _ h
     ·split at h
      ·exact g _ h
      ·exact h
     ·split at h
      ·exact g _ h
      ·exact h
     ·exact h
    ·exact h
  | makeSlice t l c=>
    rw[ho]at h;simp only at *;split at h
    ·exact⟨h.1,h.2.1,h.2.2.1,h.2.2.2.1,h.2.2.2.2.1,g _ h.2.2.2.2.2⟩
    ·exact h
  | index t x i=>
    rw[ho]at h;simp only at *;split at h
    ·exact⟨h.1,fun c hc=>g _ (h.2 c hc)⟩
    ·exact h
  | call c=>
    rw[ho]at h;simp only at *;split at h
    ·split at h
     ·split at h
      ·exact g _ h
      ·split at h
       ·exact g _ h
       ·exact h
      ·exact h
     ·exact h
    ·split at h
     ·split at h
      ·split at h
       ·exact⟨h.1,h.2.1,h.2.2.1,h.2.2.2.1,h.2.2.2.2.1,g _ h.2.2.2.2.2⟩
       ·exact h
      ·exact h
     ·exact h
    ·rename_i f hf;exact absurd hf (hv c f ho)
    ·exact h
  |alloc e=>rw[ho]at h;simp only at *;split at h;exact⟨h.1,h.2.1,g _ h.2.2⟩;exact h
  |box e x=>rw[ho]at h;simp only at *;split at h;exact⟨h.1,h.2.1,h.2.2.1,h.2.2.2.1,g _ h.2.2.2.2⟩;exact h
  |build t ps=>rw[ho]at h;simp only at *;split at h;exact⟨h.1,h.2.1,h.2.2.1,g _ h.2.2.2⟩;exact h
  |buildSlice t n ps=>rw[ho]at h;simp only at *;split at h;exact⟨h.1,h.2.1,h.2.2.1,h.2.2.2.1,h.2.2.2.2.1,g _ h.2.2.2.2.2⟩;exact h
  |load t x=>rw[ho]at h;exact zLK h g
  |store t x y=>rw[ho]at h;exact zRL h fun s hs=>g _ hs
  |makeFunc f fs cs=>rw[ho]at h;simp only at *;split at h;exact⟨h.1,h.2.1,g _ h.2.2⟩;exact h
  |slice t x lo hi mx=>rw[ho]at h;exact zJX h g
  | fieldAddr s x f=>
    rw[ho]at h;simp only at *;split at h
    ·split at h
     ·exact⟨h.1,h.2.1,g _ h.2.2⟩
     ·exact h
    ·split at h
     ·exact⟨h.1,h.2.1,g _ h.2.2⟩
     ·exact h
    ·exact h
  | field s x f=>
    rw[ho]at h;simp only at *;split at h
    ·split at h
     ·exact⟨h.1,h.2.1,h.2.2.1,g _ h.2.2.2⟩
     ·exact h
    ·exact h
  | indexAddr t x i=>
    rw[ho]at h;simp only at *;split at h
    ·exact⟨h.1,h.2.1,h.2.2.1,fun r hr=>g _ (h.2.2.2 r hr)⟩
    ·exact⟨h.1,h.2.1,h.2.2.1,fun r hr=>g _ (h.2.2.2 r hr)⟩
    ·split at h
     ·exact⟨h.1,h.2.1,h.2.2.1,g _ h.2.2.2⟩
     ·exact h
    ·exact h
  | extract x j=>
    rw[ho]at h;simp only at *;split at h
    ·split at h
     ·exact⟨h.1,g _ h.2⟩
     ·exact h
    ·exact h
  |_=>rw[ho]at h;exact h
 have g:∀s,K s→gK K s:=fun s hs=>zDB hs
 unfold zAi at h;cases ho:o.op with
 | alloc e=>
   rw[ho]at h;simp only at h;unfold zAL;rw[ho];simp only
   split at h
   ·obtain⟨h1,h2⟩:=zAO h;simp only[zBa]at h1;exact⟨Nat.le_of_ble_eq_true h1.1,h1.2,g _ h2⟩
   ·exact h
 | box e x=>
   rw[ho]at h;simp only at h;unfold zAL;rw[ho];simp only
   split at h
   ·obtain⟨h1,h2⟩:=zAO h;simp only[zBa,beq_iff_eq]at h1;exact⟨Nat.le_of_ble_eq_true h1.1.1.1,h1.1.1.2,h1.1.2,h1.2,g _ h2⟩
   ·exact h
 | build t ps=>
   rw[ho]at h;simp only at h;unfold zAL;rw[ho];simp only
   split at h
   ·obtain⟨h1,h2⟩:=zAO h;simp only[zBa]at h1;exact⟨h1.1.1,h1.1.2,h1.2,g _ h2⟩
   ·exact h
 | buildSlice t n ps=>
   rw[ho]at h;simp only at h;unfold zAL;rw[ho];simp only
   split at h
   ·obtain⟨h1,h2⟩:=zAO h;simp only[zBa,beq_iff_eq]at h1;refine⟨h1.1.1.1.1,h1.1.1.1.2,zBY h1.1.1.2,h1.1.2,h1.2,?_⟩;exact zWN (fun w G v f hr=>R.own_wk (zGZ _ _) hr) h2
   ·exact h
 |load t x=>exact absurd ho (hl t x)
 |store t x y=>rw[ho]at h;unfold zAL;rw[ho];exact storeN_K h
 | binOp op t x y ty=>
   rw[ho]at h;simp only at h;split at h
   ·rename_i k a k' b hx hy;unfold zAL;rw[ho];simp only[hx,hy]
    exact zHd (binN_K h) fun v hk=>g _ hk
   ·rename_i a b hx hy;unfold zAL;rw[ho];simp only[hx,hy]
    exact zHd (binN_K h) fun v hk=>g _ hk
   ·exact same h hv
 | convert s d x=>
   rw[ho]at h;simp only at h;split at h
   ·rename_i k kk n hk hx;unfold zAL;rw[ho];simp only[hk,hx]
    have:=zAO h;exact⟨this.1,g _ this.2⟩
   ·exact same h hv
 | makeFunc f fs cs=>
   rw[ho]at h;simp only at h;unfold zAL;rw[ho];simp only
   split at h
   ·obtain⟨h1,h2⟩:=zAO h;simp only[zBa,beq_iff_eq,Bool.not_eq_true']at h1;exact⟨h1.1,h1.2,g _ h2⟩
   ·exact h
 |slice t x lo hi mx=>rw[ho]at h;unfold zAL;rw[ho];exact zJX (sliceN_K h) g
 | fieldAddr s x f=>
   rw[ho]at h;simp only at h;unfold zAL;rw[ho];simp only
   split at h
   ·split at h
    ·rename_i hf
     try rw[hf]
     obtain⟨h1,h2⟩:=zAO h;simp only[zBa,bne_iff_ne]at h1;exact⟨h1.1,h1.2,g _ h2⟩
    ·exact h.elim
   ·split at h
    ·rename_i hf
     try rw[hf]
     obtain⟨h1,h2⟩:=zAO h;simp only[zBa,bne_iff_ne]at h1;exact⟨h1.1,h1.2,g _ h2⟩
    ·exact h.elim
   ·exact h
 | field s x f=>
   rw[ho]at h;simp only at h;unfold zAL;rw[ho];simp only
   split at h
   ·split at h
    ·rename_i hf
     try rw[hf]
     obtain⟨h1,h2⟩:=zAO h;simp only[zBa,Bool.not_eq_true']at h1;exact⟨h1.1.1,h1.1.2,zBY h1.2,g _ h2⟩
    ·exact h.elim
   ·exact h
 | indexAddr t x i=>
   rw[ho]at h;simp only at h;unfold zAL;rw[ho];simp only
   have hix:∀{e:Nat} {rows:List (List SV)} {n:Nat} {s:St},ixN T e rows n o.dst s K→ixK rows n o.dst s (gK K):=by
    intro e rows n s ⟨h1,h2⟩ row hr;exact g _ (zEc _ _ _ (h1 row (zMg hr)) h2 hr)
   split at h
   ·obtain⟨h1,h2,h3⟩:=zAO h;simp only[zBa,beq_iff_eq]at h1;exact⟨h1.1,h1.2,h2,hix h3⟩
   ·obtain⟨h1,h2,h3⟩:=zAO h;simp only[zBa,beq_iff_eq]at h1;exact⟨h1.1,h1.2,h2,hix h3⟩
   ·split at h
    ·rename_i hf
     try rw[hf]
     obtain⟨h1,h2,h3⟩:=zAO h;simp only[zBa,beq_iff_eq]at h1;exact⟨h1.1,h1.2,h2,g _ h3⟩
    ·exact h.elim
   ·exact h
 | extract x j=>
   rw[ho]at h;simp only at h;unfold zAL;rw[ho];simp only
   split at h
   ·split at h
    ·obtain⟨h1,h2⟩:=zAO h;refine⟨Nat.le_of_ble_eq_true h1,?_⟩;split at h2
     ·rename_i hh;rw[if_pos hh];exact g _ h2
     ·rename_i hh;rw[if_neg (by rw[hh];simp)];exact g _ h2
    ·exact h
   ·exact h
 | call c=>
   rw[ho]at h;simp only at h;split at h
   ·rename_i hc;unfold zAL;rw[ho];simp only[hc]
    split at h
    ·split at h
     ·split at h
      ·obtain⟨h1,h2,h3⟩:=zAO h;simp only[zBa,beq_iff_eq,Bool.or_eq_true]at h1
       try (rename_i hta;rw[hta])
       refine⟨h1.1.1,h1.1.2,?_,h2.1,h2.2,g _ h3⟩;rcases h1.2 with h|h
       ·exact .inl h
       ·right;unfold zXG at h;split at h
        ·rfl
        ·cases h
      ·exact h.elim
     ·exact h
    ·exact h
   ·exact same h hv
 | move x=>
   rw[ho]at h;simp only at h;unfold zAL;rw[ho];simp only
   split at h
   ·split at h
    ·obtain⟨h1,h2⟩:=zAO h;exact⟨Nat.le_of_ble_eq_true h1,g _ h2⟩
    ·split at h
     ·rename_i hh;rw[if_pos hh];exact g _ h
     ·rename_i hh;rw[if_neg (by rw[hh];simp)];exact g _ h
   ·exact g _ h
 |_=>rw[ho]at h;exact same h hv
def zWI (hv:∀ c f,o.op = .call c→c.callee ≠ .value f)(h:zAi T C o st K):gK (fun s=>zAL T C o s (gK K)) st:=by
 by_cases hl:∃t x,o.op = .load t x
 ·obtain⟨t,x,ho⟩:=hl;simp only[zAi,ho]at h;refine zFj (loadN_G h) fun s hs=>?_
  simp only[zAL,ho]
  exact zLK hs fun s hs=>zDB hs
 ·exact zDB (stepK_0 hv h fun t x e=>hl ⟨t,x,e⟩)
def zFc (row:List SV):Nat→Nat→Bool
 |0,_=>true
 |n+1,j=>!zAg (lkp row j)&&zFc row n (j+1)
def zGz (T:Nat→TI)(o:Oper)(st:St):Bool:=match o.op with
 |.move x=>!zAg (ev st.env x)
 |.pick _ a b=>!zAg (ev st.env a)&&!zAg (ev st.env b)
 |.nilCheck _|.unOp .. | .binOp .. | .fieldAddr .. | .field .. | .index .. | .makeFunc .. | .convert .. => true
 |.build _ ps=>!zBH ((opnds ps).map (ev st.env))
 | .load t a=>match ev st.env a with
   |.ro _=>true
   | .p o i off=>match zAZ st.ob o with
     | some x=>match x.nm with
       | true=>match x.rows[i]? with
         |some row=>zFc row (T t).size off
         |none=>false
       | false=>match(T t).kind with
         |.slice _=>false
         |_=>true
     |none=>false
   |_=>false
 | .slice _ x _ _ _=>match ev st.env x with
   |.s _|.sl _ _|.nil=>true
   |_=>false
 | .indexAddr _ x _=>match ev st.env x with
   |.sl _ _|.ar _=>true
   |_=>false
 | .extract x j=>match x with
   | .tmp t=>match lkp st.env t with
     |.tup vs=>!zAg (lkp vs j)
     |_=>false
   |_=>false
 | .call c=>match c.callee with
   |.builtin .len=>true
   |_=>false
 |_=>false
def zHm {st:St}{x:Operand}(h:zAg (ev st.env x)=false):strip st x=st:=by
 cases x with
 |tmp t=>simp only[strip];rw[if_neg (by simpa[AM.ev]using h)]
 |_=>rfl
def zJO {st:St}:∀(l:List Operand),zBH (l.map (ev st.env))=false→zFJ st l=st
 |[],_=>rfl
 | x::l,h=>by
   simp only[zMc,zBH,Bool.or_eq_false_iff]at h;simp only[zFJ,zHm h.1,zJO l h.2]
def zUi {ob i off d:Nat}{x:Ob}{row:List SV}{K:St→Prop}(hx:zAZ st.ob ob=some x)(hr:x.rows[i]? = some row)(hn:zAg (lkp row off)=false)(h:zHH ob i off d K st):K st:=by
 unfold zHH at h;rw[hx]at h;simp only at h;rw[hr]at h;simp only at h;split at h
 ·rename_i k rows hc;rw[hc]at hn;simp[zAg]at hn
 ·exact h
def zJx {ob i d:Nat}{x:Ob}{row:List SV}(hx:zAZ st.ob ob=some x)(hr:x.rows[i]? = some row):∀(n j:Nat) {K:St→Prop},zFc row n j=true→zIK ob i d n j K st→K st
 |0,j,K,_,h=>h
 | n+1,j,K,hn,h=>by
   simp only[zFc,zBa,Bool.not_eq_true']at hn;exact zJx hx hr n (j+1) hn.2 (zUi hx hr hn.1 h)
def zPr {ob i d:Nat}{x:Ob}{row:List SV}(hx:zAZ st.ob ob=some x)(hr:x.rows[i]? = some row):∀(n j:Nat) {K:St→Prop},zFc row n j=true→K st→zIK ob i d n j K st
 |0,j,K,_,h=>h
 | n+1,j,K,hn,h=>by
   simp only[zFc,zBa,Bool.not_eq_true']at hn;unfold zIK zHH;rw[hx];simp only
   rw[hr];simp only
   split
   ·rename_i k rows hc;have:=hn.1;rw[hc]at this;simp[zAg]at this
   ·exact zPr hx hr n (j+1) hn.2 h
def zCn:∀(ks:List TK) {B B':List SV→Prop},zEd T ks B→(∀r,B r→B' r)→zEd T ks B'
 |[],B,B',h,hb=>hb _ h
 | k::ks,B,B',h,hb=>by
   cases k with
   |int k=>exact fun n=>zCn ks (h n) fun r=>hb _
   |bool=>exact fun n=>zCn ks (h n) fun r=>hb _
   |str=>exact fun n=>zCn ks (h n) fun r=>hb _
   |slice e=>exact fun n=>zCn ks (h n) fun r=>hb _
   |_=>exact h
def zAp {b:Bool}{A B:Prop}(h:chk b A)(hb:A→B):chk b B:=by
 unfold chk at *;split at h
 ·exact hb h
 ·exact h
def zQj {op:BinOp}{x y:SV}{K K':SV→Prop}(h:binN op x y K)(hk:∀ v,K v→K' v):binN op x y K':=by
 unfold binN at *;split at h
 ·split at h
  ·exact zAp h (hk _)
  ·exact zAp h (hk _)
  ·exact zAp h (hk _)
  ·exact zAp h fun h=>⟨h.1,hk _ h.2⟩
  ·exact zAp h fun h=>⟨h.1,hk _ h.2⟩
  ·exact⟨h.1,hk _ h.2⟩
  ·exact⟨h.1,hk _ h.2⟩
  ·split at h
   ·exact zAp h (hk _)
   ·exact h
  ·split at h
   ·exact zAp h (hk _)
   ·exact h
  ·split at h
   ·exact zAp h (hk _)
   ·exact h
  ·split at h
   ·exact zAp h (hk _)
   ·exact h
 ·split at h
  ·exact⟨h.1,hk _ h.2⟩
  ·split at h
   ·exact hk _ h
   ·exact h
 ·exact h
def zJQ (hs:zGz T o st=true)(h:zAi T C o st K)(g:∀ v,K (setD st o.dst v)→K' (setD st o.dst v)):zAi T C o st K':=by
 unfold zAi at *;unfold zGz at hs;cases ho:o.op with
 | move x=>
   rw[ho]at h hs;simp only at *;split at h
   ·rename_i t;simp only[AM.ev,Bool.not_eq_true']at hs;split at h
    ·rename_i hv;rw[hv]at hs;simp[zAg]at hs
    ·rename_i v hv;rw[hs]at h ⊢;exact g _ h
   ·exact g _ h
 | pick c x y=>
   rw[ho]at h hs;simp only[zAL,ho,zBa,Bool.not_eq_true']at *;split at h
   ·exact g _ h
   ·rw[zHm hs.1,zHm hs.2]at *;exact cnd.mk (fun e=>g _ (cnd.yes h e)) (fun e=>g _ (cnd.no h e))
   ·exact h
 |nilCheck x=>rw[ho]at h;simp only[zAL,ho]at *;split at h;exact g _ h;exact g _ h;exact h
 |unOp op t x=>rw[ho]at h;simp only[zAL,ho]at *;split at h;exact g _ h;exact g _ h;exact h
 | binOp op t x y ty=>
   rw[ho]at h;simp only at *;split at h
   ·exact zQj h fun v hk=>g _ hk
   ·exact zQj h fun v hk=>g _ hk
   ·simp only[zAL,ho]at *;split at h
    ·split at h
     ·split at h
      ·exact g _ h
      ·exact g _ h
      ·exact h
     ·exact h
    ·split at h
     ·exact⟨h.1,fun z hz=>g _ (h.2 z hz)⟩
     ·exact⟨h.1,fun z hz=>g _ (h.2 z hz)⟩
     ·exact h
    ·split at h
     ·exact g _ h
     ·exact g _ h
     ·exact h
    ·split at h
     ·exact⟨h.1,fun z=>g _ (h.2 z)⟩
     ·exact⟨h.1,fun z=>g _ (h.2 z)⟩
     ·exact h
    ·exact zHd h fun v hk=>g _ hk
 | convert s d x=>
   rw[ho]at h;simp only at *;split at h
   ·exact zAp h (g _)
   ·simp only[zAL,ho]at *;split at h
    ·exact⟨h.1,g _ h.2⟩
    ·split at h
     ·exact g _ h
     ·exact h
    ·split at h
     ·exact g _ h
     ·split at h
      ·exact g _ h
      ·exact h
     ·split at h
      ·exact g _ h
      ·exact h
     ·exact h
    ·exact h
 | index t x i=>
   rw[ho]at h;simp only[zAL,ho]at *;split at h
   ·exact⟨h.1,fun c hc=>g _ (h.2 c hc)⟩
   ·exact h
 | build t ps=>
   rw[ho]at h hs;simp only[Bool.not_eq_true']at *;rw[zJO _ hs]at *;split at h
   ·exact zAp h (g _)
   ·exact h
 | load t a=>
   rw[ho]at h hs;simp only at *;unfold zWv at *;split at h
   ·exact zAp h (g _)
   ·rename_i ob i off hv;rw[hv]at hs;simp only at hs;split at h
    ·rename_i x hx;rw[hx]at hs;simp only at hs;split at h
     ·rename_i hnm;rw[hnm]at hs;simp only at hs;split at hs
      ·rename_i row hr;have h1:=zJx hx hr _ _ hs h;refine zPr hx hr _ _ hs ?_;unfold zWu zQD at *;simp only[hv,hx,hr]at *;exact zAp h1 (g _)
      ·cases hs
     ·rename_i hnm;rw[hnm]at hs;simp only at hs;unfold zUm at *;split at h
      ·rename_i hk;rw[hk]at hs;cases hs
      ·exact zAp h fun h=>⟨h.1,fun row hr=>⟨(h.2 row hr).1,zCn _ (h.2 row hr).2 fun cs hc e=>zAp (hc e) (g _)⟩⟩
    ·exact h
   ·exact h
 | makeFunc f fs cs=>
   rw[ho]at h;simp only at *;split at h
   ·exact zAp h (g _)
   ·exact h
 | slice t x lo hi mx=>
   rw[ho]at h hs;simp only at *;unfold zPc at *;split at h
   ·refine zAp h fun h=>?_
    split at h
    ·split at h
     ·exact⟨h.1,g _ h.2⟩
     ·exact h
    ·split at h
     ·exact⟨h.1,g _ h.2⟩
     ·exact h
   ·unfold zFK at *;split at h
    ·split at h
     ·exact⟨h.1,h.2.1,h.2.2.1,g _ h.2.2.2⟩
     ·exact h
    ·refine⟨h.1,h.2.1,?_⟩;have h3:=h.2.2;split at h3
     ·split at h3
      ·exact⟨h3.1,h3.2.1,h3.2.2.1,g _ h3.2.2.2⟩
      ·exact h3
     ·split at h3
      ·refine⟨h3.1,h3.2.1,h3.2.2.1,h3.2.2.2.1,?_⟩;have h4:=h3.2.2.2.2;split at h4
       ·rename_i hc;rw[if_pos hc];exact g _ h4
       ·rename_i hc;rw[if_neg hc];exact g _ h4
      ·exact h3
    ·split at h
     ·exact⟨h.1,g _ h.2⟩
     ·exact h
    ·rename_i hn1 hn2;split at hs
     ·split at h
      ·rename_i hq _ _ _;simp only[takeRows]at *;simp_all
      ·exact h
     ·rename_i k r hq;exact absurd hq (hn1 _ _)
     ·rename_i hq;exact absurd hq hn2
     ·cases hs
    ·exact h
 | fieldAddr s x f=>
   rw[ho]at h;simp only at *;split at h
   ·split at h
    ·exact zAp h (g _)
    ·exact h
   ·split at h
    ·exact zAp h (g _)
    ·exact h
   ·exact h
 | field s x f=>
   rw[ho]at h;simp only at *;split at h
   ·split at h
    ·exact zAp h (g _)
    ·exact h
   ·exact h
 | indexAddr t x i=>
   rw[ho]at h hs;simp only at *;split at h
   ·exact zAp h fun h=>⟨h.1,h.2.1,zCn _ h.2.2 fun r hr e=>g _ (hr e)⟩
   ·rename_i hq _;rw[hq]at hs;cases hs
   ·split at h
    ·exact zAp h fun h=>⟨h.1,g _ h.2⟩
    ·exact h
   ·exact h
 | extract x j=>
   rw[ho]at h hs;simp only at *;split at h
   ·split at h
    ·rename_i vs hv;simp only[hv,Bool.not_eq_true']at hs;rw[hs]at h ⊢;exact zAp h (g _)
    ·exact h
   ·exact h
 | call c=>
   rw[ho]at h hs;simp only at *;split at hs
   ·rename_i hc;simp only[hc,zAL,ho]at *;split at h
    ·split at h
     ·exact g _ h
     ·split at h
      ·exact g _ h
      ·exact h
     ·exact h
    ·exact h
   ·cases hs
 |_=>rw[ho]at hs;simp at hs
mutual
def eqV:SV→SV→Prop
 |.i k n,.i k' n'=>chk (decide (k=k')) (n=n')
 |.b x,.b y=>x=y
 |.s x,.s y=>x=y
 |.sl k r,.sl k' r'=>chk (k==k') (r=r')
 |.ar a,.ar b=>chk (a==b) True
 |.p a b c,.p a' b' c'=>chk (a==a'&&b==b'&&c==c') True
 |.ro c,.ro c'=>eqVL c c'
 |.agg xs,.agg ys=>eqVL xs ys
 |x,y=>x=y
def eqVL:List SV→List SV→Prop
 | [],ys=>match ys with
   |[]=>True
   |_=>False
 | x::xs,ys=>match ys with
   |[]=>False
   |y::ys=>eqV x y∧eqVL xs ys
end
mutual
def eqV_eq:∀(x y:SV),eqV x y→x=y
 | x,y,h=>by
   cases x with
   | i k n=>cases y with
     |i k' n'=>obtain⟨h1,h2⟩:=zAO h;have:=of_decide_eq_true h1;subst this;subst h2;rfl
     |_=>exact h
   |b z=>cases y<;>first|(rw[show z=_ from h])|exact h
   |s z=>cases y<;>first|(rw[show z=_ from h])|exact h
   | sl k r=>cases y with
     |sl k' r'=>obtain⟨h1,h2⟩:=zAO h;have:=eq_of_beq h1;subst this;subst h2;rfl
     |_=>exact h
   | ar a=>cases y with
     |ar b=>obtain⟨h1,h3⟩:=zAO h;have:=eq_of_beq h1;subst this;rfl
     |_=>exact h
   | p a b c=>cases y with
     | p a' b' c' =>
       obtain⟨h1,h3⟩:=zAO h;simp only[zBa,beq_iff_eq]at h1;obtain⟨⟨rfl,rfl⟩,rfl⟩:=h1;rfl
     |_=>exact h
   | ro c=>cases y with
     |ro c'=>rw[zRv c c' h]
     |_=>exact h
   | agg c=>cases y with
     |agg c'=>rw[zRv c c' h]
     |_=>exact h
   |_=>cases y<;>exact h
def zRv:∀(xs ys:List SV),eqVL xs ys→xs=ys
 |[],[],_=>rfl
 |[],_::_,h=>h.elim
 |x::xs,[],h=>h.elim
 |x::xs,y::ys,h=>by rw[eqV_eq x y h.1,zRv xs ys h.2]
end
def eqSlot (d:Option Tmp)(st st':St):Prop:=match d with
 |some t=>eqV (lkp st'.env t) (lkp st.env t)
 |none=>True
def reK (T:Nat→TI)(C:zAx)(o:Oper)(st:St):Prop:=chk (zGz T o st) (zAi T C o st (eqSlot o.dst st))
def zVC:∀(l:List SV) (t:Nat) (v:SV),(lkp (upd l t v) t=v)∨upd l t v=l
 |[],t,v=>.inr rfl
 |x::l,0,v=>.inl rfl
 | x::l,t+1,v=>by
   rcases zVC l t v with h|h
   ·exact .inl h
   ·exact .inr (by simp[upd,h])
def zOh:∀(l:List SV) (n:Nat),upd l n (lkp l n)=l
 |[],n=>rfl
 |x::l,0=>rfl
 |x::l,n+1=>by simp[upd,lkp,zOh l n]
def reK_same (h:reK T C o st):zAi T C o st fun st'=>st'=st:=by
 obtain⟨h1,h2⟩:=zAO h;refine zJQ h1 h2 fun v hv=>?_
 revert hv;cases o.dst with
 |none=>intro _;rfl
 | some t=>
   intro hv;simp only[eqSlot,setD,setE]at hv ⊢;rcases zVC st.env t v with e|e
   ·have:=eqV_eq _ _ hv;rw[e]at this;rw[this,zOh]
   ·rw[e]
end
end Go.AM
end
section
namespace Go.AM
section
variable {P:Program}{T:Nat→TI}{C:zAx}{w0 w w':World}{L:Lv}{st st1:St}{a:Act}{G G':Gh}{fE fO fX fV:FP}{o:Oper}{K:St→Prop}{Q:Exit→Act→World→Prop}{v:Value}{sv:SV}
def zGN (P:Program)(C:zAx):Prop:=∀(o:Oper) (c:Call) (f:Operand) (a:Act) (w0 w:World) (L:Lv) (st:St) (G:Gh) (K:St→Prop) (Q:Exit→Act→World→Prop),
 o.op = .call c→c.callee = .value f→C f c.args.toList o.dst st K→SR w0 L st a.tmps w G→o.wp P a w (Nx w0 L a.defers K) Q
def Nx.gK {ds:List Deferred}{a':Act}{w':World}(h:Nx w0 L ds (gK K) a' w'):Nx w0 L ds K a' w':=by
 obtain⟨s,G,h1,h2,h3⟩:=h;obtain⟨s',G',h4,h5⟩:=h1 _ _ _ _ _ h2;exact⟨s',G',h4,h5,h3⟩
def sound_op (hT:LayOk P T)(hC:zGN P C)(h:SR w0 L st a.tmps w G)(hk:zAi T C o st K):o.wp P a w (Nx w0 L a.defers K) Q:=by
 by_cases hcall:∃c f,o.op = .call c∧c.callee = .value f
 ·obtain⟨c,f,ho,hc⟩:=hcall;simp only[zAi,zAL,ho,hc]at hk;exact hC o c f a w0 w L st G K Q ho hc hk h
 obtain⟨st',G',hk,h⟩:=zWI (fun c f ho hc=>hcall ⟨c,f,ho,hc⟩) hk _ _ _ _ _ h;revert h hk;generalize st'=st;generalize G'=G;intro hk h;refine Oper.wp_mono (fun _ _ hn=>Nx.gK hn) ?_;revert hk;generalize gK K=K;intro hk;cases ho:o.op with
 |move x=>exact(zKy (T:=T) ho h hk).1
 |assign x=>exact(zPZ (T:=T) ho h hk).1
 |pick c x y=>exact(zKx (T:=T) ho h hk).1
 |alloc e=>exact zRO hT ho h hk
 |box e x=>exact zWL ho h hk
 |build t ps=>exact(zJW (T:=T) hT ho h hk).1
 |buildSlice t n ps=>exact zIe hT ho h hk
 |load t x=>exact(zHo (T:=T) hT ho h hk).1
 |store t x y=>exact zRN hT ho h hk
 |nilCheck x=>exact(zGE (T:=T) ho h hk).1
 |binOp op t x y ty=>exact(zPY (T:=T) hT ho h hk).1
 |unOp op t x=>exact(zTG (T:=T) ho h hk).1
 |convert s d x=>exact(zGy (T:=T) hT ho h hk).1
 |makeFunc f fs cs=>exact(zGF (T:=T) ho h hk).1
 |makeSlice t l c=>exact zJT hT ho h hk
 |slice t x lo hi mx=>exact(zJS (T:=T) hT ho h hk).1
 |fieldAddr s x f=>exact(zFW (T:=T) hT ho h hk).1
 |field s x f=>exact(zJV (T:=T) hT ho h hk).1
 |indexAddr t x i=>exact(zFV (T:=T) hT ho h hk).1
 |index t x i=>exact(zJU (T:=T) hT ho h hk).1
 |extract x j=>exact(zGx (T:=T) ho h hk).1
 | call c=>
   cases hc:c.callee with
   | builtin b=>
     cases b with
     |len=>exact(zPW (T:=T) hT ho hc h hk).1
     |append=>exact zPa hT ho hc h hk
     |_=>simp only[zAL,ho,hc]at hk
   |value f=>exact absurd ⟨c,f,ho,hc⟩ hcall
   |_=>simp only[zAL,ho,hc]at hk
 |_=>simp only[zAL,ho]at hk
def zDk (T:Nat→TI):Op→Bool
 |.move _|.pick .. | .load .. | .nilCheck _|.binOp .. | .unOp .. | .makeFunc .. | .slice .. | .fieldAddr .. | .field .. | .indexAddr .. | .index .. | .extract .. | .build .. => true
 |.convert _ d _=>match(T d).kind with|.slice _=>false|_=>true
 |.call c=>match c.callee with|.builtin .len=>true|_=>false
 |_=>false
def sound_float (hT:LayOk P T)(hf:zDk T o.op=true)(h:SR w0 L st a.tmps w G)(hk:zAi T C o st K):∃v,(execOp a.eval o).run P w = .ok (.value v) w∧Nx w0 L a.defers K (a.put o.dst v) w:=by
 obtain⟨st',G',hk,h⟩:=zWI (fun c f ho hc=>by rw[ho]at hf;simp[zDk,hc]at hf) hk _ _ _ _ _ h;revert h hk;generalize st'=st;generalize G'=G;intro hk h
 suffices hs:∃v,(execOp a.eval o).run P w = .ok (.value v) w∧Nx w0 L a.defers (gK K) (a.put o.dst v) w by
  obtain⟨v,h1,h2⟩:=hs;exact⟨v,h1,Nx.gK h2⟩
 revert hk;generalize gK K=K;intro hk
 have key:∀{N:Act→World→Prop},Ow P T o a w N (fun _ _ _=>False)→loudC T o.op=false→∃v,(execOp a.eval o).run P w = .ok (.value v) w∧N (a.put o.dst v) w:=by
  intro N ⟨h1,h2⟩ hl;rcases h2 with⟨v,hv⟩|h2
  ·refine⟨v,hv,?_⟩;unfold Oper.wp at h1;rw[hv]at h1;exact h1
  ·rw[hl]at h2;cases h2
 cases ho:o.op with
 |move x=>exact key (zKy (T:=T) ho h hk) (by rw[ho];rfl)
 |pick c x y=>exact key (zKx (T:=T) ho h hk) (by rw[ho];rfl)
 |build t ps=>exact key (zJW (T:=T) hT ho h hk) (by rw[ho];rfl)
 |load t x=>exact key (zHo (T:=T) hT ho h hk) (by rw[ho];rfl)
 |nilCheck x=>exact key (zGE (T:=T) ho h hk) (by rw[ho];rfl)
 |binOp op t x y ty=>exact key (zPY (T:=T) hT ho h hk) (by rw[ho];rfl)
 |unOp op t x=>exact key (zTG (T:=T) ho h hk) (by rw[ho];rfl)
 | convert s d x=>
   refine key (zGy (T:=T) hT ho h hk) ?_;rw[ho]at hf ⊢;simp only[zDk,loudC]at hf ⊢;split at hf<;>simp_all
 |makeFunc f fs cs=>exact key (zGF (T:=T) ho h hk) (by rw[ho];rfl)
 |slice t x lo hi mx=>exact key (zJS (T:=T) hT ho h hk) (by rw[ho];rfl)
 |fieldAddr s x f=>exact key (zFW (T:=T) hT ho h hk) (by rw[ho];rfl)
 |field s x f=>exact key (zJV (T:=T) hT ho h hk) (by rw[ho];rfl)
 |indexAddr t x i=>exact key (zFV (T:=T) hT ho h hk) (by rw[ho];rfl)
 |index t x i=>exact key (zJU (T:=T) hT ho h hk) (by rw[ho];rfl)
 |extract x j=>exact key (zGx (T:=T) ho h hk) (by rw[ho];rfl)
 | call c=>
   cases hc:c.callee with
   | builtin b=>
     cases b with
     |len=>exact key (zPW (T:=T) hT ho hc h hk) (by rw[ho];rfl)
     |_=>rw[ho]at hf;simp[zDk,hc]at hf
   |_=>rw[ho]at hf;simp[zDk,hc]at hf
 |_=>rw[ho]at hf;simp[zDk]at hf
def zFp:∀(l:List SV) (n:Nat),upd l n (lkp l n)=l
 |[],n=>rfl
 |x::l,0=>rfl
 |x::l,n+1=>by simp[upd,lkp,zFp l n]
def zKp {ops:Array Oper}{tmps:Array Value}{j d:Nat}{x:Bool}(hd:(ops[j]?).bind (·.dst)=some d)(h:RL w G st.env tmps.toList fE)(hs:tmps.size=st.env.length)(hl:lkp st.env d = .b x):yielded ops tmps j=some x:=by
 have hlt:d<st.env.length:=by
  rcases Nat.lt_or_ge d st.env.length with h|h
  ·exact h
  ·rw[zIL _ _ h]at hl;simp at hl
 obtain⟨v,f1,f2,hv,hr,_⟩:=RL.split st.env _ fE d hlt h;rw[hl]at hr;simp only[R]at hr;have:tmps[d]? = some v:=by rw[←Array.getElem?_toList];exact hv
 simp[yielded,hd,this,hr.2]
def zKo {ops:Array Oper}{tmps:Array Value}{j d:Nat}(hd:(ops[j]?).bind (·.dst)=some d)(h:RL w G st.env tmps.toList fE)(hs:tmps.size=st.env.length)(hl:lkp st.env d = .sk):yielded ops tmps j=none:=by
 have hlt:d<st.env.length:=by
  rcases Nat.lt_or_ge d st.env.length with h|h
  ·exact h
  ·rw[zIL _ _ h]at hl;simp at hl
 obtain⟨v,f1,f2,hv,hr,_⟩:=RL.split st.env _ fE d hlt h;rw[hl]at hr;simp only[R]at hr;have:tmps[d]? = some v:=by rw[←Array.getElem?_toList];exact hv
 simp[yielded,hd,this,hr.2,undef]
end
end Go.AM
end
section
namespace Go.AM
inductive AX
 |normal|exit (id:Nat)|ret
abbrev AQ:=AX→St→Prop
def zNU (next:St→Prop)(Q:AQ):AQ
 |.normal,st=>next st
 |.exit id,st=>Q (.exit id) st
 |.ret,st=>Q .ret st
def zKa (id:Nat)(Q:AQ):AQ
 |.normal,st=>Q .normal st
 |.exit id',st=>if id'=id then Q .normal st else Q (.exit id') st
 |.ret,st=>Q .ret st
def QS (w0:World)(L:Lv)(ds:List Deferred)(Q:AQ):Exit→Act→World→Prop
 |.normal=>Nx w0 L ds (Q .normal)
 |.exit id=>Nx w0 L ds (Q (.exit id))
 |.ret=>Nx w0 L ds (Q .ret)
 |_=>fun _ _=>False
def sp (P:Program)(c:Code)(Q:AQ)(st:St):Prop :=
 ∀(w0 w:World) (L:Lv) (a:Act) (G:Gh),SR w0 L st a.tmps w G→c.wp P (QS w0 L a.defers Q) a w
section
variable {P:Program}{T:Nat→TI}{C:zAx}{w0 w w':World}{L:Lv}{st st1:St}{a:Act}{G G':Gh}{Q Q':AQ}{K K':St→Prop}{ds:List Deferred}
def Nx.mono (h:Nx w0 L ds K a w)(hk:∀ st,K st→K' st):Nx w0 L ds K' a w:=by
 obtain⟨st,G,h1,h2,h3⟩:=h;exact⟨st,G,hk st h1,h2,h3⟩
def QS.mono (hq:∀ x st,Q x st→Q' x st):∀e a w,QS w0 L ds Q e a w→QS w0 L ds Q' e a w:=by
 intro e a w h;cases e<;>first|exact Nx.mono h (hq _)|exact h
def zRM {c:Code}(h:sp P c Q st)(hq:∀ x st,Q x st→Q' x st):sp P c Q' st :=
 fun w0 w L a G hs=>wp_mono (h w0 w L a G hs) (QS.mono hq)
def sp_skip (h:Q .normal st):sp P .skip Q st:=fun w0 w L a G hs=>wp_skip ⟨st,G,h,hs,rfl⟩
def sp_exit {id:Nat}(h:Q (.exit id) st):sp P (.exit id) Q st:=fun w0 w L a G hs=>wp_exit ⟨st,G,h,hs,rfl⟩
def sp_ret (h:Q .ret st):sp P .ret Q st:=fun w0 w L a G hs=>wp_ret ⟨st,G,h,hs,rfl⟩
def sp_seq {x y:Code}(h:sp P x (zNU (sp P y Q) Q) st):sp P (.seq x y) Q st:=fun w0 w L a G hs=>
 wp_seq (wp_mono (h w0 w L a G hs) (fun e a' w' hq=>by
  cases e with
  | normal=>
    obtain⟨st',G',h1,h2,h3⟩:=hq;have:=h1 w0 w' L a' G' h2;rw[h3]at this;exact this
  |_=>exact hq))
def zTF {id:Nat}{c:Code}(h:sp P c (zKa id Q) st):sp P (.block id c) Q st:=fun w0 w L a G hs=>
 wp_block (wp_mono (h w0 w L a G hs) (fun e a' w' hq=>by
  cases e with
  | exit id' =>
    simp only[Exit.inBlock]
    by_cases hid:id'=id
    ·rw[if_pos hid];exact Nx.mono hq (fun st h=>by simpa[zKa,hid]using h)
    ·rw[if_neg hid];exact Nx.mono hq (fun st h=>by simpa[zKa,hid]using h)
  |_=>exact hq))
def sp_cond {c:Operand}{x y:Code}{t:Bool}(hc:AM.ev st.env c = .b t)(hx:t=true→sp P x Q st)(hy:t=false→sp P y Q st):sp P (.cond c x y) Q st:=fun w0 w L a G hs=>by
 obtain⟨fE,fO,h⟩:=hs;have hr:=h.ev0 a rfl c (by rw[hc];rfl);rw[hc]at hr;simp only[R]at hr;exact wp_cond_split hr.2 (fun ht=>hx ht w0 w L a G ⟨fE,fO,h⟩) (fun ht=>hy ht w0 w L a G ⟨fE,fO,h⟩)
def sp_ghost {c:Code}(h:gK (sp P c Q) st):sp P c Q st:=fun w0 w L a G hs=>by
 obtain⟨st',G',h1,h2⟩:=h w0 w L a.tmps G hs;exact h1 w0 w L a G' h2
def least (p:Nat→Prop)(h:∃ n,p n):∃n,p n∧∀m,p m→n≤m:=by
 obtain⟨n,hn⟩:=h
 induction n using Nat.strongRecOn with
 | _ n ih=>
   by_cases hm:∃m,m<n∧p m
   ·obtain⟨m,hlt,hp⟩:=hm;exact ih m hlt hp
   ·exact⟨n,hn,fun m hp=>by
     rcases Nat.lt_or_ge m n with h|h
     ·exact absurd ⟨m,h,hp⟩ hm
     ·exact h⟩
def sp_loop {c:Code}(I:St→Prop)(μ:St→Nat)(h0:gK I st)(hr:∀ st,I st→sp P c (zNU (gK fun st'=>I st'∧μ st'<μ st) Q) st):sp P (.loop c) Q st:=by
 intro w0 w L a G hs;obtain⟨st',G',hI,hs'⟩:=h0 w0 w L a.tmps G hs
 let good:Act→World→Nat→Prop:=fun a' w' n=>∃st G,I st∧SR w0 L st a'.tmps w' G∧μ st=n
 let I':Act→World→Prop:=fun a' w'=>a'.defers=a.defers∧∃n,good a' w' n
 let m:Act→World→Nat:=fun a' w'=>Classical.epsilon fun n=>good a' w' n∧∀k,good a' w' k→n≤k
 have hm:∀a' w',(h:∃n,good a' w' n)→good a' w' (m a' w')∧∀k,good a' w' k→m a' w'≤k:=by
  intro a' w' h;exact Classical.epsilon_spec (p:=fun n=>good a' w' n∧∀k,good a' w' k→n≤k) (least _ h)
 refine wp_loop I' m ⟨rfl,_,st',G',hI,hs',rfl⟩ ?_;rintro a1 w1 ⟨hd,hn⟩;obtain⟨⟨st1,G1,hI1,hs1,hμ⟩,_⟩:=hm a1 w1 hn;refine wp_mono (hr st1 hI1 w0 w1 L a1 G1 hs1) (fun e a2 w2 hq=>?_);rw[hd]at hq;cases e with
 | normal=>
   obtain⟨st2,G2,h2,hs2,hd2⟩:=hq;obtain⟨st3,G3,⟨hI3,hlt⟩,hs3⟩:=h2 w0 w2 L a2.tmps G2 hs2;have hex:∃n,good a2 w2 n:=⟨_,st3,G3,hI3,hs3,rfl⟩
   refine⟨⟨hd2,hex⟩,?_⟩;have:=(hm a2 w2 hex).2 _ ⟨st3,G3,hI3,hs3,rfl⟩;omega
 |_=>exact hq
end
end Go.AM
end
