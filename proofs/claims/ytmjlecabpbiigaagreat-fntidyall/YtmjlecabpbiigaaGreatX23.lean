/- Part 24 of the proof of FnTidyAll; no condition. -/
import Derived.Test.YtmjlecabpbiigaaGreatX22
import Derived.ProofKit
import Derived.Carry
open Option renaming some -> U
open Decidable renaming decide -> aa
open Bool renaming true -> ae
open Bool renaming false -> ag
open Option renaming none -> aj
open Sum renaming inr -> an
open Sum renaming inl -> ao
open List renaming length -> au
open Int renaming toNat -> aw
open List renaming drop -> cU
open List renaming take -> de
set_option autoImplicit true
set_option relaxedAutoImplicit true
set_option linter.all false
section
namespace Go.TM
open Go.AM
def nG (P:Program)(r:GT->TypeId->Bool):List Field->GT->Nat->Bool
 |[],_,_=>ag
 | f::fs,g,o=>match fs with
   |[]=>f.offset==o&&(P.cellsOf f.type==g.sz&&r g f.type)
   | _::_=>match g with
     |.pair a b=>f.offset==o&&(P.cellsOf f.type==a.sz&&(r a f.type&&nG P r fs b (o+a.sz)))
     |_=>ag
def nH (P:Program):Nat->GT->TypeId->Bool
 |0,_,_=>ag
 | n+1,g,t=>match P.underlying t with
   |some .bool=>(match g with|.bool=>ae|_=>ag)
   |some (.int k)=>(match g with|.int k'=>dj k k'|.byte=>dj k .u8|_=>ag)
   |some .string=>(match g with|.str=>ae|_=>ag)
   |some (.slice e)=>(match g with|.sl g'=>nH P n g' e&&(P.cellsOf e==g'.sz&&(Nat.ble 1 g'.sz&&Nat.ble 1 (P.bytesOf e)))|_=>ag)
   |some (.struct fs)=>P.cellsOf t==g.sz&&nG P (nH P n) fs.toList g 0
   |_=>ag
def i9:(g:GT)->g.Den->Prop
 |.int k,n=>k.min<=n/\n<=k.max
 |.byte,_=>True
 |.bool,_=>True
 |.str,l=>au l<=140737488351232
 |.sl e,l=>au l<=140737488351232/\∀x∈(l:List e.Den),i9 e x
 |.unit,_=>True
 |.pair a b,x=>i9 a x.1/\i9 b x.2
def pb:∀(d:Bool) (g:GT) (x:g.Den),(aO d g x).length=g.sz
 |_,.int _,_=>rfl
 |_,.byte,_=>rfl
 |_,.bool,_=>rfl
 |_,.str,_=>rfl
 |_,.sl _,_=>rfl
 |_,.unit,_=>rfl
 |d,.pair a b,x=>by simp only[aO,aP,pb d a x.1,pb d b x.2,GT.sz]
def Iq {α:Type}{Q:Nat->α->Prop}:∀n:Nat,(∀i,i<n->∃x,Q i x)->∃l:List α,l.length=n/\∀i x,l[i]? = U x->Q i x
 |0,_=>⟨[],rfl,by simp⟩
 | n+1,h=>by
   obtain⟨l,h1,h2⟩:=Iq n fun i hi=>h i (by omega)
   obtain⟨x,hx⟩:=h n (by omega);refine⟨l++[x],by simp[h1],fun i y hy=>?_⟩;by_cases hi:i<n
   ·exact h2 i y (by rw[List.getElem?_append_left (by omega)]at hy;exact hy)
   ·rw[List.getElem?_append_right (by omega)]at hy
    have:i=n:=by
     have:=List.getElem?_eq_some_iff.1 hy;obtain⟨q,_⟩:=this;simp at q;omega
    subst this;simp[h1]at hy;subst hy;exact hx
def Cm {α β:Type}{f:α->Option β}:∀{l:List α} {r:List β},l.mapM f=U r->r.length=l.length/\∀(i:Nat) (a:α),l[i]? = U a->∃b,r[i]? = U b/\f a=U b
 |[],r,h=>by simp at h;subst h;simp
 | x::l,r,h=>by
   rw[List.mapM_cons]at h;cases hx:f x with
   |none=>rw[hx]at h;cases h
   | some y=>
     rw[hx]at h;cases hl:l.mapM f with
     |none=>rw[hl]at h;cases h
     | some q=>
       rw[hl]at h;simp only[Option.pure_def,Option.bind_eq_bind,bh,aF]at h;subst h;obtain⟨h1,h2⟩:=Cm hl;refine⟨by simp[h1],fun i a hi=>?_⟩;cases i with
       |zero=>simp at hi;subst hi;exact⟨y,by simp,hx⟩
       |succ i=>simp at hi;obtain⟨b,h3,h4⟩:=h2 i a hi;exact⟨b,by simpa using h3,h4⟩
def Ir {w:World}{G:Gh}{k:Nat}:∀(rows:List (List SV)) (vs:List Value),(∀r∈rows,r.length=k) ->
  (∀i r,rows[i]? = U r->RL w G r (vs.drop (i*k)) zf/\ones k (vs.drop (i*k)))->aH w G rows vs zf
 |[],vs,_,_=>by simp[aH]
 | r::l,vs,h1,h2=>by
   simp only[aH]
   have hk:r.length=k:=h1 r (by simp);have h0:=h2 0 r (by simp);simp only[Nat.zero_mul,List.drop_zero]at h0;refine⟨zf,zf,h0.1,by rw[hk];exact h0.2,?_,by funext j;simp[zf]⟩;rw[hk];refine Ir l (vs.drop k) (fun r hr=>h1 r (by simp[hr])) fun i q hq=>?_
   have:=h2 (i+1) q (by simpa using hq);rw[List.drop_drop,show k+i*k=(i+1)*k by rw[Nat.add_mul];omega];exact this
def Is {w:World}{G:Gh}:∀(a b:List SV) (vs:List Value),RL w G a vs zf->RL w G b (vs.drop a.length) zf->RL w G (a++b) vs zf
 |[],b,vs,_,h=>by simpa using h
 | x::a,b,vs,h1,h2=>by
   simp only[RL,cF]at h1 ⊢;obtain⟨v,vs',f1,f2,rfl,q1,q2,hf⟩:=h1;have e1:f1=zf:=by funext j;have:=congrFun hf j;simp only[zf]at this ⊢;omega
   have e2:f2=zf:=by funext j;have:=congrFun hf j;simp only[zf]at this ⊢;omega
   subst e1 e2;exact⟨v,vs',zf,zf,rfl,q1,Is a b vs' q2 (by simpa using h2),by funext j;simp[zf]⟩
def qG {w:World}{G:Gh}{x:SV}{v:Value}{vs:List Value}(h:R w G x v zf):RL w G [x] (v::vs) zf:=by
 simp only[RL]
 exact⟨v,vs,zf,zf,rfl,h,rfl,by funext j;simp[zf]⟩
section
variable {H:Type}{enc:TypeId×Value->H}{P:Program}{w:World}{base:Nat}{spare:Nat->Bool}{held:Bool}
def Cn (P:Program)(w:World)(g:GT)(cs:List Value):Prop :=
 ∃x:g.Den,i9 g x/\cs.length=g.sz/\ones g.sz cs/\∀G:Gh,(∀j,j<w.heap.size->G.F j)->RL w G (aO ag g x) cs zf
def qH {v:Value}(h:v.oneCell'=ae):ones 1 [v]:=by
 intro j u hj hu;have:j=0:=by omega
 subst this;simp at hu;subst hu;exact h
def Pg {t:TypeId}{fs:Array Field}(ht:P.underlying t=U (.struct fs))(ds:List (DataW H)):(DataW.agg ds).weights P t=DataW.weightsEach P (fs.toList.map (·.type)) ds:=by
 simp[DataW.weights,ht]
def Ph {n m:Nat}(ih:∀ (g:GT) (t:TypeId) (cs:List Value) (d:DataW H) (ps:List MemPlace),nH P n g t=ae->DataW.trod enc P w base spare held m t cs=U (d,ps)->(∀ m∈d.weights P t,m<=reachBytes)->Cn P w g cs) :
  ∀(fs:List Field) (g:GT) (o:Nat) (cs:List Value) (xs:List (DataW H×List MemPlace)),nG P (nH P n) fs g o=ae->cs.length=o+g.sz ->
   (fs.mapM fun f=>DataW.trod enc P w base spare held m f.type ((cs.drop f.offset).take (P.cellsOf f.type)))=U xs ->
   (∀m∈DataW.weightsEach P (fs.map (·.type)) (xs.map (·.1)),m<=reachBytes)->Cn P w g (cs.drop o):=by
 intro fs
 induction fs with
 |nil=>intro g o cs xs h;simp[nG]at h
 | cons f fs ihf=>
   intro g o cs xs hg hl hx hw;rw[List.mapM_cons]at hx;cases hy:DataW.trod enc P w base spare held m f.type ((cs.drop f.offset).take (P.cellsOf f.type))with
   |none=>rw[hy]at hx;cases hx
   |some y=>
   rw[hy]at hx;cases hz:(fs.mapM fun f=>DataW.trod enc P w base spare held m f.type ((cs.drop f.offset).take (P.cellsOf f.type)))with
   |none=>rw[hz]at hx;cases hx
   |some zs=>
   rw[hz]at hx;simp only[Option.pure_def,Option.bind_eq_bind,bh,aF]at hx;subst hx;simp only[bF,DataW.weightsEach,List.mem_append]at hw;cases fs with
   | nil=>
     simp only[nG,aK,beq_iff_eq]at hg;obtain⟨ho,hc,hr⟩:=hg;rw[ho,hc]at hy;rw[List.take_of_length_le (by simp[hl])]at hy;exact ih g f.type _ y.1 y.2 hr hy fun q hq=>hw q (.inl hq)
   | cons f2 fs=>
     cases g with
     | pair a b=>
       simp only[nG,aK,beq_iff_eq]at hg;obtain⟨ho,hc,hr,hrest⟩:=hg;simp only[GT.sz]at hl;rw[ho,hc]at hy;obtain⟨xa,sa,la,oa,ra⟩:=ih a f.type _ y.1 y.2 hr hy fun q hq=>hw q (.inl hq)
       obtain⟨xb,sb,lb,ob,rb⟩:=ihf b (o+a.sz) cs zs (by simpa only[nG]using hrest) (by omega) hz fun q hq=>hw q (.inr hq)
       refine⟨(xa,xb),⟨sa,sb⟩,by simp[GT.sz,hl],?_,fun G hG=>?_⟩
       ·intro j v hj hv;simp only[GT.sz]at hj;by_cases hja:j<a.sz
        ·exact oa j v hja (by rw[List.getElem?_take_of_lt hja];exact hv)
        ·refine ob (j-a.sz) v (by omega) ?_;rw[List.getElem?_drop]at hv ⊢;rw[show o+a.sz+(j-a.sz)=o+j by omega];exact hv
       ·simp only[aO]
        refine Is _ _ _ (j8 _ _ _ _ ?_ (ra G hG)) ?_
        ·intro j hj;rw[pb]at hj;rw[List.getElem?_take_of_lt hj]
        ·rw[pb,List.drop_drop];exact rb G hG
     |_=>simp[nG]at hg
def It {a:Addr}{n:Nat}{ci:List Value}(h:w.cells? base a n=U ci):ci.length=n/\∀j,j<n->w.cell? (a.add j)=ci[j]?:=by
 unfold World.cells? at h;split at h
 ·obtain⟨h1,h2⟩:=Cm h;refine⟨by simpa using h1,fun j hj=>?_⟩;obtain⟨b,h3,h4⟩:=h2 j j (by simp[hj]);rw[h4,h3]
 ·cases h
def Pi {g off:Nat}{spot}{v:Value}(h:w.cell? ⟨g,off,spot⟩=U v):spot=aj/\∃c e fr,w.heap[g]? = U (.cells c e fr)/\c[off]? = U v:=by
 unfold World.cell? at h;simp only at h;split at h
 ·rename_i c e fr hh;split at h
  ·cases h
  ·rename_i hs;exact⟨by cases spot<;>simp_all,c,e,fr,hh,h⟩
 ·cases h
def Iu {e:TypeId}:∀{l:List (DataW H)} {d:DataW H} {m:Nat},d∈l->m∈d.weights P e->m∈DataW.weightsAll P e l
 | d'::l,d,m,hd,hm=>by
   simp only[List.mem_cons]at hd;simp only[DataW.weightsAll,List.mem_append]
   rcases hd with rfl|hd
   ·exact .inl hm
   ·exact .inr (Iu hd hm)
def Pj:∀(n m:Nat) (g:GT) (t:TypeId) (cs:List Value) (d:DataW H) (ps:List MemPlace),nH P n g t=ae->DataW.trod enc P w base spare held m t cs=U (d,ps)->(∀m∈d.weights P t,m<=reachBytes)->Cn P w g cs:=by
 intro n
 induction n with
 |zero=>intro m g t cs d ps h;simp[nH]at h
 | succ n ih=>
   intro m g t cs d ps hg hd hw;cases m with
   |zero=>simp[DataW.trod]at hd
   |succ m=>
   unfold nH at hg;split at hg
   ·rename_i hu;rw[DataW.trod_step]at hd;unfold DataW.trodStep at hd;cases g<;>simp only[cV]at hg;rw[hu]at hd;split at hd<;>try (simp_all;done)
    rename_i b _;exact⟨b,trivial,rfl,qH rfl,fun G hG=>qG (by simp[R])⟩
   ·rename_i k hu;rw[DataW.trod_step]at hd;unfold DataW.trodStep at hd;rw[hu]at hd;split at hd<;>try (simp_all;done)
    rename_i k1 k2 n1 hq;simp only[aF,TypeDesc.int.injEq]at hq;subst hq;split at hd
    ·rename_i hk;obtain⟨rfl,hwf⟩:=hk;simp only[Lit.wf,aK,aL]at hwf;cases g<;>simp only[cV]at hg
     ·rename_i k';simp only[dj,aL]at hg;subst hg;exact⟨n1,hwf,rfl,qH rfl,fun G hG=>qG (by simp[R])⟩
     ·simp only[dj,aL]at hg;subst hg;have h1:0<=n1:=hwf.1;have h2:n1<=255:=hwf.2;refine⟨UInt8.ofNat n1.toNat,trivial,rfl,qH rfl,fun G hG=>qG ?_⟩;simp only[R,true_and,Value.int.injEq]
      simp;omega
    ·cases hd
   ·rename_i hu;cases g<;>simp only[cV]at hg;rw[DataW.trod_step]at hd;unfold DataW.trodStep at hd;rw[hu]at hd;split at hd<;>try (simp_all;done)
    rename_i s _;split at hd
    ·simp only[aF,bm]at hd;obtain⟨rfl,rfl⟩:=hd;have:=hw s.data.toList.length (by simp[DataW.weights]);exact⟨s.data.toList,this,rfl,qH rfl,fun G hG=>qG (by simp[R])⟩
    ·cases hd
   ·rename_i e hu;cases g with
    | sl g' =>
      simp only[aK,beq_iff_eq]at hg;obtain⟨hg1,hk,hs1,hb1⟩:=hg;have hs1:1<=g'.sz:=Nat.le_of_ble_eq_true hs1;have hb1:1<=P.bytesOf e:=Nat.le_of_ble_eq_true hb1;rw[DataW.trod_step]at hd;unfold DataW.trodStep at hd;rw[hu]at hd;split at hd<;>try (simp_all;done)
      ·exact⟨[],⟨by simp,by simp⟩,rfl,qH rfl,fun G hG=>qG (by simp only[R];exact⟨trivial,aj,0,rfl,bJ _,.inl rfl⟩)⟩
      ·rename_i e' a len cap hq;simp only[aF,TypeDesc.slice.injEq]at hq;subst hq;simp only at hd;split at hd
       ·rename_i hc;obtain⟨hbase,hlc,hcm⟩:=hc;cases hel:((List.range len).mapM fun i=>(w.cells? base (a.add (i*P.cellsOf e)) (P.cellsOf e)).bind (DataW.trod enc P w base spare held m e))with
        |none=>rw[hel]at hd;cases hd
        |some elems=>
        rw[hel]at hd;simp only[bh,Option.map_eq_some_iff,bm]at hd;obtain⟨rest,hrest,rfl,rfl⟩:=hd;simp only[DataW.weights,hu]at hw;obtain⟨hlen,hget⟩:=Cm hel;simp only[List.length_range]at hlen
        have hle:len<=140737488351232:=by
         have:=hw _ (List.mem_cons_self ..);simp only[cG,reachBytes]at this;have h2:elems.length+rest.length<=(elems.length+rest.length)*P.bytesOf e:=Nat.le_mul_of_pos_right _ hb1;omega
        have each:∀i,i<len->∃x:g'.Den,∃ci,w.cells? base (a.add (i*P.cellsOf e)) (P.cellsOf e)=U ci/\i9 g' x/\ci.length=g'.sz/\ones g'.sz ci/\∀G:Gh,(∀j,j<w.heap.size->G.F j)->RL w G (aO ag g' x) ci zf:=by
         intro i hi;obtain⟨b,hb,hf⟩:=hget i i (by simp[hi]);cases hci:w.cells? base (a.add (i*P.cellsOf e)) (P.cellsOf e)with
         |none=>rw[hci]at hf;cases hf
         | some ci=>
           rw[hci]at hf
           obtain⟨x,h1,h2,h3,h4⟩:=ih m g' e ci b.1 b.2 hg1 hf fun q hm=>hw q (by
            simp only[List.mem_cons,List.mem_append]
            exact .inr (.inl (Iu (List.mem_map_of_mem (dO hb)) hm)))
           exact⟨x,ci,rfl,h1,h2,h3,h4⟩
        obtain⟨xs,hxl,hxs⟩:=Iq len each;refine⟨xs,⟨by rw[hxl];exact hle,fun x hx=>?_⟩,rfl,qH rfl,fun G hG=>qG ?_⟩
        ·obtain⟨j,hj⟩:=List.getElem?_of_mem hx;obtain⟨_,_,h1,_⟩:=hxs j x hj;exact h1
        ·simp only[R,cG]
         refine⟨trivial,U a,cap,by rw[hxl],by omega,?_⟩;by_cases h0:len=0
         ·left;have:xs=[]:=List.eq_nil_of_length_eq_zero (by omega);rw[this];rfl
         ·right;obtain⟨x0,hx0⟩:∃x0,xs[0]? = U x0:=⟨_,bI (by omega)⟩
          obtain⟨c0,hc0,_,hl0,_⟩:=hxs 0 x0 hx0;obtain⟨_,hcell⟩:=It hc0;have h00:=hcell 0 (by omega);obtain⟨v0,hv0⟩:∃v0,c0[0]? = U v0:=⟨_,bI (by omega)⟩
          rw[hv0]at h00;simp only[Nat.zero_mul,Addr.add,↓reduceIte]at h00;obtain⟨g,off,spot⟩:=a;obtain⟨rfl,c,e0,fr,hheap,_⟩:=Pi h00
          have hin:g<w.heap.size:=by
           have:=Array.getElem?_eq_some_iff.1 hheap;obtain⟨q,_⟩:=this;exact q
          refine⟨g,off,c,e0,fr,rfl,hG g hin,hheap,?_,?_⟩
          ·intro r hr;simp only[List.mem_map]at hr;obtain⟨x,_,rfl⟩:=hr;exact pb _ _ _
          ·refine Ir (k:=g'.sz) _ _ (fun r hr=>by simp only[List.mem_map]at hr;obtain⟨x,_,rfl⟩:=hr;exact pb _ _ _) ?_;intro i r hr;rw[List.getElem?_map,Option.map_eq_some_iff]at hr;obtain⟨x,hx,rfl⟩:=hr;obtain⟨ci,hci,_,hli,hoi,hri⟩:=hxs i x hx;obtain⟨_,hcl⟩:=It hci
           have agree:∀j,j<g'.sz->((c.toList.drop off).drop (i*g'.sz))[j]? = ci[j]?:=by
            intro j hj;rw[<-hcl j (by omega),hk]
            have e1:(((⟨g,off,aj⟩:Addr).add (i*g'.sz)).add j)=⟨g,off+i*g'.sz+j,aj⟩:=by
             simp only[Addr.add]
             by_cases q1:i*g'.sz=0<;>by_cases q2:j=0<;>simp[q1,q2]
            rw[e1];simp only[World.cell?,hheap,Option.isSome_none,cV,↓reduceIte,List.drop_drop,List.getElem?_drop,Array.getElem?_toList]
           refine⟨j8 _ _ _ _ (fun j hj=>agree j (by rw[pb]at hj;exact hj)) (hri _ fun j hj=>hG j hj),fun j v hj hv=>?_⟩;rw[agree j hj]at hv;exact hoi j v hj hv
       ·cases hd
    |_=>simp at hg
   ·rename_i fs hu;simp only[aK,beq_iff_eq]at hg;obtain⟨hsz,hf⟩:=hg;rw[DataW.trod_step]at hd;unfold DataW.trodStep at hd;rw[hu]at hd;split at hd<;>try (simp_all;done)
    rename_i cs _ _ fs' hq;simp only[aF,TypeDesc.struct.injEq]at hq;subst hq;split at hd
    ·rename_i hl;simp only[Option.map_eq_some_iff,bm]at hd;obtain⟨xs,hxs,rfl,rfl⟩:=hd;have:=Ph (enc:=enc) (P:=P) (w:=w) (base:=base) (spare:=spare) (held:=held) (ih m) fs.toList g 0 cs xs hf (by omega) hxs (by rw[Pg hu]at hw;exact hw);simpa using this
    ·cases hd
   ·cases hg
end
end Go.TM
end
