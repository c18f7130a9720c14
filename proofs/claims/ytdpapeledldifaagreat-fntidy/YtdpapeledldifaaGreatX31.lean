/- Part 32 of the proof of FnTidy; no condition. -/
import Derived.Test.YtdpapeledldifaaGreatX30
set_option autoImplicit true
set_option relaxedAutoImplicit true
set_option linter.all false
namespace Go.Stow
section
def zJv {s:List UInt8}(h:(opsV s).2=true):(opsV s).1≠[]∧(∀x∈(opsV s).1,zEQ x)∧zDr 0 (opsV s).1∧endO 0 (opsV s).1=s.length:=by
 unfold opsV at h ⊢;cases ho:opsN s.length 0 s with
 |none=>rw[ho]at h;cases h
 | some l=>
   cases l with
   |nil=>rw[ho]at h;cases h
   | cons x l=>
     simp only
     obtain⟨h1,h2,h3⟩:=zJw _ _ _ _ ho;exact⟨by simp,h1,h2,by omega⟩
def zTX {l:List InsP}(hne:l≠[])(hg:∀ x∈l,zEQ x)(hp:zDr 0 l):opsV (enc l)=(l,true):=by
 unfold opsV;rw[zTZ l 0 _ hg hp (zLr _)];cases l with
 |nil=>exact absurd rfl hne
 |cons x l=>rfl
def mapT (l:List InsP)(t:TrpP):TrpP:=(toP l t.1,toP l t.2.1,toP l t.2.2.1,t.2.2.2)
def tidT (l:List InsP)(ts:List TrpP):List TrpP:=(ts.map (mapT l)).filter fun t=>decide (t.1<t.2.1)
def mapF (l:List InsP)(f:FrmP):FrmP:=(toP l f.1,f.2)
def zDF (out:List FrmP)(f:FrmP):List FrmP:=(if 0<out.length∧(out.getD (out.length-1) (0,[],[])).1=f.1 then out.take (out.length-1)else out)++[f]
def tidF (l:List InsP)(fs:List FrmP):List FrmP:=(fs.map (mapF l)).foldl zDF []
def tidM (m:MthP):MthP :=
 (m.1,m.2.1,m.2.2.1,m.2.2.2.1,m.2.2.2.2.1,enc (tidL (opsV m.2.2.2.2.2.1).1),tidT (opsV m.2.2.2.2.2.1).1 m.2.2.2.2.2.2.1,tidF (opsV m.2.2.2.2.2.1).1 m.2.2.2.2.2.2.2)
def last_at {out:List FrmP}{g:FrmP}:(out++[g]).getD ((out++[g]).length-1) (0,[],[])=g:=by
 rw[List.getD_eq_getElem?_getD,zLa,List.length_singleton,Nat.add_sub_cancel,List.getElem?_append_right (zLr _),Nat.sub_self];rfl
def zJn (out:List FrmP)(g f:FrmP):zDF (out++[g]) f=if g.1=f.1 then out++[f]else out++[g]++[f]:=by
 unfold zDF;rw[last_at];by_cases h:g.1=f.1
 ·rw[if_pos ⟨by simp,h⟩,if_pos h];simp
 ·rw[if_neg fun h'=>h h'.2,if_neg h]
def zTS (f:FrmP):zDF [] f=[f]:=rfl
def zQX:∀(rest out:List FrmP),out.Pairwise (fun a b=>a.1<b.1)→(∀f∈rest,∀o∈out,o.1≤f.1)→rest.Pairwise (fun a b=>a.1≤b.1) →
  (rest.foldl zDF out).Pairwise (fun a b=>a.1<b.1)∧(∀f∈rest.foldl zDF out,f∈out∨f∈rest)∧(rest.foldl zDF out).length≤out.length+rest.length
 |[],out,h1,_,_=>⟨h1,fun f hf=>.inl hf,by simp⟩
 | f::rest,out,h1,h2,h3=>by
   have h3:=List.pairwise_cons.1 h3;rw[List.foldl_cons]
   have key:(zDF out f).Pairwise (fun a b=>a.1<b.1)∧(∀o∈zDF out f,o.1≤f.1∧(o∈out∨o=f))∧(zDF out f).length≤out.length+1:=by
    rcases List.eq_nil_or_concat out with rfl|⟨ys,g,hg⟩
    ·rw[zTS];exact⟨by simp,fun o ho=>by rw[List.mem_singleton.1 ho];exact⟨Int.le_refl _,.inr rfl⟩,by simp⟩
    ·rw[List.concat_eq_append]at hg;subst hg;have hgl:=h2 f (by simp) g (by simp);have hp:=List.pairwise_append.1 h1;rw[zJn];by_cases e:g.1=f.1
     ·rw[if_pos e];refine⟨List.pairwise_append.2 ⟨hp.1,by simp,fun a ha b hb=>?_⟩,fun o ho=>?_,by simp⟩
      ·rw[List.mem_singleton.1 hb,←e];exact hp.2.2 a ha g (by simp)
      ·rcases List.mem_append.1 ho with ho|ho
       ·exact⟨h2 f (by simp) o (by simp[ho]),.inl (by simp[ho])⟩
       ·rw[List.mem_singleton.1 ho];exact⟨Int.le_refl _,.inr rfl⟩
     ·rw[if_neg e];refine⟨List.pairwise_append.2 ⟨h1,by simp,fun a ha b hb=>?_⟩,fun o ho=>?_,by simp⟩
      ·rw[List.mem_singleton.1 hb];rcases List.mem_append.1 ha with ha|ha
       ·have:=hp.2.2 a ha g (by simp);omega
       ·rw[List.mem_singleton.1 ha];omega
      ·rcases List.mem_append.1 ho with ho|ho
       ·exact⟨h2 f (by simp) o ho,.inl ho⟩
       ·rw[List.mem_singleton.1 ho];exact⟨Int.le_refl _,.inr rfl⟩
   obtain⟨k1,k2,k3⟩:=key;obtain⟨r1,r2,r3⟩:=zQX rest (zDF out f) k1 (fun x hx o ho=>Int.le_trans (k2 o ho).1 (h3.1 x hx)) h3.2;refine⟨r1,fun x hx=>?_,?_⟩
   ·rcases r2 x hx with h|h
    ·rcases(k2 x h).2 with h|h
     ·exact .inl h
     ·exact .inr (by simp[h])
    ·exact .inr (by simp[h])
   ·simp only[zLc];omega
def zQW:∀(rest out:List FrmP),(out++rest).Pairwise (fun a b=>a.1<b.1)→rest.foldl zDF out=out++rest
 |[],out,_=>by simp
 | f::rest,out,h=>by
   rw[List.foldl_cons]
   have e:zDF out f=out++[f]:=by
    rcases List.eq_nil_or_concat out with rfl|⟨ys,g,hg⟩
    ·rfl
    ·rw[List.concat_eq_append]at hg;subst hg;rw[zJn,if_neg];have:=(List.pairwise_append.1 h).2.2 g (by simp) f (by simp);omega
   rw[e,zQW rest (out++[f]) (by simpa using h)];simp
def FrG (p:List Ent)(deep locals:Int)(f:FrmP):Prop:=(f.2.1.length:Int)=locals∧(f.2.2.length:Int)≤deep∧zBW p f.2.1∧zBW p f.2.2
def zFB {fs:List FrmP}{i:Nat}(h:i<fs.length):fs.getD i (0,[],[])=fs[i]:=by
 rw[List.getD_eq_getElem?_getD,zGe h];rfl
def zFy {p:List Ent}{m:MthP}{l:List InsP}:zKg p m l↔(∀f∈m.2.2.2.2.2.2.2,OpAt l f.1∧FrG p m.2.2.2.1 m.2.2.2.2.1 f)∧m.2.2.2.2.2.2.2.Pairwise (fun a b=>a.1<b.1):=by
 obtain⟨m0,m1,m2,m3,m4,m5,m6,fs⟩:=m;unfold zKg;simp only[zUy]
 constructor
 ·intro h;refine⟨fun f hf=>?_,?_⟩
  ·obtain⟨i,hi,rfl⟩:=List.mem_iff_getElem.1 hf;obtain⟨h1,_,h3⟩:=h i hi;rw[zFB hi]at h1 h3;exact⟨(zDx _ _).1 h1,h3⟩
  ·have key:∀j,∀i (hj:j<fs.length) (hij:i<j),(fs[i]'(by omega)).1<fs[j].1:=by
    intro j
    induction j with
    |zero=>intro i hj hij;omega
    | succ j ih=>
      intro i hj hij;have h2:=(h (j+1) hj).2.1 (by omega);rw[zFB hj,Nat.add_sub_cancel,zFB (by omega)]at h2;by_cases e:i=j
      ·subst e;exact h2
      ·exact Int.lt_trans (ih i (by omega) (by omega)) h2
   exact List.pairwise_iff_getElem.2 fun i j hi hj hij=>key j i hj hij
 ·rintro⟨h1,h2⟩ i hi;obtain⟨k1,k2⟩:=h1 fs[i] (List.getElem_mem hi);rw[zFB hi];refine⟨(zDx _ _).2 k1,fun h0=>?_,k2⟩;rw[zFB (by omega)];exact List.pairwise_iff_getElem.1 h2 (i-1) i (by omega) hi (by omega)
def zNS {p:List Ent}{m:MthP}(h:zBb p m)(hlen:m.2.2.2.2.2.1.length≤65535) :
  zBb p (tidM m)∧(tidM m).2.2.2.2.2.1.length≤m.2.2.2.2.2.1.length∧(tidM m).2.2.2.2.2.2.1.length≤m.2.2.2.2.2.2.1.length∧(tidM m).2.2.2.2.2.2.2.length≤m.2.2.2.2.2.2.2.length ∧
  tidM (tidM m)=tidM m∧zGk (opsV (tidM m).2.2.2.2.2.1).1∧(∀t∈(tidM m).2.2.2.2.2.2.1,∃t'∈m.2.2.2.2.2.2.1,t.2.2.2=t'.2.2.2∧0≤t.1∧t.1≤m.2.2.2.2.2.1.length∧0≤t.2.1∧t.2.1≤m.2.2.2.2.2.1.length∧0≤t.2.2.1∧t.2.2.1≤m.2.2.2.2.2.1.length) ∧
  (∀f∈(tidM m).2.2.2.2.2.2.2,∃f'∈m.2.2.2.2.2.2.2,f.2=f'.2∧0≤f.1∧f.1≤m.2.2.2.2.2.1.length):=by
 obtain⟨m0,m1,m2,m3,m4,code,traps,frames⟩:=m;obtain⟨ho,hd,htk,hin,htr,hfr⟩:=h;simp only at ho hd hin htr hlen;obtain⟨hne,hg,hp,hend⟩:=zJv ho;have hfr:=zFy.1 hfr;simp only at hfr;have e:tidM (m0,m1,m2,m3,m4,code,traps,frames)=(m0,m1,m2,m3,m4,enc (tidL (opsV code).1),tidT (opsV code).1 traps,tidF (opsV code).1 frames):=rfl;rw[e];have htk:takes p (m0,m1,m2,m3,m4,enc (tidL (opsV code).1),tidT (opsV code).1 traps,tidF (opsV code).1 frames)≤m4∧m4≤8:=htk;generalize (opsV code).1=l at hne hg hp hend hin htr hfr htk;have hg0:∀x∈l,0≤argN x.2.1:=fun x hx=>(hg x hx).1
 have hK:=zGd 0 0 l hg0;obtain⟨t1,t2,t3⟩:=zSb l;have tg:=zJH hg (by omega);have tne:tidL l≠[]:=fun h=>zXC 0 l hne (List.map_eq_nil_iff.1 h)
 have hv:=zTX tne tg t1;have hle:=zRx (tidL l) 0 tg;have hran:=zVr hg0;have hmap:∀{q:Int},0≤opI l q→0≤opI (tidL l) (toP l q):=fun hq=>(zDx _ _).2 (zRF ((zDx _ _).1 hq))
 have hjmp:∀y∈tidL l,14≤y.2.1∧y.2.1≤18→OpAt (tidL l) y.2.2:=by
  intro y hy hj;obtain⟨x,hx,e1,e2⟩:=zNT hy;rw[e1]at hj;rw[e2,if_pos hj];exact zRF ((zDx _ _).1 ((hin x hx).2.1 hj))
 have hT:∀t∈tidT l traps,∃t'∈traps,t=mapT l t'∧t.1<t.2.1:=by
  intro t ht;obtain⟨h1,h2⟩:=List.mem_filter.1 ht;obtain⟨t',h3,rfl⟩:=List.mem_map.1 h1;exact⟨t',h3,rfl,by simpa using h2⟩
 have hend':∀q,(q=(code.length:Int)∨0≤opI l q)→(toP l q=((enc (tidL l)).length:Int)∨0≤opI (tidL l) (toP l q)):=by
  intro q hq;by_cases hq':0≤opI l q
  ·exact .inr (hmap hq')
  ·left;rw[zGv fun h=>hq' ((zDx _ _).2 h)];omega
 have hTok:∀t∈tidT l traps,zDJ p (enc (tidL l)).length (tidL l) t:=by
  intro t ht;obtain⟨t',h1,rfl,h2⟩:=hT t ht;obtain⟨a1,a2,a3,a4,a5⟩:=htr t' h1;exact⟨h2,hmap a2,hend' _ a3,hmap a4,a5⟩
 have hmono:(frames.map (mapF l)).Pairwise (fun a b=>a.1≤b.1):=by
  rw[List.pairwise_map];refine List.Pairwise.imp_of_mem (fun{a b} ha hb hab=>?_) hfr.2;exact toP_le hg0 hp (hfr.1 a ha).1 (hfr.1 b hb).1 hab
 obtain⟨f1,f2,f3⟩:=zQX (frames.map (mapF l)) [] List.Pairwise.nil (by simp) hmono
 have hF:∀f∈tidF l frames,∃f'∈frames,f=mapF l f':=by
  intro f hf;rcases f2 f hf with h|h
  ·cases h
  ·obtain⟨f',h1,rfl⟩:=List.mem_map.1 h;exact⟨f',h1,rfl⟩
 have hFok:∀f∈tidF l frames,OpAt (tidL l) f.1∧FrG p m3 m4 f:=by
  intro f hf;obtain⟨f',h1,rfl⟩:=hF f hf;exact⟨zRF (hfr.1 f' h1).1,(hfr.1 f' h1).2⟩
 refine⟨⟨by rw[hv],hd,htk,?_,?_,?_⟩,?_,?_,?_,?_,?_,?_,?_⟩
 ·simp only[hv]
  intro y hy;obtain⟨x,hx,e1,e2⟩:=zNT hy;obtain⟨b1,b2,b3⟩:=hin x hx;refine⟨fun h=>?_,fun h=>(zDx _ _).2 (hjmp y hy h),fun h=>?_⟩
  ·rw[e1]at h;rw[e2,if_neg (by omega)];exact b1 h
  ·rw[e1]at h ⊢
   have hnj:¬(14≤x.2.1∧x.2.1≤18):=fun hj=>h (by
    unfold want
    rw[if_neg (by omega),if_neg (by omega),if_neg (by omega),if_neg (by omega)])
   rw[e2,if_neg hnj];exact b3 h
 ·simp only[hv];exact hTok
 ·simp only[hv]
  exact zFy.2 ⟨hFok,f1⟩
 ·simp only;omega
 ·simp only
  exact Nat.le_trans (List.length_filter_le _ _) (by simp)
 ·simp only
  have:(tidF l frames).length≤[].length+(frames.map (mapF l)).length:=f3;simpa using this
 ·
  show tidM (m0,m1,m2,m3,m4,enc (tidL l),tidT l traps,tidF l frames)=_;unfold tidM;simp only[hv]
  rw[zVx t1 t3 hjmp];have es:∀q,(OpAt (tidL l) q∨q=endO 0 (tidL l))→toP (tidL l) q=q:=fun q hq=>zSZ t1 t3 hq
  have e1:tidT (tidL l) (tidT l traps)=tidT l traps:=by
   have hm:(tidT l traps).map (mapT (tidL l))=tidT l traps:=by
    refine(List.map_congr_left fun t ht=>?_).trans (List.map_id _);obtain⟨a1,a2,a3,a4,a5⟩:=hTok t ht;show mapT (tidL l) t=t;unfold mapT;rw[es _ (.inl ((zDx _ _).1 a2)),es _ (.inl ((zDx _ _).1 a4)),es];rcases a3 with a3|a3
    ·right;omega
    ·exact .inl ((zDx _ _).1 a3)
   show((tidT l traps).map (mapT (tidL l))).filter _=_;rw[hm]
   exact List.filter_eq_self.2 fun t ht=>by
    obtain⟨_,_,_,h⟩:=hT t ht;simpa using h
  have e2:tidF (tidL l) (tidF l frames)=tidF l frames:=by
   have hm:(tidF l frames).map (mapF (tidL l))=tidF l frames:=by
    refine(List.map_congr_left fun f hf=>?_).trans (List.map_id _);show mapF (tidL l) f=f;unfold mapF;rw[es _ (.inl (hFok f hf).1)]
   show((tidF l frames).map (mapF (tidL l))).foldl zDF []=_;rw[hm,zQW _ _ (by rw[zNa];exact f1)];simp
  rw[e1,e2]
 ·simp only[hv];exact t3
 ·intro t ht;obtain⟨t',h1,rfl,_⟩:=hT t ht;have r1:=hran t'.1;have r2:=hran t'.2.1;have r3:=hran t'.2.2.1;exact⟨t',h1,rfl,r1.1,by simp only[mapT];omega,r2.1,by simp only[mapT];omega,r3.1,by simp only[mapT];omega⟩
 ·intro f hf;obtain⟨f',h1,rfl⟩:=hF f hf;have r1:=hran f'.1;exact⟨f',h1,rfl,r1.1,by simp only[mapF];omega⟩
end
end Go.Stow
section
namespace Go.Stow
open Classical in
noncomputable def tidC (c:ClsP):ClsP:=(c.1,c.2.1,c.2.2.1,c.2.2.2.1,c.2.2.2.2.1,c.2.2.2.2.2.1,c.2.2.2.2.2.2.map fun m=>if has m.1 8 then m else tidM m)
def zTq (w:FrmP→Nat):∀(rest out:List FrmP),((rest.foldl zDF out).map w).sum≤(out.map w).sum+(rest.map w).sum
 |[],out=>by simp
 | f::rest,out=>by
   have h1:=zTq w rest (zDF out f)
   have h2:((zDF out f).map w).sum≤(out.map w).sum+w f:=by
    rcases List.eq_nil_or_concat out with rfl|⟨ys,g,hg⟩
    ·rw[zTS];simp
    ·rw[List.concat_eq_append]at hg;subst hg;rw[zJn];split<;>simp<;>omega
   rw[List.foldl_cons,zMc,List.sum_cons];omega
def zOI {α:Type}(P:α→List UInt8)(l:List α):((l.map P).flatten).length=(l.map fun x=>(P x).length).sum:=by
 induction l with
 |nil=>rfl
 |cons x l ih=>simp only[zMc,List.flatten_cons,zLa,List.sum_cons,ih]
def zXX {α:Type}(P:α→List UInt8)(g:α→α):∀(l:List α),(∀x∈l,(P (g x)).length≤(P x).length)→(((l.map g).map P).flatten).length≤((l.map P).flatten).length
 |[],_=>by simp
 | x::l,h=>by
   have h1:=h x (by simp);have h2:=zXX P g l fun y hy=>h y (by simp[hy])
   simp only[zMc,List.flatten_cons,zLa]
   omega
def zIx {c:ClsP}(h:chkV c=0):zCw c.1 c.1.length 0=0∧zCH c∧zEK c∧zFO c∧zHi c:=by
 unfold chkV at h;by_cases h1:zCw c.1 c.1.length 0≠0
 ·rw[if_pos h1]at h;cases h
 ·rw[if_neg h1]at h;by_cases h2:¬zCH c
  ·rw[if_pos h2]at h;cases h
  ·rw[if_neg h2]at h;by_cases h3:¬zEK c
   ·rw[if_pos h3]at h;cases h
   ·rw[if_neg h3]at h;by_cases h4:¬zFO c
    ·rw[if_pos h4]at h;cases h
    ·rw[if_neg h4]at h;by_cases h5:¬zHi c
     ·rw[if_pos h5]at h;cases h
     ·exact⟨Classical.not_not.1 h1,Classical.not_not.1 h2,Classical.not_not.1 h3,Classical.not_not.1 h4,Classical.not_not.1 h5⟩
def getD_map {α β:Type}{l:List α}{f:α→β}{i:Nat}{d:α}{e:β}(h:i<l.length):(l.map f).getD i e=f (l.getD i d):=by
 rw[List.getD_eq_getElem?_getD,List.getD_eq_getElem?_getD,List.getElem?_map,zGe h];rfl
end Go.Stow
namespace Go.Proofs.YtdpapeledldifaaGreat
open Go Go.AM Go.TM Go.Stow
def zKc {f:Int}(h:i1 f):zFg f↔has f 8:=by
 unfold i1 at h;unfold zFg has;rw[Int.tmod_eq_emod_of_nonneg h.1,Int.tdiv_eq_ediv_of_nonneg (by omega)];omega
def zPp (m:Mth):(pMth tS abS m).length=if abS m.1=true then 5 else 11+m.2.2.2.2.2.1.length+((m.2.2.2.2.2.2.1.map (pTrp tS)).flatten).length+((m.2.2.2.2.2.2.2.map (pFrm tS)).flatten).length:=by
 unfold pMth;split<;>simp only[zLa,zAV,zBF,zLn]<;>omega
def zPH (l:List Trp):((l.map (pTrp tS)).flatten).length=8*l.length:=by
 rw[zOI]
 induction l with
 |nil=>rfl
 | cons x l ih=>
   simp only[zMc,List.sum_cons,zLc,ih]
   have:(pTrp tS x).length=8:=by unfold pTrp;simp only[zLa,zBF]
   omega
def tidM_fit {p:List Cst}{m:Mth}(hf:fMth m)(hb:zBb p m) :
  fMth (tidM m)∧(∀f∈(tidM m).2.2.2.2.2.2.2,cFrm f)∧(pMth tS abS (tidM m)).length≤(pMth tS abS m).length:=by
 obtain⟨h1,h2,h3,h4,h5,h6,⟨h7,h8⟩,h9,h10⟩:=hf;obtain⟨hb2,k1,k2,k3,k4,k5,k6,k7⟩:=zNS hb (by omega);have e0:(tidM m).1=m.1:=rfl;have ec:∀f∈(tidM m).2.2.2.2.2.2.2,∃f'∈m.2.2.2.2.2.2.2,f.2=f'.2∧0≤f.1∧f.1≤m.2.2.2.2.2.1.length:=k7;refine⟨⟨h1,h2,h3,h4,h5,by omega,⟨by omega,fun t ht=>?_⟩,by omega,fun f hf=>?_⟩,fun f hf=>?_,?_⟩
 ·obtain⟨t',ht',e,a1,a2,a3,a4,a5,a6⟩:=k6 t ht;refine⟨⟨a1,by omega⟩,⟨a3,by omega⟩,⟨a5,by omega⟩,?_⟩;rw[e];exact(h8 t' ht').2.2.2
 ·obtain⟨f',hf',e,a1,a2⟩:=k7 f hf;obtain⟨b1,b2,b3⟩:=h10 f' hf';refine⟨⟨a1,by omega⟩,?_,?_⟩
  ·rw[e];exact b2
  ·rw[e];exact b3
 ·have:=((zFy.1 hb2.2.2.2.2.2).1 f hf).2;exact⟨fun k hk h3=>(this.2.2.1 k hk).2.2 h3,fun k hk h3=>(this.2.2.2 k hk).2.2 h3⟩
 ·rw[zPp,zPp,e0,zPH,zPH]
  have hs:(((tidM m).2.2.2.2.2.2.2.map (pFrm tS)).flatten).length≤((m.2.2.2.2.2.2.2.map (pFrm tS)).flatten).length:=by
   rw[zOI,zOI];have e:(tidM m).2.2.2.2.2.2.2=((m.2.2.2.2.2.2.2.map (mapF (opsV m.2.2.2.2.2.1).1)).foldl zDF []):=rfl;rw[e];refine Nat.le_trans (zTq _ _ _) ?_;simp only[List.map_nil,List.sum_nil,Nat.zero_add,List.map_map]
   have:((fun x=>(pFrm tS x).length)∘mapF (opsV m.2.2.2.2.2.1).1)=fun x=>(pFrm tS x).length:=by
    funext x;simp only[Function.comp,mapF,pFrm,zLa,zBF]
   rw[this];exact zLr _
  split
  ·exact zLr _
  ·omega
def zTR {c:Cls}(h:put c≠[]):fCls c∧(pCls tI abI c).length≤900∧gCls (pCls tI abI c)=some (c,[]):=by
 refine Classical.byContradiction fun hn=>h (zFM hn)
def pCls_le {c0:List Cst}{c1 c2 c3:Int}{c4:List Int}{c5:List Fld}{ms:List Mth}(g:Mth→Mth)(h:∀ m∈ms,(pMth tS abS (g m)).length≤(pMth tS abS m).length) :
  (pCls tS abS (c0,c1,c2,c3,c4,c5,ms.map g)).length≤(pCls tS abS (c0,c1,c2,c3,c4,c5,ms)).length:=by
 have:=zXX (pMth tS abS) g ms h;unfold pCls;simp only[zLa,zAV,zLm]
 omega
end Go.Proofs.YtdpapeledldifaaGreat
end
namespace Go.Proofs.YtdpapeledldifaaGreat
section
open Go Go.AM Go.TM Go.Stow
def zET (n:Int):IntKind.wrap .u8 n=n % 256:=by
 simp[IntKind.wrap,IntKind.bits,IntKind.signed]
def q144 (n:Int):F144 n=some (w1 n):=by
 have:=wrap8 n;simp only[F144,this.1,this.2,zDt,zBs,zAD];rfl
def q145 (n:Int):F145 n=some (tI n):=by
 simp only[F145,q144,zAB,zAV]
 rfl
def w1_op {op:Int}(h0:0≤op)(h1:op≤255):w1 op=[UInt8.ofNat op.toNat]:=by
 unfold w1;rw[zSL h0 h1]
def zXs {x:InsP}(h:zEQ x)(e:argN x.2.1=1):argB x=w1 x.2.2:=by
 obtain⟨h0,h1⟩:=h.2.2.1 e;unfold argB;rw[if_pos e,w1_op h0 h1]
def zXr {x:InsP}(h:zEQ x)(e:argN x.2.1=2):argB x=tI x.2.2:=by
 have hr : -32768≤x.2.2∧x.2.2≤65535:=by
  by_cases h1:x.2.1=1
  ·have:=h.2.2.2.1 e h1;omega
  ·have:=h.2.2.2.2 e h1;omega
 unfold argB tI w1;rw[if_neg (by omega),if_pos e,zET,zET,Int.fdiv_eq_ediv_of_nonneg _ (by omega)];simp only[zCa,zNa,List.cons.injEq,and_true]
 constructor
 ·congr 1;omega
 ·congr 1;omega
def arg_no {x:InsP}(h:zEQ x)(e1:argN x.2.1≠1)(e2:argN x.2.1≠2):argB x=[]:=by
 unfold argB;rw[if_neg e1,if_neg e2]
def argB_le (x:InsP):(argB x).length≤2:=by unfold argB;split<;>(try split)<;>simp
def zFz {α β:Type}{f:α→List β}{k:Nat}:∀{l:List α},(∀x∈l,(f x).length≤k)→(l.flatMap f).length≤k*l.length
 |[],_=>by simp
 | x::l,h=>by
   have h1:=h x (by simp);have h2:=zFz (l:=l) fun y hy=>h y (by simp[hy])
   rw[List.flatMap_cons,zLa,zLc,Nat.mul_succ];omega
def enc_le (l:List InsP):(enc l).length≤3*l.length:=by
 refine zFz fun x _=>?_
 have:=argB_le x;simp only[encI,zLc];omega
def enc_app (a b:List InsP):enc (a++b)=enc a++enc b:=List.flatMap_append
def zFU {α:Type}{l:List α}{i:Nat}(h:i<l.length):l.take (i+1)=l.take i++[l[i]]:=by
 rw[List.take_add_one,zGe h];rfl
def zTu {l:List InsP}{j:Nat}(h:j<l.length)(hg:zEQ l[j]):enc (l.take (j+1))=enc (l.take j)++(w1 l[j].2.1++argB l[j]):=by
 have:=(zDR l[j].2.1).2 hg.1;rw[zFU h,enc_app,w1_op this.1 (by omega)];show enc (l.take j)++(encI l[j]++[])=_;rw[zAn];rfl
def enc_bd {l:List InsP}(hl:l.length≤1000)(j:Nat):(enc (l.take j)).length≤3000:=by
 have:=enc_le (l.take j);rw[zLt]at this;omega
def tS_of {n:Int}(h0 : -32768≤n)(h1:n≤65535):tS (Int.tmod (IntKind.wrap .i64 (n+65536)) 65536)=tI n:=by
 rw[wI (by omega) (by omega),Int.tmod_eq_emod_of_nonneg (by omega)];unfold tS tI w1;rw[Int.tdiv_eq_ediv_of_nonneg (by omega),Int.tmod_eq_emod_of_nonneg (by omega),wI (by omega) (by omega),zET,zET,zET,zET,Int.fdiv_eq_ediv_of_nonneg _ (by omega)];simp only[zCa,zNa,List.cons.injEq,and_true]
 constructor
 ·congr 2;omega
 ·congr 2;omega
def q194 (l:List InsP)(hg:∀ x∈l,zEQ x)(hl:l.length≤1000):F194 l=some (enc l):=by
 simp only[F194]
 refine(zBh (fun j=>(l,enc (l.take j),(j:Int))) (enc l) l.length rfl ?_ ?_).trans rfl
 ·simp only[zCL,zDf,zAI,List.take_length]
 ·intro j hj;have j1:(j:Int)<l.length:=by omega
  have hx:=hg _ (List.getElem_mem hj);have hb:=enc_bd hl j;simp only[j1,zDt,zAJ,zNn,zAD,zTn,zAK hj,wn (show j≤1048576 by omega)]
  rw[zTu hj hx];generalize l[j]=x at hx;generalize enc (l.take j)=out at hb;have g1:out.length+1≤9223372036854775807:=by omega
  have g2:out.length+1+1≤9223372036854775807:=by omega
  have g3:out.length+1+2≤9223372036854775807:=by omega
  simp only[p134,q251,zAB,zAV,g1,zDt,zAD,zAG]
  by_cases e1:argN x.2.1=1
  ·rw[if_pos e1,zXs hx e1];simp only[zLa,zAV,g2,zDt,zAD,zAC,zAa,wn (show j≤1048576 by omega)]
  ·by_cases e2:argN x.2.1=2
   ·have hr : -32768≤x.2.2∧x.2.2≤65535:=by
     by_cases h1:x.2.1=1
     ·have:=hx.2.2.2.1 e2 h1;omega
     ·have:=hx.2.2.2.2 e2 h1;omega
    rw[if_neg e1,if_pos e2,zXr hx e2,p136,tS_of hr.1 hr.2];simp only[zAB,zLa,zAV,zBA,g3,zDt,zAD,zAC,zAa,wn (show j≤1048576 by omega)]
   ·rw[if_neg e1,if_neg e2,arg_no hx e1 e2];simp only[zAC,zAn,wn (show j≤1048576 by omega)]
def q253 (l:List InsP)(hl:l.length≤1048576):F253 (l,l)=some true:=by
 simp only[F253,zDt,Bool.not_true,zAI]
 refine(zBh (fun j=>(l,l,(l.length:Int),(j:Int))) () l.length rfl ?_ ?_).trans rfl
 ·simp only[zCL,zDf,zAI]
 ·intro j hj;have j1:(j:Int)<l.length:=by omega
  simp only[j1,zDt,zAJ,zNn,zAD,zTn,zAK hj,zBs,Bool.not_true,zAI,wn (show j≤1048576 by omega)]
def q195 (l:List InsP)(hg:∀ x∈l,zEQ x)(hl:l.length≤120)(he:(enc l).length≤120)(hp:zDr 0 l)(hne:l≠[]):F195 l=some (enc l):=by
 simp only[F195,show ¬(120:Int)<l.length by omega,zDf,zAI]
 refine(zBh (fun j=>(l,enc (l.take j),l,(l.length:Int),(j:Int))) (l,enc l) l.length rfl ?_ ?_).trans ?_
 ·simp only[zCL,zDf,zAI,List.take_length]
 ·intro j hj;have j1:(j:Int)<l.length:=by omega
  have hx:=hg _ (List.getElem_mem hj);have hb:=enc_bd (l:=l) (by omega) j;simp only[j1,zDt,zAJ,zNn,zAD,zTn,zAK hj,wn (show j≤1048576 by omega)]
  rw[zTu hj hx];generalize l[j]=x at hx;generalize enc (l.take j)=out at hb;have g1:out.length+1≤9223372036854775807:=by omega
  have g2:out.length+(1+1)≤9223372036854775807:=by omega
  have g3:out.length+(1+2)≤9223372036854775807:=by omega
  simp only[q90,q144,q145,zAB,zAV,zBA,zDt,zAD,zAS,zAG,zLa,g1,g2,g3,show(1+1≤9223372036854775807)by omega,show(1+2≤9223372036854775807)by omega]
  have hr:=(zDR x.2.1).1;by_cases e0:argN x.2.1=0
  ·rw[if_pos e0,arg_no hx (by omega) (by omega)];simp only[zAC,zAn,wn (show j≤1048576 by omega)]
  ·by_cases e1:argN x.2.1=1
   ·rw[if_neg e0,if_pos e1,zXs hx e1];simp only[zAC,wn (show j≤1048576 by omega)]
   ·have e2:argN x.2.1=2:=by have:=hx.1;omega
    rw[if_neg e0,if_neg e1,if_pos e2,zXr hx e2];simp only[zAC,wn (show j≤1048576 by omega)]
 ·simp only
  rw[q31 _ he,zTX hne hg hp];simp only[zAB,Bool.not_true,zAI,q253 l (by omega)]
end
end Go.Proofs.YtdpapeledldifaaGreat
namespace Go.Stow
section
def stT (l:List InsP)(n:Nat):Nat→List Int×List InsP×Int
 |0=>(List.replicate n 0,[],0)
 |i+1=>((stT l n i).1.set (l.getD i (0,0,0)).1.toNat (stT l n i).2.2,
   if(l.getD i (0,0,0)).2.1=0∧i+1<l.length then(stT l n i).2.1 else(stT l n i).2.1++[((stT l n i).2.2,(l.getD i (0,0,0)).2.1,(l.getD i (0,0,0)).2.2)],
   if(l.getD i (0,0,0)).2.1=0∧i+1<l.length then(stT l n i).2.2 else(stT l n i).2.2+1+argN (l.getD i (0,0,0)).2.1)
def zXD (a:Int)(x:InsP)(l:List InsP):kept a (x::l)=if x.2.1=0∧l≠[]then kept a l else(a,x.2.1,x.2.2)::kept (a+1+argN x.2.1) l:=rfl
def zXf (a:Int)(x:InsP)(l:List InsP):endK a (x::l)=endK (if x.2.1=0∧l≠[]then a else a+1+argN x.2.1) l:=rfl
def zKA (a:Int)(x:InsP)(l:List InsP):mapP a (x::l)=(x.1,a)::mapP (if x.2.1=0∧l≠[]then a else a+1+argN x.2.1) l:=rfl
def zEC:∀(a:Int) (l:List InsP),(mapP a l).length=l.length
 |_,[]=>rfl
 |a,x::l=>by simp only[mapP,zLc,zEC]
def zJR {l:List InsP}{n:Nat}(hg:∀ x∈l,0≤argN x.2.1)(hp:zDr 0 l)(hn:endO 0 l<n):∀i,i≤l.length →
  (stT l n i).1.length=n∧(stT l n i).2.1++kept (stT l n i).2.2 (l.drop i)=kept 0 l∧endK (stT l n i).2.2 (l.drop i)=endK 0 l∧mapP 0 l=(mapP 0 l).take i++mapP (stT l n i).2.2 (l.drop i) ∧
  (∀q∈(mapP 0 l).take i,(stT l n i).1[q.1.toNat]? = some q.2)∧(stT l n i).2.1.length≤i∧0≤(stT l n i).2.2∧(stT l n i).2.2≤3*i
 |0,_=>by simp[stT]
 | i+1,hi=>by
   obtain⟨h1,h2,h3,h4,h5,h6,h7,h8⟩:=zJR hg hp hn i (by omega);have hil:i<l.length:=by omega
   have hd:l.drop i=l[i]::l.drop (i+1):=List.drop_eq_getElem_cons hil;have hx:l.getD i (0,0,0)=l[i]:=by rw[List.getD_eq_getElem?_getD,zGe hil];rfl
   have hmem:=List.getElem_mem hil;have hxr:=(zJq 0 l hg hp).2 _ hmem;have hxa:=hg _ hmem;have hx2:=(zDR l[i].2.1).1
   have hne:l.drop (i+1)≠[]↔i+1<l.length:=by
    rw[ne_eq,List.drop_eq_nil_iff];omega
   simp only[stT,hx]
   rw[hd,zXD]at h2;rw[hd,zXf]at h3;rw[hd,zKA]at h4;simp only[hne]at h2 h3 h4;generalize (stT l n i).1=A at h1 h5 ⊢;generalize (stT l n i).2.1=O at h2 h6 ⊢;generalize (stT l n i).2.2=a at h2 h3 h4 h7 h8 ⊢;have hlen:=zEC 0 l
   have htk:(mapP 0 l).take (i+1)=(mapP 0 l).take i++[(l[i].1,a)]:=by
    have hl:(mapP 0 l)[i]? = some (l[i].1,a):=by
     rw[h4,List.getElem?_append_right (by rw[zLt];omega),zLt,hlen,Nat.min_eq_left (by omega),Nat.sub_self];rfl
    rw[List.take_add_one,hl];rfl
   have h4':mapP 0 l=(mapP 0 l).take (i+1)++mapP (if l[i].2.1=0∧i+1<l.length then a else a+1+argN l[i].2.1) (l.drop (i+1)):=by
    rw[htk,zAa];exact h4
   refine⟨by rw[List.length_set];exact h1,?_,?_,h4',?_,?_,?_,?_⟩
   ·split
    ·rename_i c;rw[if_pos c]at h2;exact h2
    ·rename_i c;rw[if_neg c]at h2;rw[zAa];exact h2
   ·exact h3
   ·intro q hq;rw[htk]at hq;rcases List.mem_append.1 hq with hq|hq
    ·have hlt:q.1<l[i].1:=by
      have hpw:=(zFd 0 0 l hg hp).2;rw[h4]at hpw;exact((List.pairwise_append.1 hpw).2.2 q hq (l[i].1,a) (by simp)).1
     have hq0:=((zFd 0 0 l hg hp).1 q (List.mem_of_mem_take hq)).1;rw[List.getElem?_set_ne (by omega)];exact h5 q hq
    ·rw[List.mem_singleton.1 hq];simp only
     rw[List.getElem?_set_self (by omega)]
   ·split
    ·omega
    ·simp only[zLa,zLc,zLn];omega
   ·split<;>omega
   ·split<;>omega
def ToA (A:List Int)(l:List InsP)(n:Int):Prop:=∀p,OpAt l p∨p=n→0≤p∧p<A.length∧A[p.toNat]? = some (toP l p)
def toA_ok {l:List InsP}{n:Nat}(hg:∀ x∈l,0≤argN x.2.1)(hp:zDr 0 l)(hn:endO 0 l=n):ToA ((stT l (n+1) l.length).1.set n (endK 0 l)) l n:=by
 obtain⟨h1,h2,h3,h4,h5,h6,h7,h8⟩:=zJR (n:=n+1) hg hp (by omega) l.length (zLr _);have hm:(mapP 0 l).take l.length=mapP 0 l:=by rw[←zEC 0 l];exact List.take_length
 rw[hm]at h5;have hr:=(zJq 0 l hg hp).2;intro p h;rw[List.length_set,h1];by_cases ho:OpAt l p
 ·obtain⟨q,hq,e1,e2⟩:=zFq ho;obtain⟨x,hx,e3⟩:=ho;have:=hr x hx;refine⟨by omega,by omega,?_⟩;rw[List.getElem?_set_ne (by omega),e2,←e1];exact h5 q hq
 ·have hpn:=h.resolve_left ho;refine⟨by omega,by omega,?_⟩;rw[zGv ho,hpn,zTn,List.getElem?_set_self (by omega)]
end
end Go.Stow
namespace Go.Proofs.YtdpapeledldifaaGreat
section
open Go Go.AM Go.TM Go.Stow
set_option maxRecDepth 10000
def q172 (op:Int):F172 op=some (decide (14≤op∧op≤18)):=by
 simp only[F172,q89,zAB]
def atO_to {A:List Int}{l:List InsP}{n p:Int}{R:Type}{k:Int→Option R}(h:ToA A l n)(hp:OpAt l p∨p=n):(grdO (decide (0≤p)&&decide (p<(A.length:Int))) (atO A p.toNat k))=k (toP l p):=by
 obtain⟨h1,h2,h3⟩:=h p hp;rw[decide_eq_true h1,decide_eq_true h2,zBs,zAD,zKb h3]
def zPI {l:List InsP}{ts:List TrpP}{j:Nat}(h:j<ts.length):tidT l (ts.take (j+1))=tidT l (ts.take j)++if toP l ts[j].1<toP l ts[j].2.1 then [mapT l ts[j]]else []:=by
 unfold tidT;rw[zFU h,List.map_append,List.filter_append];congr 1;show List.filter _ [mapT l ts[j]]=_;have e:decide ((mapT l ts[j]).1<(mapT l ts[j]).2.1)=decide (toP l ts[j].1<toP l ts[j].2.1):=rfl;rw[List.filter_cons,e];by_cases c:toP l ts[j].1<toP l ts[j].2.1
 ·rw[if_pos c,if_pos (decide_eq_true c)];rfl
 ·rw[if_neg c,decide_eq_false c];rfl
def zVw (l:List InsP)(ts:List TrpP)(j:Nat):(tidT l (ts.take j)).length≤j:=by
 refine Nat.le_trans (List.length_filter_le _ _) ?_;rw[zLm,zLt];omega
def push_le (out:List FrmP)(f:FrmP):(zDF out f).length≤out.length+1:=by
 unfold zDF;rw[zLa];split
 ·rw[zLt];simp only[zLc,zLn];omega
 ·simp
def zXW:∀(rest out:List FrmP),(rest.foldl zDF out).length≤out.length+rest.length
 |[],out=>by simp
 | f::rest,out=>by
   have h1:=push_le out f;have h2:=zXW rest (zDF out f);simp only[List.foldl_cons,zLc];omega
def zPJ {l:List InsP}{fs:List FrmP}{j:Nat}(h:j<fs.length):tidF l (fs.take (j+1))=zDF (tidF l (fs.take j)) (mapF l fs[j]):=by
 unfold tidF;rw[zFU h,List.map_append,List.foldl_append];rfl
def zVy (l:List InsP)(fs:List FrmP)(j:Nat):(tidF l (fs.take j)).length≤j:=by
 have:=zXW ((fs.take j).map (mapF l)) [];simp only[zLn,zLm,zLt]at this;unfold tidF;omega
def q103 {p:List Cst}(m:Mth)(hb:zBb p m)(h120:m.2.2.2.2.2.1.length≤120)(ht:m.2.2.2.2.2.2.1.length≤1000)(hf:m.2.2.2.2.2.2.2.length≤1000):F103 m=some (tidM m):=by
 obtain⟨m0,m1,m2,m3,m4,code,traps,frames⟩:=m;simp only at h120 ht hf;obtain⟨ho,-,-,hin,htr,hfr⟩:=hb;simp only at ho hin htr;have hfr:=zFy.1 hfr;simp only at hfr;obtain⟨hne,hg,hp,hend⟩:=zJv ho
 have hV:F31 code=some ((opsV code).1,true):=by
  rw[q31 code h120]
  conv=>rhs;rw[←ho]
 have eT:tidM (m0,m1,m2,m3,m4,code,traps,frames)=(m0,m1,m2,m3,m4,enc (tidL (opsV code).1),tidT (opsV code).1 traps,tidF (opsV code).1 frames):=rfl;rw[eT];have hlen:=zEu code;generalize (opsV code).1=l at *;have hg0:∀x∈l,0≤argN x.2.1:=fun x hx=>(hg x hx).1
 have hto:=toA_ok hg0 hp hend;have hr:=(zJq 0 l hg0 hp).2;have hst:=fun i hi=>zJR (n:=code.length+1) hg0 hp (by omega) i hi
 obtain⟨t1,t2,t3⟩:=zSb l;have tg:=zJH hg (by omega);have tne:tidL l≠[]:=fun h=>zXC 0 l hne (List.map_eq_nil_iff.1 h)
 have tle:=zRx (tidL l) 0 tg;have hK:=zGd 0 0 l hg0;have w1':IntKind.wrap .i64 ((code.length:Int)+1)=((code.length+1:Nat):Int):=wn (by omega);have g8:(code.length+1)*8≤140737488355328:=by omega
 simp only[F103,hV,zAB,Bool.not_true,zAI,w1',zDt,zNn,zBs,show((code.length+1:Nat):Int)≤9223372036854775807 by omega,show((code.length+1:Nat):Int)*8≤140737488355328 by omega,zAD,zTn]
 refine(zBh (fun i=>((stT l (code.length+1) i).1,(stT l (code.length+1) i).2.1,(stT l (code.length+1) i).2.2,(l.length:Int),(i:Int),(m0,m1,m2,m3,m4,code,traps,frames),(0,0,0,0,0,[],[],[]),l))
  ((stT l (code.length+1) l.length).1,kept 0 l,endK 0 l,(m0,m1,m2,m3,m4,code,traps,frames),(0,0,0,0,0,[],[],[])) l.length rfl ?_ ?_).trans ?_
 ·obtain⟨-,h2,h3,-⟩:=hst l.length (zLr _);rw[List.drop_length]at h2 h3;simp only[kept,zAn]at h2;simp only[endK]at h3;simp only[zCL,zDf,zAI,h2,h3]
 ·intro i hi;obtain⟨k1,-,-,-,-,k6,k7,k8⟩:=hst i (by omega);have j1:(i:Int)<l.length:=by omega
  have hxr:=hr _ (List.getElem_mem hi);have hxa:=(zDR l[i].2.1).1;have hxg:=hg0 _ (List.getElem_mem hi);have hx:l.getD i (0,0,0)=l[i]:=by rw[List.getD_eq_getElem?_getD,zGe hi];rfl
  have hcl:IntKind.wrap .i64 ((l.length:Int)-1)=(l.length:Int)-1:=wI (by omega) (by omega);simp only[stT,hx]
  generalize (stT l (code.length+1) i).1=A at k1;generalize (stT l (code.length+1) i).2.1=O at k6;generalize (stT l (code.length+1) i).2.2=a at k7 k8;simp only[j1,zDt,zAJ,zNn,zBs,zAD,zTn,zAK hi,hcl]
  generalize l[i]=x at hxr hxa hxg;have hA:x.1.toNat<A.length:=by omega
  simp only[hxr.1,show x.1<(A.length:Int)by omega,zDt,zBs,zAD,zAK hA,zAG]
  have g1:O.length+1≤9223372036854775807:=by omega
  have g2:(O.length+1)*24≤140737488355328:=by omega
  have wa:IntKind.wrap .i64 (a+IntKind.wrap .i64 (1+argN x.2.1))=a+1+argN x.2.1:=by rw[wI (x:=1+argN x.2.1) (by omega) (by omega),wI (by omega) (by omega)];omega
  by_cases c1:x.2.1=0
  ·by_cases c2:(i:Int)<(l.length:Int)-1
   ·rw[if_pos c1,if_pos c2,if_pos ⟨c1,by omega⟩,if_pos ⟨c1,by omega⟩];simp only[zAC,zAH,wn (show i≤1048576 by omega)]
   ·rw[if_pos c1,if_neg c2,if_neg (fun h=>c2 (by omega)),if_neg (fun h=>c2 (by omega))];simp only[zAC,g1,g2,zDt,zBs,zAD,q90,zAB,wa,wn (show i≤1048576 by omega)]
  ·rw[if_neg c1,if_neg (fun h=>c1 h.1),if_neg (fun h=>c1 h.1)];simp only[zAC,g1,g2,zDt,zBs,zAD,q90,zAB,wa,wn (show i≤1048576 by omega)]
 obtain⟨kA,-⟩:=hst l.length (zLr _)
 have hkl:(kept 0 l).length≤120:=by
  obtain⟨-,h2,-,-,-,h6,-,-⟩:=hst l.length (zLr _);rw[List.drop_length]at h2;simp only[kept,zAn]at h2;rw[←h2];omega
 generalize (stT l (code.length+1) l.length).1=A0 at kA hto;have hcA:code.length<A0.length:=by omega
 simp only[show(code.length:Int)<(A0.length:Int)by omega,zNn,zDt,zBs,zAD,zTn,zAK hcA]
 generalize A0.set code.length (endK 0 l)=A at hto
 refine(zNY (fun j a=>(A,((kept 0 l).length:Int),(j:Int),(m0,m1,m2,m3,m4,code,traps,frames),(0,0,0,0,0,[],[],[]),a))
  (fun a=>(A,a,(m0,m1,m2,m3,m4,code,traps,frames),(0,0,0,0,0,[],[],[]))) (Stow.ren l) (kept 0 l) rfl (by omega) ?_ ?_).trans ?_
 ·intro a ha;simp only[ha,zIl,zDf,zAI]
 ·intro a x b hx hab;have j1:(a.length:Int)<((kept 0 l).length:Int):=by omega
  have j2:(a.length:Int)<((a++x::b).length:Int):=by simp only[zLa,zLc];omega
  obtain⟨z,hz,ez⟩:=zHO 0 l x hx;simp only[j1,j2,zDt,zAJ,zNn,zBs,zAD,zTn,zSG,q172,zAB,zAG,zRQ]
  by_cases c:14≤x.2.1∧x.2.1≤18
  ·have hat:OpAt l x.2.2:=by
    have:=(zDx l z.2.2).1 ((hin z hz).2.1 (by rw[←ez];exact c));rw[ez];exact this
   rw[if_pos c,atO_to hto (.inl hat)];simp only[zAC,wn (show a.length≤1048576 by omega),Stow.ren,if_pos c]
  ·rw[if_neg c];simp only[zAC,wn (show a.length≤1048576 by omega),Stow.ren,if_neg c]
 have eL:(kept 0 l).map (Stow.ren l)=tidL l:=rfl;rw[eL];have hL:(tidL l).length≤120:=by rw[←eL,zLm];exact hkl
 have q5:=q195 (tidL l) tg hL (by omega) t1 tne;simp only[q5,zAB,zDt,zBs,zAt,zAD,zAS,zCg]
 refine(zBh (fun j=>(A,traps,(traps.length:Int),(j:Int),(m0,m1,m2,m3,m4,code,traps,frames),(0,0,0,0,0,[],[],[]),m0,m1,m2,m3,m4,enc (tidL l),tidT l (traps.take j),[]))
  (A,(m0,m1,m2,m3,m4,code,traps,frames),(0,0,0,0,0,[],[],[]),m0,m1,m2,m3,m4,enc (tidL l),tidT l traps,[]) traps.length rfl ?_ ?_).trans ?_
 ·simp only[zCL,zDf,zAI,List.take_length]
 ·intro j hj;have j1:(j:Int)<traps.length:=by omega
  obtain⟨b1,b2,b3,b4,-⟩:=htr _ (List.getElem_mem hj);have hle:=zVw l traps j;obtain⟨a1,a2,a3⟩:=hto traps[j].1 (.inl ((zDx _ _).1 b2));obtain⟨c1,c2,c3⟩:=hto traps[j].2.1 (b3.elim .inr fun h=>.inl ((zDx _ _).1 h));obtain⟨d1,d2,d3⟩:=hto traps[j].2.2.1 (.inl ((zDx _ _).1 b4));rw[zPI hj];simp only[j1,zDt,zAJ,zNn,zAD,zTn,zAK hj]
  have em:mapT l traps[j]=(toP l traps[j].1,toP l traps[j].2.1,toP l traps[j].2.2.1,traps[j].2.2.2):=rfl;rw[em];generalize traps[j]=t at a1 a2 a3 c1 c2 c3 d1 d2 d3;generalize tidT l (traps.take j)=out at hle;have g1:out.length+1≤9223372036854775807:=by omega
  have g2:(out.length+1)*32≤140737488355328:=by omega
  simp only[a1,a2,c1,c2,d1,d2,zDt,zBs,zAD,zKb a3,zKb c3,zKb d3,beq_self_eq_true,zAt,zAS,zAG]
  by_cases e:toP l t.1<toP l t.2.1
  ·rw[if_pos e,if_pos e];simp only[g1,g2,zDt,zBs,zAD,zAC,wn (show j≤1048576 by omega)]
  ·rw[if_neg e,if_neg e];simp only[zAC,wn (show j≤1048576 by omega),zAn]
 refine(zBh (fun j=>(A,frames,(frames.length:Int),(j:Int),(0,0,0,0,0,[],[],[]),m0,m1,m2,m3,m4,enc (tidL l),tidT l traps,tidF l (frames.take j)))
  ((0,0,0,0,0,[],[],[]),m0,m1,m2,m3,m4,enc (tidL l),tidT l traps,tidF l frames) frames.length rfl ?_ ?_).trans ?_
 ·simp only[zCL,zDf,zAI,List.take_length]
 ·intro j hj;have j1:(j:Int)<frames.length:=by omega
  have hle:=zVy l frames j;obtain⟨a1,a2,a3⟩:=hto frames[j].1 (.inl (hfr.1 _ (List.getElem_mem hj)).1);rw[zPJ hj];simp only[j1,zDt,zAJ,zNn,zAD,zTn,zAK hj]
  have em:mapF l frames[j]=(toP l frames[j].1,frames[j].2.1,frames[j].2.2):=rfl;rw[em];generalize frames[j]=f at a1 a2 a3;generalize tidF l (frames.take j)=out at hle;generalize toP l f.1=q at a3;simp only[a1,a2,zDt,zBs,zAD,zKb a3]
  unfold zDF;by_cases h0:(0:Int)<out.length
  ·have hw:IntKind.wrap .i64 ((out.length:Int)-1)=(out.length:Int)-1:=wI (by omega) (by omega);have hi:((out.length:Int)-1).toNat=out.length-1:=by omega
   have hlt:out.length-1<out.length:=by omega
   have hgd:out.getD (out.length-1) (0,[],[])=out[out.length-1]:=zFB hlt;simp only[h0,zDt,zAJ,hw,show(0:Int)≤(out.length:Int)-1 by omega,show(out.length:Int)-1<out.length by omega,show(out.length:Int)-1≤out.length by omega,zBs,zAD,hi,zAK hlt,zAC,zAG,hgd]
   by_cases e:out[out.length-1].1=q
   ·have g1:(out.take (out.length-1)).length+1≤9223372036854775807:=by rw[zLt];omega
    have g2:((out.take (out.length-1)).length+1)*56≤140737488355328:=by rw[zLt];omega
    rw[if_pos e,if_pos ⟨by omega,e⟩];simp only[zAC,List.drop_zero,g1,g2,zDt,zBs,zAD,wn (show j≤1048576 by omega)]
   ·have g1:out.length+1≤9223372036854775807:=by omega
    have g2:(out.length+1)*56≤140737488355328:=by omega
    rw[if_neg e,if_neg (fun h=>e h.2)];simp only[zAC,g1,g2,zDt,zBs,zAD,wn (show j≤1048576 by omega)]
  ·have g1:out.length+1≤9223372036854775807:=by omega
   have g2:(out.length+1)*56≤140737488355328:=by omega
   rw[if_neg (fun h=>h0 (by omega))];simp only[h0,zDf,zAI,zAC,g1,g2,zDt,zBs,zAD,wn (show j≤1048576 by omega)]
 ·rfl
end
end Go.Proofs.YtdpapeledldifaaGreat
section
namespace Go.Stow
def zQA:∀(a:Int) (l:List InsP),(mapP a l).map (fun q=>q.1)=l.map (fun x=>x.1)
 |_,[]=>rfl
 |a,x::l=>by rw[zKA,zMc,zMc,zQA]
def mapP_at {a:Int}{l:List InsP}{j:Nat}(h:j<l.length):((mapP a l)[j]'(by rw[zEC];exact h)).1=l[j].1:=by
 have e:=congrArg (fun s=>s[j]?) (zQA a l);simp only[List.getElem?_map]at e;rw[zGe h,zGe (by rw[zEC];exact h)]at e;simpa using e
def toP_opI {l:List InsP}(hg:∀ x∈l,0≤argN x.2.1)(hp:zDr 0 l)(p:Int) :
  (opI l p<0∧toP l p=endK 0 l)∨∃j,∃h:j<(mapP 0 l).length,opI l p=j∧toP l p=((mapP 0 l)[j]'h).2:=by
 unfold opI;cases h:l.findIdx? (fun x=>decide (x.1=p))with
 | none=>
   refine .inl ⟨by simp only;omega,zGv ?_⟩;rintro⟨x,hx,e⟩;have:=List.findIdx?_eq_none_iff.1 h x hx;simp[e]at this
 | some j=>
   rw[List.findIdx?_eq_some_iff_getElem]at h;obtain⟨h1,h2,_⟩:=h;have h2:l[j].1=p:=by simpa using h2
   have hj:j<(mapP 0 l).length:=by rw[zEC];exact h1
   refine .inr ⟨j,hj,rfl,?_⟩;obtain⟨q,hq,e1,e2⟩:=zFq (l:=l) (p:=p) ⟨l[j],List.getElem_mem h1,h2⟩;obtain⟨i,hi,rfl⟩:=List.mem_iff_getElem.1 hq;have hm:=List.pairwise_iff_getElem.1 (zFd 0 0 l hg hp).2;have e3:=mapP_at (a:=0) h1
   have hij:i=j:=by
    rcases Nat.lt_trichotomy i j with c|c|c
    ·have:=(hm i j hi hj c).1;omega
    ·exact c
    ·have:=(hm j i hj hi c).1;omega
   subst hij;exact e2
def oldK (l:List InsP):Nat→List InsP
 |0=>[]
 |i+1=>if(l.getD i (0,0,0)).2.1=0∧i+1<l.length then oldK l i else oldK l i++[Stow.ren l (l.getD i (0,0,0))]
def zTa (l:List InsP)(n:Nat):∀i,(oldK l i).map (fun x=>x.2)=((stT l n i).2.1.map (Stow.ren l)).map (fun x=>x.2)
 |0=>rfl
 | i+1=>by
   have ih:=zTa l n i;simp only[oldK,stT]
   split
   ·exact ih
   ·rw[List.map_append,List.map_append,List.map_append,ih];rfl
def zNq (l:List InsP):∀i,(oldK l i).length≤i
 |0=>by simp[oldK]
 | i+1=>by
   have:=zNq l i;simp only[oldK]
   split
   ·omega
   ·simp only[zLa,zLc,zLn];omega
def enc_snd {a b:List InsP}(h:a.map (fun x=>x.2)=b.map (fun x=>x.2)):enc a=enc b:=by
 have key:∀l:List InsP,enc l=(l.map fun x=>x.2).flatMap fun y=>encI (0,y):=fun l=>by
  rw[List.flatMap_map];rfl
 rw[key a,key b,h]
def good_snd {a b:List InsP}(h:a.map (fun x=>x.2)=b.map (fun x=>x.2))(hb:∀ x∈b,zEQ x):∀x∈a,zEQ x:=by
 intro x hx;have:x.2∈b.map (fun x=>x.2):=by rw[←h];exact List.mem_map_of_mem hx
 obtain⟨y,hy,e⟩:=List.mem_map.1 this;have:=hb y hy;unfold zEQ at this ⊢;rw[←e];exact this
end Go.Stow
namespace Go.Proofs.YtdpapeledldifaaGreat
open Go Go.AM Go.TM Go.Stow
set_option maxRecDepth 10000
def q197 (l:List InsP)(i:Nat)(h:i<l.length)(hl:l.length≤1048576):F197 (l,(i:Int))=some (decide ¬(l[i].2.1=0∧i+1<l.length)):=by
 have hw:IntKind.wrap .i64 ((l.length:Int)-1)=(l.length:Int)-1:=wI (by omega) (by omega);simp only[F197,zNn,zDt,zAD,zTn,zAK h,hw]
 by_cases c:l[i].2.1=0
 ·rw[decide_eq_true c,Bool.not_true,zAI];congr 1
  exact decide_eq_decide.2 ⟨fun h'=>fun h2=>by have:=h2.2;omega,fun h'=>by
   refine Classical.byContradiction fun h2=>h' ⟨c,by omega⟩⟩
 ·rw[decide_eq_false c,Bool.not_false,zAJ];simp[c]
def q196 (l:List InsP)(hg:∀ x∈l,0≤argN x.2.1)(hp:zDr 0 l)(hl:l.length≤1000):F196 l=some ((mapP 0 l).map (fun q=>q.2),endK 0 l):=by
 have hst:=fun i hi=>zJR (n:=(endO 0 l).toNat+1) hg hp (by omega) i hi
 simp only[F196]
 refine(zBh (fun i=>(l,((mapP 0 l).take i).map (fun q=>q.2),(stT l ((endO 0 l).toNat+1) i).2.2,(i:Int))) ((mapP 0 l).map (fun q=>q.2),endK 0 l) l.length rfl ?_ ?_).trans rfl
 ·obtain⟨-,-,h3,-⟩:=hst l.length (zLr _);rw[List.drop_length]at h3;simp only[endK]at h3;have hm:(mapP 0 l).take l.length=mapP 0 l:=by rw[←zEC 0 l];exact List.take_length
  simp only[zCL,zDf,zAI,h3,hm]
 ·intro i hi;obtain⟨-,-,-,h4,-,-,h7,h8⟩:=hst i (by omega);have j1:(i:Int)<l.length:=by omega
  have hx:l.getD i (0,0,0)=l[i]:=by rw[List.getD_eq_getElem?_getD,zGe hi];rfl
  have hxa:=(zDR l[i].2.1).1;have hd:l.drop i=l[i]::l.drop (i+1):=List.drop_eq_getElem_cons hi;have hn:=q197 l i hi (by omega);simp only[stT,hx]
  have htk:(mapP 0 l).take (i+1)=(mapP 0 l).take i++[(l[i].1,(stT l ((endO 0 l).toNat+1) i).2.2)]:=by
   have hlen:=zEC 0 l
   have hl:(mapP 0 l)[i]? = some (l[i].1,(stT l ((endO 0 l).toNat+1) i).2.2):=by
    rw[h4,hd,zKA,List.getElem?_append_right (by rw[zLt];omega),zLt,hlen,Nat.min_eq_left (by omega),Nat.sub_self];rfl
   rw[List.take_add_one,hl];rfl
  rw[htk,List.map_append];have ho:(((mapP 0 l).take i).map (fun q=>q.2)).length≤1000:=by rw[zLm,zLt];omega
  generalize ((mapP 0 l).take i).map (fun q=>q.2)=O at ho;generalize (stT l ((endO 0 l).toNat+1) i).2.2=a at h7 h8;have g1:O.length+1≤9223372036854775807:=by omega
  have g2:(O.length+1)*8≤140737488355328:=by omega
  simp only[j1,zDt,zAJ,g1,g2,zBs,zAD,hn,zAB,zNn,zTn,zAK hi,q251]
  by_cases c:l[i].2.1=0∧i+1<l.length
  ·rw[decide_eq_false (fun h=>h c),zAI,if_pos c];simp only[zAC,wn (show i≤1048576 by omega)]
   rfl
  ·rw[decide_eq_true c,zAJ,if_neg c,wI (x:=a+1) (by omega) (by omega),wI (x:=a+1+argN l[i].2.1) (by omega) (by omega)];simp only[zAC,wn (show i≤1048576 by omega)]
   rfl
def q198 (l:List InsP)(hg:∀ x∈l,0≤argN x.2.1)(hp:zDr 0 l)(hl:l.length≤1000)(p:Int):F198 (l,(mapP 0 l).map (fun q=>q.2),endK 0 l,p)=some (toP l p):=by
 simp only[F198,q254 l p (by omega),zAB,zAG]
 rcases toP_opI hg hp p with⟨h1,h2⟩|⟨j,h,h1,h2⟩
 ·rw[if_pos h1,h2]
 ·have hj:j<((mapP 0 l).map (fun q=>q.2)).length:=by rw[zLm];exact h
  rw[h1,if_neg (by omega)];simp only[zNn,zDt,zAD,zTn,zAK hj,List.getElem_map]
  rw[h2]
end Go.Proofs.YtdpapeledldifaaGreat
end
namespace Go.Proofs.YtdpapeledldifaaGreat
section
open Go Go.AM Go.TM Go.Stow
set_option maxRecDepth 10000
def q199 (m0 m1 m2 m3 m4:Int)(code:List UInt8)(traps:List Trp)(frames:List Frm)(l:List InsP)(hg:∀ x∈l,0≤argN x.2.1)(hp:zDr 0 l)(hl:l.length≤1000)(hf:frames.length≤1000)(hk:∀ f∈frames,f.2.1.length≤1000∧f.2.2.length≤1000) :
  F199 ((m0,m1,m2,m3,m4,code,traps,frames),l,(mapP 0 l).map (fun q=>q.2),endK 0 l)=some (tidF l frames):=by
 have z198:=q198 l hg hp hl;simp only[F199]
 generalize (mapP 0 l).map (fun q=>q.2)=T at z198;refine(zBh (fun j=>(l,T,endK 0 l,tidF l (frames.take j),(j:Int),m0,m1,m2,m3,m4,code,traps,frames)) (tidF l frames) frames.length rfl ?_ ?_).trans rfl
 ·simp only[zCL,zDf,zAI,List.take_length]
 ·intro j hj;have j1:(j:Int)<frames.length:=by omega
  have hle:=zVy l frames j;obtain⟨b1,b2⟩:=hk _ (List.getElem_mem hj);rw[zPJ hj];simp only[j1,zDt,zAJ,zNn,zAD,zTn,zAK hj,z198,zAB]
  have em:mapF l frames[j]=(toP l frames[j].1,frames[j].2.1,frames[j].2.2):=rfl;rw[em];generalize frames[j]=f at b1 b2;generalize tidF l (frames.take j)=out at hle;generalize toP l f.1=q;simp only[show f.2.1.length≤9223372036854775807 by omega,show f.2.1.length*16≤140737488355328 by omega,show f.2.2.length≤9223372036854775807 by omega,show f.2.2.length*16≤140737488355328 by omega,zDt,zBs,zAD]
  unfold zDF;by_cases h0:(0:Int)<out.length
  ·have hw:IntKind.wrap .i64 ((out.length:Int)-1)=(out.length:Int)-1:=wI (by omega) (by omega);have hi:((out.length:Int)-1).toNat=out.length-1:=by omega
   have hlt:out.length-1<out.length:=by omega
   have hgd:out.getD (out.length-1) (0,[],[])=out[out.length-1]:=zFB hlt;simp only[h0,zDt,zAJ,hw,show(0:Int)≤(out.length:Int)-1 by omega,show(out.length:Int)-1<out.length by omega,show(out.length:Int)-1≤out.length by omega,zBs,zAD,hi,zAK hlt,zAC,zAG,hgd]
   by_cases e:out[out.length-1].1=q
   ·have g1:(out.take (out.length-1)).length+1≤9223372036854775807:=by rw[zLt];omega
    have g2:((out.take (out.length-1)).length+1)*56≤140737488355328:=by rw[zLt];omega
    rw[if_pos e,if_pos ⟨by omega,e⟩];simp only[zAC,List.drop_zero,g1,g2,zDt,zBs,zAD,wn (show j≤1048576 by omega)]
   ·have g1:out.length+1≤9223372036854775807:=by omega
    have g2:(out.length+1)*56≤140737488355328:=by omega
    rw[if_neg e,if_neg (fun h=>e h.2)];simp only[zAC,g1,g2,zDt,zBs,zAD,wn (show j≤1048576 by omega)]
  ·have g1:out.length+1≤9223372036854775807:=by omega
   have g2:(out.length+1)*56≤140737488355328:=by omega
   rw[if_neg (fun h=>h0 (by omega))];simp only[h0,zDf,zAI,zAC,g1,g2,zDt,zBs,zAD,wn (show j≤1048576 by omega)]
def q104 {p:List Cst}(m:Mth)(hfl:i1 m.1)(hb:¬ has m.1 8→zBb p m)(h120:m.2.2.2.2.2.1.length≤120)(ht:m.2.2.2.2.2.2.1.length≤1000)(hf:m.2.2.2.2.2.2.2.length≤1000)(hk:∀ f∈m.2.2.2.2.2.2.2,f.2.1.length≤1000∧f.2.2.length≤1000) :
  F104 m=some (if has m.1 8 then m else tidM m):=by
 obtain⟨m0,m1,m2,m3,m4,code,traps,frames⟩:=m;simp only at h120 ht hf hfl hb hk;by_cases hh:has m0 8
 ·simp only[F104,q108 hfl.1 hfl.2 (show(1:Int)≤8 by omega),zAB,decide_eq_true hh,zAJ,if_pos hh]
 simp only[F104,q108 hfl.1 hfl.2 (show(1:Int)≤8 by omega),zAB,decide_eq_false hh,zAI]
 rw[if_neg hh];obtain⟨ho,-,-,hin,htr,hfr⟩:=hb hh;simp only at ho hin htr;obtain⟨hne,hg,hp,hend⟩:=zJv ho;have hV:=q193 code (by omega);have eT:tidM (m0,m1,m2,m3,m4,code,traps,frames)=(m0,m1,m2,m3,m4,enc (tidL (opsV code).1),tidT (opsV code).1 traps,tidF (opsV code).1 frames):=rfl;rw[eT,hV];have hlen:=zEu code;have hV2:opsV code=((opsV code).1,(opsV code).2):=rfl;rw[hV2];generalize (opsV code).2=ok;generalize (opsV code).1=l at *;have hg0:∀x∈l,0≤argN x.2.1:=fun x hx=>(hg x hx).1
 have hK:=zGd 0 0 l hg0;have tg:=zJH hg (by omega);have z198:=q198 l hg0 hp (by omega);have z199:=q199 m0 m1 m2 m3 m4 code traps frames l hg0 hp (by omega) hf hk;simp only[zAB,q196 l hg0 hp (by omega)]
 generalize (mapP 0 l).map (fun q=>q.2)=T at z198 z199
 refine(zBh (fun i=>(l,T,endK 0 l,oldK l i,(i:Int),(m0,m1,m2,m3,m4,code,traps,frames),(0,0,0,0,0,[],[],[]),m0,m1,m2,m3,m4,code,traps,frames))
  (l,T,endK 0 l,oldK l l.length,(m0,m1,m2,m3,m4,code,traps,frames),(0,0,0,0,0,[],[],[]),m0,m1,m2,m3,m4,code,traps,frames) l.length rfl ?_ ?_).trans ?_
 ·simp only[zCL,zDf,zAI]
 ·intro i hi;have j1:(i:Int)<l.length:=by omega
  have hx:l.getD i (0,0,0)=l[i]:=by rw[List.getD_eq_getElem?_getD,zGe hi];rfl
  have hn:=q197 l i hi (by omega);have ho:=zNq l i;simp only[oldK,hx]
  generalize oldK l i=O at ho;have g1:O.length+1≤9223372036854775807:=by omega
  have g2:(O.length+1)*24≤140737488355328:=by omega
  simp only[j1,zDt,zAJ,zBs,zAD,hn,zAB,zNn,zTn,zAK hi,q107]
  by_cases c:l[i].2.1=0∧i+1<l.length
  ·rw[decide_eq_false (fun h=>h c),Bool.not_false,zAJ,if_pos c];simp only[zAC,wn (show i≤1048576 by omega)]
  ·rw[decide_eq_true c,Bool.not_true,zAI,if_neg c,zAG];by_cases c2:14≤l[i].2.1∧l[i].2.1≤18
   ·rw[if_pos c2];simp only[z198,zAB,g1,g2,zDt,zBs,zAD,zAC,wn (show i≤1048576 by omega),Stow.ren,if_pos c2]
   ·rw[if_neg c2];simp only[g1,g2,zDt,zBs,zAD,zAC,wn (show i≤1048576 by omega),Stow.ren,if_neg c2]
    try rfl
 have hs:(oldK l l.length).map (fun x=>x.2)=(tidL l).map (fun x=>x.2):=by
  have h1:=zTa l ((endO 0 l).toNat+1) l.length;obtain⟨-,h2,-⟩:=zJR (n:=(endO 0 l).toNat+1) hg0 hp (by omega) l.length (zLr _);rw[List.drop_length]at h2;simp only[kept,zAn]at h2;rw[h1,h2];rfl
 have q5:=q194 (oldK l l.length) (good_snd hs tg) (by have:=zNq l l.length;omega);rw[enc_snd hs]at q5;simp only[q5,zAB]
 refine(zBh (fun j=>(l,T,endK 0 l,(j:Int),(m0,m1,m2,m3,m4,code,traps,frames),(0,0,0,0,0,[],[],[]),m0,m1,m2,m3,m4,enc (tidL l),tidT l (traps.take j),frames))
  (l,T,endK 0 l,(m0,m1,m2,m3,m4,code,traps,frames),(0,0,0,0,0,[],[],[]),m0,m1,m2,m3,m4,enc (tidL l),tidT l traps,frames) traps.length rfl ?_ ?_).trans ?_
 ·simp only[zCL,zDf,zAI,List.take_length]
 ·intro j hj;have j1:(j:Int)<traps.length:=by omega
  have hle:=zVw l traps j;rw[zPI hj];simp only[j1,zDt,zAJ,zNn,zAD,zTn,zAK hj,z198,zAB,zAG]
  have em:mapT l traps[j]=(toP l traps[j].1,toP l traps[j].2.1,toP l traps[j].2.2.1,traps[j].2.2.2):=rfl;rw[em];generalize traps[j]=t;generalize tidT l (traps.take j)=out at hle;have g1:out.length+1≤9223372036854775807:=by omega
  have g2:(out.length+1)*32≤140737488355328:=by omega
  by_cases e:toP l t.1<toP l t.2.1
  ·rw[if_pos e,if_pos e];simp only[g1,g2,zDt,zBs,zAD,zAC,wn (show j≤1048576 by omega)]
  ·rw[if_neg e,if_neg e];simp only[zAC,wn (show j≤1048576 by omega),zAn]
 simp only[z199,zAB]
end
end Go.Proofs.YtdpapeledldifaaGreat
section
namespace Go.Stow
open Classical in
noncomputable def tidG (m:MthP):MthP:=if has m.1 8 then m else tidM m
def zSc (m:MthP):(tidG m).1=m.1∧(tidG m).2.1=m.2.1∧(tidG m).2.2.1=m.2.2.1:=by
 unfold tidG;split
 ·exact⟨rfl,rfl,rfl⟩
 ·exact⟨rfl,rfl,rfl⟩
def zIn {m:MthP}(h:has m.1 8):tidG m=m:=by unfold tidG;rw[if_pos h]
def zGw {m:MthP}(h:¬ has m.1 8):tidG m=tidM m:=by unfold tidG;rw[if_neg h]
end Go.Stow
namespace Go.Proofs.YtdpapeledldifaaGreat
open Go Go.AM Go.TM Go.Stow
def zJI (c:Cls):tidC c=(c.1,c.2.1,c.2.2.1,c.2.2.2.1,c.2.2.2.2.1,c.2.2.2.2.2.1,c.2.2.2.2.2.2.map tidG):=by
 unfold tidC;congr
def abs_mth' (l:List UInt8)(v:Mth)(r:List UInt8)(h:gMth l=some (v,r)):zFg v.1→v.2.2.2.1=0∧v.2.2.2.2.1=0∧v.2.2.2.2.2.1=[]∧v.2.2.2.2.2.2.1=[]∧v.2.2.2.2.2.2.2=[]:=by
 obtain⟨⟨f,l1⟩,h1,h⟩:=zAz h;obtain⟨⟨n,l2⟩,h2,h⟩:=zAz h;obtain⟨⟨d,l3⟩,h3,h⟩:=zAz h;simp only at h;unfold m3 at h;by_cases c:zFg f
 ·rw[if_pos c]at h;simp only[zSe,zPi]at h;obtain⟨rfl,-⟩:=h;exact fun _=>⟨rfl,rfl,rfl,rfl,rfl⟩
 ·rw[if_neg c]at h;obtain⟨⟨s,l4⟩,h4,h⟩:=zAz h;obtain⟨⟨lo,l5⟩,h5,h⟩:=zAz h;obtain⟨⟨k,l6⟩,h6,h⟩:=zAz h;simp only at h;unfold b5 at h;split at h
  ·cases h
  obtain⟨⟨code,l7⟩,h7,h⟩:=zAz h;obtain⟨⟨tr,l8⟩,h8,h⟩:=zAz h;obtain⟨⟨fr,l9⟩,h9,h⟩:=zAz h;simp only[zSe,zPi]at h;obtain⟨rfl,-⟩:=h;exact fun e=>absurd e c
def zUI {l:List UInt8}{c:Cls}{r:List UInt8}(h:gCls l=some (c,r)):∀m∈c.2.2.2.2.2.2,zFg m.1→m.2.2.2.1=0∧m.2.2.2.2.1=0∧m.2.2.2.2.2.1=[]∧m.2.2.2.2.2.2.1=[]∧m.2.2.2.2.2.2.2=[]:=by
 obtain⟨⟨t,l1⟩,h1,h⟩:=zAz h;simp only at h;unfold gc1 at h;split at h
 ·cases h
 obtain⟨⟨p,l2⟩,h2,h⟩:=zAz h;obtain⟨⟨f,l3⟩,h3,h⟩:=zAz h;obtain⟨⟨n,l4⟩,h4,h⟩:=zAz h;obtain⟨⟨s,l5⟩,h5,h⟩:=zAz h;obtain⟨⟨fa,l6⟩,h6,h⟩:=zAz h;obtain⟨⟨fi,l7⟩,h7,h⟩:=zAz h;obtain⟨⟨ms,l8⟩,h8,h⟩:=zAz h;simp only[zSe,zPi]at h;obtain⟨rfl,-⟩:=h;exact(zCb (P:=fun m:Mth=>zFg m.1→m.2.2.2.1=0∧m.2.2.2.2.1=0∧m.2.2.2.2.2.1=[]∧m.2.2.2.2.2.2.1=[]∧m.2.2.2.2.2.2.2=[]) abs_mth' h8).2
def tidC_ok {c:Cls}(hput:put c≠[])(h0:chkV c=0):put (tidC c)≠[]∧chkV (tidC c)=0∧tidC (tidC c)=tidC c:=by
 obtain⟨hf,h900,hgot⟩:=zTR hput;obtain⟨g1,g2,g3,g4,g5⟩:=zIx h0;have habs:=zUI hgot;have hpool:zKe c.1:=zWc.1 g1;have hceq:=zKV c hf;rw[zJI];obtain⟨c0,c1,c2,c3,c4,c5,ms⟩:=c;obtain⟨⟨k1,k2,k3,k4⟩,f1,f2,f3,f4,f5,f6,f7⟩:=hf;simp only at k1 k2 k3 k4 f1 f2 f3 f4 f5 f6 f7 habs hpool;have hbod:∀m∈ms,¬has m.1 8→zBb c0 m:=g5
 have hfit:∀m∈ms,fMth (tidG m)∧cMth (tidG m)∧(pMth tS abS (tidG m)).length≤(pMth tS abS m).length∧tidG (tidG m)=tidG m:=by
  intro m hm;have hm1:=f7 m hm;by_cases hh:has m.1 8
  ·rw[zIn hh];have ha:=habs m hm ((zKc hm1.1).2 hh);exact⟨hm1,⟨fun _=>ha,by rw[ha.2.2.2.2];simp⟩,zLr _,zIn hh⟩
  ·rw[zGw hh];have hb:=hbod m hm hh;obtain⟨a1,a2,a3⟩:=tidM_fit hm1 hb;have hh':¬has (tidM m).1 8:=hh;refine⟨a1,⟨fun hx=>absurd ((zKc a1.1).1 hx) hh',a2⟩,a3,?_⟩;rw[zGw hh'];exact(zNS hb (by have:=hm1.2.2.2.2.2.1;omega)).2.2.2.2.1
 have hf':fCls (c0,c1,c2,c3,c4,c5,ms.map tidG):=by
  refine⟨⟨k1,k2,k3,by simp only[zLm];exact k4⟩,f1,f2,f3,f4,f5,f6,fun m hm=>?_⟩;obtain⟨m',hm',rfl⟩:=List.mem_map.1 hm;exact(hfit m' hm').1
 have hrt:=rtCls hf' (fun e he=>by
  obtain⟨i,hi,rfl⟩:=List.mem_iff_getElem.1 he
  exact cEnt_ok (hpool i hi)) (fun m hm=>by
  obtain⟨m',hm',rfl⟩:=List.mem_map.1 hm
  exact(hfit m' hm').2.1)
 have hle:=pCls_le (c0:=c0) (c1:=c1) (c2:=c2) (c3:=c3) (c4:=c4) (c5:=c5) (ms:=ms) tidG fun m hm=>(hfit m hm).2.2.1
 have hceq':=zKV _ hf';refine⟨?_,?_,?_⟩
 ·rw[zRX ⟨hf',?_,?_⟩]
  ·unfold pCls;simp
  ·rw[←hceq'];rw[←hceq]at h900;exact Nat.le_trans hle h900
  ·rw[←hceq'];exact hrt
 ·have e:∀i,i<ms.length→(ms.map tidG).getD i mth0=tidG (ms.getD i mth0):=fun i hi=>getD_map hi
  refine zXi g1 g2 g3 ?_ ?_
  ·intro i hi;have hi:i<ms.length:=by simpa using hi
   have h:=g4 i hi;simp only[MthOk]at h ⊢;rw[e i hi];obtain⟨e1,e2,e3⟩:=zSc (ms.getD i mth0);obtain⟨a1,a2,a3,a4⟩:=h;rw[e2,e3];refine⟨a1,a2,?_,fun k hk=>?_⟩
   ·unfold zER at a3 ⊢;rw[e1,e2,e3];exact a3
   ·rw[e k (by omega)];obtain⟨_,d2,d3⟩:=zSc (ms.getD k mth0);rw[d2,d3];exact a4 k hk
  ·intro m hm hn;obtain⟨m',hm',rfl⟩:=List.mem_map.1 (show m∈ms.map tidG from hm);rw[(zSc m').1]at hn;rw[zGw hn];exact(zNS (hbod m' hm' hn) (by have:=(f7 m' hm').2.2.2.2.2.1;omega)).1
 ·rw[zJI];simp only[List.map_map]
  congr 6;exact List.map_congr_left fun m hm=>(hfit m hm).2.2.2
def q38 (c:Cls)(hb:bCls c):F38 c=some (if put c≠[]∧chkV c=0 then tidC c else([],0,0,0,[],[],[])):=by
 have c29:=chk29 c hb;have h92:=j92 c hb;by_cases hput:put c=[]
 ·rw[if_pos hput]at c29;rw[if_neg (fun h=>h.1 hput)];obtain⟨c0,c1,c2,c3,c4,c5,ms⟩:=c;simp only[F38,c29,zAB,show ¬((1:Int)=0)by omega,zDf,Bool.not_false,zAJ]
 rw[if_neg hput]at c29;by_cases h0:chkV c=0
 ·rw[if_pos ⟨hput,h0⟩,zJI];rw[h0]at c29;have hf:=zFa hput;have hbod:=(zIx h0).2.2.2.2;obtain⟨c0,c1,c2,c3,c4,c5,ms⟩:=c;have f7:∀m∈ms,fMth m:=hf.2.2.2.2.2.2.2;have hlen:ms.length≤6:=hf.1.2.2.2;have hbod:∀m∈ms,¬has m.1 8→zBb c0 m:=hbod;simp only[F38,c29,zAB,zDt,Bool.not_true,zAI,h92]
  refine(zNY (fun j a=>((ms.length:Int),(j:Int),([],0,0,0,[],[],[]),(c0,c1,c2,c3,c4,c5),a)) (fun a=>(([],0,0,0,[],[],[]),c0,c1,c2,c3,c4,c5,a)) tidG ms rfl (by omega) ?_ ?_).trans rfl
  ·intro a ha;simp only[ha,zIl,zDf,zAI]
  ·intro a x b hx hab;have j1:(a.length:Int)<(ms.length:Int):=by omega
   have j2:(a.length:Int)<((a++x::b).length:Int):=by simp only[zLa,zLc];omega
   have hx1:=f7 x hx;simp only[j1,j2,zDt,zAJ,zNn,zBs,zAD,zTn,zSG,p86,zAB,zAS]
   by_cases hh:has x.1 8
   ·have ha:abI x.1=true:=by rw[←zXx _ hx1.1];exact(zOe hx1.1.1 hx1.1.2).2 ((zKc hx1.1).2 hh)
    rw[ha,Bool.not_true,zAI,zIn hh];simp only[zAC,wn (show a.length≤1048576 by omega)]
   ·have ha:abI x.1=false:=by
     rw[←zXx _ hx1.1];exact Bool.eq_false_iff.2 fun h=>hh ((zKc hx1.1).1 ((zOe hx1.1.1 hx1.1.2).1 h))
    rw[ha,Bool.not_false,zAJ,zGw hh];have q:=q103 x (hbod x hx hh) hx1.2.2.2.2.2.1 (by have:=hx1.2.2.2.2.2.2.1.1;omega) (by have:=hx1.2.2.2.2.2.2.2.1;omega);have q':F103 (x.1,x.2.1,x.2.2.1,x.2.2.2.1,x.2.2.2.2.1,x.2.2.2.2.2.1,x.2.2.2.2.2.2.1,x.2.2.2.2.2.2.2)=some (tidM x):=q;simp only[q',zAB,zRQ,zAC,wn (show a.length≤1048576 by omega)]
 ·rw[if_neg (fun h=>h0 h.2)];obtain⟨c0,c1,c2,c3,c4,c5,ms⟩:=c;simp only[F38,c29,zAB,h0,zDf,Bool.not_false,zAJ]
def q39 (c:Cls)(hb:bCls c):F39 c=some (if put c≠[]∧chkV c=0 then tidC c else([],0,0,0,[],[],[])):=by
 have c30:=chk30 c hb;have h93:=j93 c hb;by_cases hput:put c=[]
 ·rw[if_pos hput]at c30;rw[if_neg (fun h=>h.1 hput)];obtain⟨c0,c1,c2,c3,c4,c5,ms⟩:=c;simp only[F39,c30,zAB,show ¬((1:Int)=0)by omega,zDf,Bool.not_false,zAJ]
 rw[if_neg hput]at c30;by_cases h0:chkV c=0
 ·rw[if_pos ⟨hput,h0⟩,zJI];rw[h0]at c30;have hf:=zFa hput;have hbod:=(zIx h0).2.2.2.2;obtain⟨c0,c1,c2,c3,c4,c5,ms⟩:=c;have f7:∀m∈ms,fMth m:=hf.2.2.2.2.2.2.2;have hlen:ms.length≤6:=hf.1.2.2.2;have hbod:∀m∈ms,¬has m.1 8→zBb c0 m:=hbod;simp only[F39,c30,zAB,zDt,Bool.not_true,zAI,h93]
  refine(zNY (fun j a=>((j:Int),([],0,0,0,[],[],[]),c0,c1,c2,c3,c4,c5,a)) (fun a=>(([],0,0,0,[],[],[]),c0,c1,c2,c3,c4,c5,a)) tidG ms rfl (by omega) ?_ ?_).trans rfl
  ·intro a ha;simp only[zCL,zDf,zAI]
  ·intro a x b hx hab;have j2:(a.length:Int)<((a++x::b).length:Int):=by simp only[zLa,zLc];omega
   have hx1:=f7 x hx
   have q:=q104 (p:=c0) x hx1.1 (hbod x hx) hx1.2.2.2.2.2.1 (by have:=hx1.2.2.2.2.2.2.1.1;omega) (by have:=hx1.2.2.2.2.2.2.2.1;omega) (fun f hf=>by
    obtain⟨_,h2,h3⟩:=hx1.2.2.2.2.2.2.2.2 f hf
    exact⟨by have:=h2.1;omega,by have:=h3.1;omega⟩)
   have eg:(if has x.1 8 then x else tidM x)=tidG x:=by unfold tidG;congr
   rw[eg]at q;have q':F104 (x.1,x.2.1,x.2.2.1,x.2.2.2.1,x.2.2.2.2.1,x.2.2.2.2.2.1,x.2.2.2.2.2.2.1,x.2.2.2.2.2.2.2)=some (tidG x):=q;simp only[j2,zDt,zAJ,zNn,zBs,zAD,zTn,zSG,q',zAB,zAS,zRQ,wn (show a.length≤1048576 by omega)]
 ·rw[if_neg (fun h=>h0 h.2)];obtain⟨c0,c1,c2,c3,c4,c5,ms⟩:=c;simp only[F39,c30,zAB,h0,zDf,Bool.not_false,zAJ]
end Go.Proofs.YtdpapeledldifaaGreat
end
namespace Go.Proofs.YtdpapeledldifaaGreat
section
open Go Go.AM Go.TM
def Rd (c:Nat)(r:List UInt8×Int):Prop:=r.1.length≤2000∧0≤r.2∧r.2≤c
def Rd.mono {c d:Nat}{r:List UInt8×Int}(h:Rd c r)(hc:c≤d):Rd d r:=⟨h.1,h.2.1,by have:=h.2.2;omega⟩
def zQn {a b:Int}(ha:0≤a)(ha':a<9223372036854775808)(hb:0≤b)(hb':b<9223372036854775808):0≤xorI .i64 a b:=by
 unfold xorI
 have e:∀{x:Int},0≤x→x<9223372036854775808→(BitVec.ofInt 64 x).toNat=x.toNat:=by
  intro x h0 h1;rw[BitVec.toNat_ofInt];show(x % ((2^64:Nat):Int)).toNat=_;rw[Int.emod_eq_of_lt h0 (by omega)]
 show 0≤IntKind.wrap .i64 ((BitVec.ofInt 64 a ^^^ BitVec.ofInt 64 b).toNat:Int);rw[BitVec.toNat_xor,e ha ha',e hb hb'];have h:=Nat.xor_lt_two_pow (n:=63) (show a.toNat<2^63 by omega) (show b.toNat<2^63 by omega);rw[wrapI (by omega) (by omega)];omega
def zIm {a n:Int}(ha:0≤a)(hn:1≤n):0≤Int.tmod a n∧Int.tmod a n<n:=by
 rw[Int.tmod_eq_emod_of_nonneg ha];exact⟨Int.emod_nonneg _ (by omega),Int.emod_lt_of_pos _ (by omega)⟩
def zSi {a n:Int}(ha:0≤a)(hn:1≤n):0≤Int.tdiv a n∧Int.tdiv a n≤a:=by
 rw[Int.tdiv_eq_ediv_of_nonneg ha];exact⟨Int.ediv_nonneg ha (by omega),Int.ediv_le_self _ ha⟩
def zOa (x:UInt8):(0:Int)≤(x.toNat:Int)∧(x.toNat:Int)≤255:=by
 have:=x.toNat_lt;omega
def t51 {n:Int}{r:List UInt8×Int}{c:Nat}(h:Rd c r)(hc:c≤1000000):Tot (F51 (n,r)) fun y=>0≤y.1∧(1≤n→y.1<n)∧(n<1→y.1=0)∧Rd (c+1) y.2:=by
 obtain⟨b,p⟩:=r;obtain⟨hb,h0,h1⟩:=h;simp only at hb h0 h1;have hR:Rd (c+1) (b,p+1):=⟨hb,by show(0:Int)≤p+1;omega,by show p+1≤((c+1:Nat):Int);omega⟩
 unfold F51;simp only[show IntKind.wrap .i64 (p+1)=p+1 from wrapI (by omega) (by omega)]
 refine Tot.bindE (fun y=>y=(n,b,p+1)∧1≤n∧b≠[]) ?_ ?_
 ·refine Tot.cnd (fun hn=>?_) (fun hn=>?_)
  ·simp only[zDe]at hn;exact Tot.ret ⟨by simp,fun h=>absurd h (by omega),fun _=>rfl,hR⟩
  ·simp only[zDn]at hn;refine Tot.cnd (fun hb=>?_) (fun hb=>?_)
   ·exact Tot.ret ⟨by simp,fun h=>by show(0:Int)<n;omega,fun _=>rfl,hR⟩
   ·simp only[zDn]at hb;exact Tot.ret ⟨rfl,by omega,fun e=>hb (by rw[e];rfl)⟩
 ·rintro _ ⟨rfl,hn,hne⟩;have hl:1≤b.length:=by cases b;exact absurd rfl hne;simp
  simp only[show IntKind.wrap .i64 (p+1-1)=p by rw[show p+1-1=p by omega];exact wrapI (by omega) (by omega)]
  have hnz:(!decide (n=0))=true:=by simp;omega
  have hlz:(!decide (((b.length:Nat):Int)=0))=true:=by simp;omega
  refine Tot.cnd (fun hk=>?_) (fun hk=>?_)
  ·simp only[zDe]at hk;refine Tot.grd (by simpa using h0) (Tot.at (by omega) fun x hx=>Tot.grd hnz ?_);have hx:=zOa x;have hw:IntKind.wrap .i64 ((x.toNat:Nat):Int)=x.toNat:=wrapI (by omega) (by omega);rw[hw];have:=zIm (n:=n) hx.1 hn;exact Tot.ret ⟨this.1,fun _=>this.2,fun h=>absurd h (by omega),hR⟩
  ·have hm1:=zIm (a:=p) (n:=(b.length:Int)) h0 (by omega)
   have w7:IntKind.wrap .i64 (IntKind.wrap .i64 (p*7)+3)=p*7+3:=by
    rw[wrapI (x:=p*7) (by omega) (by omega),wrapI (by omega) (by omega)]
   simp only[w7]
   have hm2:=zIm (a:=p*7+3) (n:=(b.length:Int)) (by omega) (by omega);refine Tot.grd hlz (Tot.grd (by simpa using hm1.1) (Tot.at (by omega) fun x hx=>Tot.grd hlz (Tot.grd (by simpa using hm2.1) (Tot.at (by omega) fun x1 hx1=>Tot.grd hlz (Tot.grd hnz ?_)))));have hx:=zOa x;have hx1:=zOa x1;have hd:=zSi (a:=p) (n:=(b.length:Int)) h0 (by omega);generalize (x.toNat:Int)=u at hx ⊢;generalize (x1.toNat:Int)=v at hx1 ⊢;generalize Int.tdiv p (b.length:Int)=d at hd ⊢
   have e:IntKind.wrap .i64 (IntKind.wrap .i64 (IntKind.wrap .i64 (IntKind.wrap .i64 (IntKind.wrap .i64 u*131)+IntKind.wrap .i64 (IntKind.wrap .i64 v*1117))+IntKind.wrap .i64 (p*29))+IntKind.wrap .i64 (IntKind.wrap .i64 d*53))=u*131+v*1117+p*29+d*53:=by
    rw[wrapI (x:=u) (by omega) (by omega),wrapI (x:=v) (by omega) (by omega),wrapI (x:=d) (by omega) (by omega),wrapI (x:=u*131) (by omega) (by omega),wrapI (x:=v*1117) (by omega) (by omega),wrapI (x:=p*29) (by omega) (by omega),wrapI (x:=d*53) (by omega) (by omega),wrapI (x:=u*131+v*1117) (by omega) (by omega),wrapI (x:=u*131+v*1117+p*29) (by omega) (by omega),wrapI (by omega) (by omega)]
   simp only[e]
   generalize ht:u*131+v*1117+p*29+d*53=t;have h64:=zSi (a:=t) (n:=64) (by omega) (by omega);rw[wrapI (x:=Int.tdiv t 64) (by omega) (by omega)];have hxo:=zQn (a:=t) (b:=Int.tdiv t 64) (by omega) (by omega) (by omega) (by omega);have:=zIm (n:=n) hxo hn;exact Tot.ret ⟨this.1,fun _=>this.2,fun h=>absurd h (by omega),hR⟩
def tot_of {α:Type}{F:List α×List UInt8×Int→Option (α×List UInt8×Int)}(hF:∀ l r,F (l,r)=zAA (F51 (((l.length:Nat):Int),r)) fun y=>grdO (decide (0≤y.1)) (atO l y.1.toNat fun x=>some (x,y.2)))
  {l:List α} {r:List UInt8×Int} {c:Nat} (h:Rd c r) (hc:c≤1000000) (hl:l≠[]):Tot (F (l,r)) fun y=>y.1∈l∧Rd (c+1) y.2:=by
 rw[hF];have hl:1≤l.length:=by cases l;exact absurd rfl hl;simp
 refine Tot.bind (t51 h hc) fun y hy=>?_
 have:=hy.2.1 (by omega);refine Tot.grd (by simpa using hy.1) (Tot.at (by omega) fun x hx=>Tot.ret ⟨zMg hx,hy.2.2.2⟩)
def t105 {l:List Int}{r:List UInt8×Int}{c:Nat}(h:Rd c r)(hc:c≤1000000)(hl:l≠[]):Tot (F105 (l,r)) fun y=>y.1∈l∧Rd (c+1) y.2 :=
 tot_of (fun l r=>rfl) h hc hl
def t119 {l:List (List UInt8)}{r:List UInt8×Int}{c:Nat}(h:Rd c r)(hc:c≤1000000)(hl:l≠[]):Tot (F119 (l,r)) fun y=>y.1∈l∧Rd (c+1) y.2 :=
 tot_of (fun l r=>rfl) h hc hl
def t49 (code:List UInt8):Tot (F49 code) (Rd 0):=by
 unfold F49;refine Tot.cnd (fun h=>?_) (fun h=>?_)
 ·simp only[zDe]at h;refine Tot.grd (by simp;omega) (Tot.ret ⟨?_,by simp,by simp⟩);simp only[List.drop_zero,zLt];omega
 ·simp only[zDn]at h;exact Tot.ret ⟨by simp only;omega,by simp,by simp⟩
def zGl (n:Int) : -9223372036854775808≤IntKind.wrap .i64 n∧IntKind.wrap .i64 n≤9223372036854775807:=by
 simp only[IntKind.wrap,IntKind.bits,IntKind.signed]
 simp;split<;>omega
def wrap8' (n:Int):0≤IntKind.wrap .u8 n∧IntKind.wrap .u8 n≤255:=by
 have h:IntKind.wrap .u8 n=n % 256:=by simp[IntKind.wrap,IntKind.bits,IntKind.signed]
 rw[h];omega
def u8ok (n:Int):(decide ((0:Int)≤IntKind.wrap .u8 n)&&decide (IntKind.wrap .u8 n≤(255:Int)))=true:=by
 have:=wrap8' n;simp[this.1,this.2]
def d274:∀(k:Nat) (n:Int),n≤9223372036854775807→0≤n→n<10^(k+1)→k≤30→Tot (G274 (k+1) n) fun s=>s.length≤k+1
 | 0,n,_,h0,h1,_=>by
   show Tot (H274 (G274 0) n) _;unfold H274;refine Tot.cnd (fun h=>?_) (fun _=>Tot.cnd (fun h=>?_) (fun _=>Tot.cnd (fun _=>Tot.grd (u8ok _) (Tot.ret (by simp))) (fun h=>?_)))
   ·simp only[zDe]at h;omega
   ·simp only[zDe]at h;omega
   ·simp only[zDn]at h;omega
 | k+1,n,hm,h0,h1,hk=>by
   show Tot (H274 (G274 (k+1)) n) _;unfold H274;refine Tot.cnd (fun h=>?_) (fun _=>Tot.cnd (fun h=>?_) (fun _=>Tot.cnd (fun _=>Tot.grd (u8ok _) (Tot.ret (by simp))) (fun h=>?_)))
   ·simp only[zDe]at h;omega
   ·simp only[zDe]at h;omega
   ·simp only[zDn]at h;have hp:(10:Int)^(k+1+1)=10^(k+1)*10:=Int.pow_succ _ _;have hd:Int.tdiv n 10=n / 10:=Int.tdiv_eq_ediv_of_nonneg h0;have hlt:n / 10<10^(k+1):=by omega
    have hw:IntKind.wrap .i64 (Int.tdiv n 10)=n / 10:=by rw[hd];exact wrapI (by omega) (by omega)
    obtain⟨y,e,hy⟩:=d274 k (n / 10) (by omega) (by omega) hlt (by omega);rw[hw,e];simp only[zAB,zDt,zAD,zAS,u8ok]
    have hl:decide (y.length+1≤9223372036854775807)=true:=by simp only[zDe];omega
    simp only[hl,zAD,zCg]
    exact Tot.ret (by simp only[zLa,zLc,zLn];omega)
def t274 {n:Int}(h1 : -9223372036854775808≤n)(h2:n≤9223372036854775807):Tot (F274 n) fun s=>s.length≤25:=by
 have p23:(10:Int)^23=100000000000000000000000:=by decide
 have p24:(10:Int)^24=1000000000000000000000000:=by decide
 by_cases h0:0≤n
 ·exact(d274 23 n h2 h0 (by omega) (by omega)).mono fun s h=>by omega
 ·show Tot (H274 (G274 23) n) _;unfold H274;refine Tot.cnd (fun h=>Tot.ret (by simp)) (fun h=>Tot.cnd (fun _=>?_) (fun h=>?_))
  ·simp only[zDn]at h;rw[wrapI (x:=0-n) (by omega) (by omega)];refine Tot.bind (d274 22 (0-n) (by omega) (by omega) (by omega) (by omega)) fun y hy=>Tot.grd (by simp only[zDe];omega) (Tot.ret ?_)
   simp only[zLa,zLc,zLn];omega
  ·simp only[zDn]at h;omega
def t301 {list:List (List UInt8)}{s:List UInt8}(hl:list.length≤1000000000000):Tot (F301 (list,s)) fun _=>True:=by
 unfold F301;refine Tot.bindE (fun _=>True) (Tot.loop (fun x=>x.1=list∧0≤x.2.2∧x.2.2≤(list.length:Int)) (fun x=>list.length-x.2.2.toNat) ?_ ⟨rfl,by simp,by simp⟩) (fun _ _=>Tot.ret trivial);rintro⟨l,s,i⟩ ⟨rfl,h0,h1⟩;simp only at hl;refine Tot.cnd (fun h=>?_) (fun h=>Tot.ret trivial);simp only[zDe]at h;simp only at h0 h1;refine Tot.grd (by simpa using h0) (Tot.at (by omega) fun x _=>Tot.cnd (fun _=>Tot.ret trivial) fun _=>Tot.ret ?_);simp only[Sum.elim_inl,true_and]
 rw[wrapI (by omega) (by omega)];omega
def t107 (a b c:Int):Tot (F107 (a,b,c)) fun _=>True:=by
 unfold F107;exact Tot.cnd (fun _=>Tot.ret trivial) fun _=>Tot.ret trivial
def t251 (n:Int):Tot (F251 n) fun _=>True:=by
 unfold F251;refine Tot.bindE (fun _=>True) ?_ fun y _=>?_
 ·exact Tot.cnd (fun _=>Tot.ret trivial) fun _=>Tot.cnd (fun _=>Tot.ret trivial) fun _=>Tot.cnd (fun _=>Tot.ret trivial) fun _=>Tot.cnd (fun _=>Tot.ret trivial) fun _=>Tot.cnd (fun _=>Tot.ret trivial) fun _=>Tot.ret trivial
 ·refine Tot.bind (t107 _ _ _) fun y _=>Tot.cnd (fun _=>Tot.ret trivial) fun _=>Tot.bind (t107 _ _ _) fun y _=>Tot.cnd (fun _=>Tot.ret trivial) fun _=>Tot.bind (t107 _ _ _) fun y _=>Tot.cnd (fun _=>Tot.ret trivial) fun _=>Tot.ret trivial
def t278 {s:List UInt8}{b most:Int}(hs:s.length≤1000000000000)(hm:0≤most) :
  Tot (F278 (s,b,most)) fun out=>1≤out.length∧out.length≤s.length+1∧(out.length:Int)≤most+1∧∀x∈out,x.length≤s.length:=by
 unfold F278
 refine Tot.bindE (fun y=>y.1=s∧y.2.1.length≤s.length∧(y.2.1.length:Int)≤most∧(∀x∈y.2.1,x.length≤s.length)∧0≤y.2.2∧y.2.2≤(s.length:Int))
  (Tot.loop (fun x=>x.1=s∧x.2.2.1=most∧(∀z∈x.2.2.2.1,z.length≤s.length)∧(x.2.2.2.1.length:Int)≤most∧(x.2.2.2.1.length:Int)≤x.2.2.2.2.2∧0≤x.2.2.2.2.1∧x.2.2.2.2.1≤x.2.2.2.2.2∧x.2.2.2.2.2≤(s.length:Int)) (fun x=>s.length-x.2.2.2.2.2.toNat) ?_ ⟨rfl,rfl,by simp,by simpa using hm,by simp,by simp,by simp,by simp⟩) ?_
 ·rintro⟨s1,b1,m1,out,fr,i⟩ ⟨rfl,rfl,h1,h2,h3,h4,h5,h6⟩;simp only at h1 h2 h3 h4 h5 h6 hs;refine Tot.bindE (fun y=>y=(s1,b1,m1,out,fr,i)∧i<(s1.length:Int)∧(out.length:Int)<m1) ?_ ?_
  ·refine Tot.cnd (fun h=>Tot.cnd (fun g=>?_) fun _=>?_) fun _=>?_
   ·simp only[zDe]at h g;exact Tot.ret ⟨rfl,h,g⟩
   ·exact Tot.ret ⟨rfl,by simp only;omega,h2,h1,h4,by simp only;omega⟩
   ·exact Tot.ret ⟨rfl,by simp only;omega,h2,h1,h4,by simp only;omega⟩
  ·rintro _ ⟨rfl,g1,g2⟩;refine Tot.bindE (fun y=>y.1=s1∧y.2.2.1=m1∧(∀z∈y.2.2.2.1,z.length≤s1.length)∧(y.2.2.2.1.length:Int)≤m1∧(y.2.2.2.1.length:Int)≤i+1∧0≤y.2.2.2.2.1∧y.2.2.2.2.1≤i+1∧y.2.2.2.2.2=i) ?_ ?_
   ·refine Tot.grd (by simp only[zDe];omega) (Tot.at (by omega) fun x _=>Tot.cnd (fun _=>?_) fun _=>?_)
    ·refine Tot.grd (by simp only[zBa,zDe];omega) (Tot.grd (by simp only[zBa,zDe];omega) (Tot.ret ⟨rfl,rfl,?_,?_,?_,?_,?_,rfl⟩))
     ·intro z hz;simp only[List.mem_append,List.mem_singleton]at hz;rcases hz with hz|rfl
      ·exact h1 z hz
      ·simp only[zLd,zLt];omega
     ·simp only[zLa,zLc,zLn];omega
     ·simp only[zLa,zLc,zLn];omega
     ·simp only;rw[wrapI (by omega) (by omega)];omega
     ·simp only;rw[wrapI (by omega) (by omega)];omega
    ·exact Tot.ret ⟨rfl,rfl,h1,h2,by simp only;omega,h4,by simp only;omega,rfl⟩
   ·rintro⟨s2,b2,m2,out2,fr2,i2⟩ ⟨rfl,rfl,k1,k2,k3,k4,k5,rfl⟩;simp only at k1 k2 k3 k4 k5 hs g1 g2 h4 h5;have hw:IntKind.wrap .i64 (i2+1)=i2+1:=wrapI (by omega) (by omega);refine Tot.ret ⟨⟨rfl,rfl,k1,k2,?_,k4,?_,?_⟩,?_⟩<;>(simp only;rw[hw];omega)
 ·rintro⟨s1,out,fr⟩ ⟨rfl,h1,h2,h3,h4,h5⟩;simp only at h1 h2 h3 h4 h5 hs;refine Tot.grd (by simp only[zBa,zDe];omega) (Tot.grd (by simp only[zBa,zDe];omega) (Tot.ret ⟨?_,?_,?_,?_⟩))
  ·simp
  ·simp only[zLa,zLc,zLn];omega
  ·simp only[zLa,zLc,zLn];omega
  ·intro z hz;simp only[List.mem_append,List.mem_singleton]at hz;rcases hz with hz|rfl
   ·exact h3 z hz
   ·simp only[zLd,zLt];omega
end
section
open Go Go.AM Go.TM
set_option maxRecDepth 10000
def Gt (K:Nat)(g:List UInt8×List UInt8×List UInt8×Int×List UInt8):Prop :=
 g.1.length≤K∧g.2.1.length≤K∧g.2.2.1.length≤K∧((-9223372036854775808:Int)≤g.2.2.2.1∧g.2.2.2.1≤(9223372036854775807:Int))∧g.2.2.2.2.length≤3
def Gt.mono {K L:Nat}{g:List UInt8×List UInt8×List UInt8×Int×List UInt8}(h:Gt K g)(hc:K≤L):Gt L g :=
 ⟨Nat.le_trans h.1 hc,Nat.le_trans h.2.1 hc,Nat.le_trans h.2.2.1 hc,h.2.2.2.1,h.2.2.2.2⟩
def zDL {m:Nat}{l:List (List UInt8)}{r:List UInt8×Int}{c:Nat}(h:Rd c r)(hc:c≤1000000)(hl:l≠[])(hm:∀ x∈l,x.length≤m):Tot (F119 (l,r)) fun y=>y.1.length≤m∧Rd (c+1) y.2 :=
 (t119 h hc hl).mono fun y hy=>⟨hm _ hy.1,hy.2⟩
def zWF {m:Int}{l:List Int}{r:List UInt8×Int}{c:Nat}(h:Rd c r)(hc:c≤1000000)(hl:l≠[])(hm:∀ x∈l,-m≤x∧x≤m):Tot (F105 (l,r)) fun y=>-m≤y.1∧y.1≤m∧Rd (c+1) y.2 :=
 (t105 h hc hl).mono fun y hy=>⟨(hm _ hy.1).1,(hm _ hy.1).2,hy.2⟩
def t273 {s:List UInt8}{g:List UInt8×List UInt8×List UInt8×Int×List UInt8}{r:List UInt8×Int}{K:Nat}{c:Nat}(hs:List.length s≤100)(hg:Gt K g)(hr:Rd c r)(hK:K≤950000)(hc:c≤950000):Tot (F273 (s,g,r)) fun y=>Gt (K+110) y.1∧Rd (c+0) y.2:=by
 obtain⟨o1,o2,o3,o4,o5⟩:=g;have ko1:List.length o1≤K+0:=hg.1;have ko2:List.length o2≤K+0:=hg.2.1;have ko3:List.length o3≤K+0:=hg.2.2.1;have ko5:List.length o5≤3:=hg.2.2.2.2;obtain⟨o0,o11⟩:=r;unfold F273;refine Tot.grd (by simp<;>omega) ?_;refine Tot.grd (by simp<;>omega) ?_;refine Tot.grd (by simp<;>omega) ?_;refine Tot.bind (P:=fun y=>y.length≤100) (Tot.ret (by decide)) ?_;intro y ky;refine Tot.seq (by repeat first|exact Tot.ret trivial|refine Tot.seq ?_ ?_|refine Tot.grd (by first|decide|simp<;>omega) ?_) ?_;refine Tot.bind (t278 (by omega) (by omega)) ?_;intro y1 ky1;refine Tot.seq (by repeat first|exact Tot.ret trivial|refine Tot.seq ?_ ?_|refine Tot.grd (by first|decide|simp<;>omega) ?_) ?_;refine Tot.at (by omega) fun x _=>?_
 refine Tot.bind (t301 (by omega)) ?_;intro y2 _;refine Tot.seq (by repeat first|exact Tot.ret trivial|refine Tot.seq ?_ ?_|refine Tot.grd (by first|decide|simp<;>omega) ?_) ?_;refine Tot.bind (t251 _) ?_;intro y3 _;refine Tot.seq (by repeat first|exact Tot.ret trivial|refine Tot.seq ?_ ?_|refine Tot.grd (by first|decide|simp<;>omega) ?_) ?_;exact Tot.ret ⟨⟨(by show List.length _≤_;first|omega|simp<;>omega),(by show List.length _≤_;first|omega|simp<;>omega),(by show List.length _≤_;first|omega|simp<;>omega),(zGl _),(by show List.length _≤_;first|omega|simp<;>omega)⟩,hr.mono (by omega)⟩
def t277 {g:List UInt8×List UInt8×List UInt8×Int×List UInt8}{r:List UInt8×Int}{K:Nat}{c:Nat}(hg:Gt K g)(hr:Rd c r)(hK:K≤950000)(hc:c≤950000):Tot (F277 (g,r)) fun y=>List.length y.1≤25∧Gt (K+0) y.2.1∧Rd (c+1) y.2.2:=by
 obtain⟨o1,o2,o3,o4,o5⟩:=g;obtain⟨o0,o11⟩:=r;unfold F277;refine Tot.bind (t51 hr (by omega)) ?_;rintro⟨y,y1,y2⟩ ⟨(a2:(0:Int)≤y),(b3:(1:Int)≤(3:Int)→y<(3:Int)),-,hr1⟩;refine Tot.bind (t274 (by omega) (by omega)) ?_;intro y3 (ky3:List.length y3≤25);exact Tot.ret ⟨(by first|omega|simp<;>omega),hg.mono (by omega),hr1.mono (by omega)⟩
def t308 {g:List UInt8×List UInt8×List UInt8×Int×List UInt8}{r:List UInt8×Int}{K:Nat}{c:Nat}(hg:Gt K g)(hr:Rd c r)(hK:K≤950000)(hc:c≤950000):Tot (F308 (g,r)) fun y=>List.length y.1≤20∧Gt (K+0) y.2.1∧Rd (c+0) y.2.2:=by
 obtain⟨o1,o2,o3,o4,o5⟩:=g;have ko1:List.length o1≤K+0:=hg.1;have ko2:List.length o2≤K+0:=hg.2.1;have ko3:List.length o3≤K+0:=hg.2.2.1;have ko5:List.length o5≤3:=hg.2.2.2.2;obtain⟨o0,o11⟩:=r;unfold F308;refine Tot.grd (by simp<;>omega) ?_;refine Tot.grd (by simp<;>omega) ?_;refine Tot.grd (by simp<;>omega) ?_;refine Tot.grd (by simp<;>omega) ?_;exact Tot.ret ⟨(by first|omega|simp<;>omega),hg.mono (by omega),hr.mono (by omega)⟩
def t307 {locals:List UInt8}{stack:List UInt8}{g:List UInt8×List UInt8×List UInt8×Int×List UInt8}{r:List UInt8×Int}{K:Nat}{c:Nat}(hlocals:List.length locals≤20)(hstack:List.length stack≤20)(hg:Gt K g)(hr:Rd c r)(hK:K≤950000)(hc:c≤950000):Tot (F307 (locals,stack,g,r)) fun y=>Gt (K+110) y.1∧Rd (c+0) y.2:=by
 obtain⟨o1,o2,o3,o4,o5⟩:=g;have ko1:List.length o1≤K+0:=hg.1;have ko2:List.length o2≤K+0:=hg.2.1;have ko3:List.length o3≤K+0:=hg.2.2.1;have ko5:List.length o5≤3:=hg.2.2.2.2;obtain⟨o0,o11⟩:=r;unfold F307;refine Tot.grd (by simp<;>omega) ?_;refine Tot.bind (t274 hg.2.2.2.1.1 hg.2.2.2.1.2) ?_;intro y (ky:List.length y≤25);refine Tot.seq (by repeat first|exact Tot.ret trivial|refine Tot.seq ?_ ?_|refine Tot.grd (by first|decide|simp<;>omega) ?_) ?_;refine Tot.grd (by simp<;>omega) ?_;refine Tot.grd (by simp<;>omega) ?_;refine Tot.grd (by simp<;>omega) ?_;refine Tot.grd (by simp<;>omega) ?_;refine Tot.grd (by simp<;>omega) ?_;refine Tot.grd (by simp<;>omega) ?_;exact Tot.ret ⟨⟨(by show List.length _≤_;first|omega|simp<;>omega),(by show List.length _≤_;first|omega|simp<;>omega),(by show List.length _≤_;first|omega|simp<;>omega),⟨hg.2.2.2.1.1,hg.2.2.2.1.2⟩,(by show List.length _≤_;first|omega|simp<;>omega)⟩,hr.mono (by omega)⟩
def t303 {g:List UInt8×List UInt8×List UInt8×Int×List UInt8}{r:List UInt8×Int}{K:Nat}{c:Nat}(hg:Gt K g)(hr:Rd c r)(hK:K≤900000)(hc:c≤900000):Tot (F303 (g,r)) fun y=>Gt (K+500) y.1∧Rd (c+10) y.2:=by
 obtain⟨o1,o2,o3,o4,o5⟩:=g;obtain⟨o0,o11⟩:=r;unfold F303;refine Tot.bind (t51 hr (by omega)) ?_;rintro⟨y,y1,y2⟩ ⟨(a2:(0:Int)≤y),(b3:(1:Int)≤(6:Int)→y<(6:Int)),-,hr1⟩;refine Tot.bindE (fun y=>Gt (K+330) y.1∧Rd (c+4) y.2) ?_ ?_
 ·refine Tot.cnd (fun c4=>?_) (fun c4=>?_)
  ·refine Tot.bind (t277 hg hr1 (by omega) (by omega)) ?_;rintro⟨y3,⟨y4,y5,y6,y7,y8⟩,x,x1⟩ ⟨(ky3:List.length y3≤25),hg5,hr6⟩;refine Tot.grd (by simp<;>omega) ?_;refine Tot.bind (t273 (by first|omega|simp<;>omega) hg5 hr6 (by omega) (by omega)) ?_;rintro⟨⟨y9,y10,y11,y12,y13⟩,y14,x2⟩ ⟨hg7,hr8⟩;refine Tot.bind (t273 (by first|omega|simp<;>omega) hg7 hr8 (by omega) (by omega)) ?_;rintro⟨⟨y15,y16,y17,y18,y19⟩,y20,x3⟩ ⟨hg9,hr10⟩;exact Tot.ret ⟨hg9.mono (by omega),hr10.mono (by omega)⟩
  ·refine Tot.cnd (fun c11=>?_) (fun c11=>?_)
   ·refine Tot.bind (t277 hg hr1 (by omega) (by omega)) ?_;rintro⟨y3,⟨y4,y5,y6,y7,y8⟩,x,x1⟩ ⟨(ky3:List.length y3≤25),hg12,hr13⟩;refine Tot.grd (by simp<;>omega) ?_;refine Tot.bind (t273 (by first|omega|simp<;>omega) hg12 hr13 (by omega) (by omega)) ?_;rintro⟨⟨y9,y10,y11,y12,y13⟩,y14,x2⟩ ⟨hg14,hr15⟩;refine Tot.bind (t273 (by first|omega|simp<;>omega) hg14 hr15 (by omega) (by omega)) ?_;rintro⟨⟨y15,y16,y17,y18,y19⟩,y20,x3⟩ ⟨hg16,hr17⟩;exact Tot.ret ⟨hg16.mono (by omega),hr17.mono (by omega)⟩
   ·refine Tot.cnd (fun c18=>?_) (fun c18=>?_)
    ·refine Tot.bind (t273 (by first|omega|simp<;>omega) hg hr1 (by omega) (by omega)) ?_;rintro⟨⟨y3,y4,y5,y6,y7⟩,y8,x⟩ ⟨hg19,hr20⟩;exact Tot.ret ⟨hg19.mono (by omega),hr20.mono (by omega)⟩
    ·refine Tot.cnd (fun c21=>?_) (fun c21=>?_)
     ·refine Tot.bind (zWF (m:=100000) hr1 (by omega) (by simp) (by decide)) ?_;rintro⟨y3,y4,y5⟩ ⟨(a23:(-100000:Int)≤y3),(b24:y3≤(100000:Int)),hr22⟩;refine Tot.bind (t274 (by omega) (by omega)) ?_;intro y6 (ky6:List.length y6≤25);refine Tot.grd (by simp<;>omega) ?_;refine Tot.bind (t273 (by first|omega|simp<;>omega) hg hr22 (by omega) (by omega)) ?_;rintro⟨⟨y7,y8,y9,y10,y11⟩,y12,x⟩ ⟨hg25,hr26⟩;refine Tot.bind (zWF (m:=100000) hr26 (by omega) (by simp) (by decide)) ?_;rintro⟨y13,y14,y15⟩ ⟨(a28:(-100000:Int)≤y13),(b29:y13≤(100000:Int)),hr27⟩;refine Tot.bind (t274 (by omega) (by omega)) ?_;intro y16 (ky16:List.length y16≤25);refine Tot.grd (by simp<;>omega) ?_;refine Tot.bind (t273 (by first|omega|simp<;>omega) hg25 hr27 (by omega) (by omega)) ?_;rintro⟨⟨y17,y18,y19,y20,y21⟩,y22,x1⟩ ⟨hg30,hr31⟩;refine Tot.bind (zDL (m:=3) hr31 (by omega) (by simp) (by decide)) ?_;rintro⟨y23,y24,y25⟩ ⟨(ky23:List.length y23≤3),hr32⟩;refine Tot.bind (t273 (by first|omega|simp<;>omega) hg30 hr32 (by omega) (by omega)) ?_;rintro⟨⟨y26,y27,y28,y29,y30⟩,y31,x2⟩ ⟨hg33,hr34⟩;exact Tot.ret ⟨hg33.mono (by omega),hr34.mono (by omega)⟩
     ·refine Tot.bind (zWF (m:=100000) hr1 (by omega) (by simp) (by decide)) ?_;rintro⟨y3,y4,y5⟩ ⟨(a36:(-100000:Int)≤y3),(b37:y3≤(100000:Int)),hr35⟩;refine Tot.bind (t274 (by omega) (by omega)) ?_;intro y6 (ky6:List.length y6≤25);refine Tot.grd (by simp<;>omega) ?_;refine Tot.bind (t273 (by first|omega|simp<;>omega) hg hr35 (by omega) (by omega)) ?_;rintro⟨⟨y7,y8,y9,y10,y11⟩,y12,x⟩ ⟨hg38,hr39⟩;exact Tot.ret ⟨hg38.mono (by omega),hr39.mono (by omega)⟩
 rintro⟨⟨o12,o21,o31,o41,o51⟩,o01,o13⟩ ⟨hg40,hr41⟩;exact Tot.ret ⟨hg40.mono (by omega),hr41.mono (by omega)⟩
def t304 {g:List UInt8×List UInt8×List UInt8×Int×List UInt8}{r:List UInt8×Int}{K:Nat}{c:Nat}(hg:Gt K g)(hr:Rd c r)(hK:K≤900000)(hc:c≤900000):Tot (F304 (g,r)) fun y=>Gt (K+300) y.1∧Rd (c+5) y.2:=by
 obtain⟨o1,o2,o3,o4,o5⟩:=g;obtain⟨o0,o11⟩:=r;unfold F304;refine Tot.bind (t51 hr (by omega)) ?_;rintro⟨y,y1,y2⟩ ⟨(a2:(0:Int)≤y),(b3:(1:Int)≤(10:Int)→y<(10:Int)),-,hr1⟩;refine Tot.bindE (fun y=>Gt (K+220) y.1∧Rd (c+3) y.2) ?_ ?_
 ·refine Tot.cnd (fun c4=>?_) (fun c4=>?_)
  ·refine Tot.bind (t273 (by first|omega|simp<;>omega) hg hr1 (by omega) (by omega)) ?_;rintro⟨⟨y3,y4,y5,y6,y7⟩,y8,x⟩ ⟨hg5,hr6⟩;exact Tot.ret ⟨hg5.mono (by omega),hr6.mono (by omega)⟩
  ·refine Tot.bindE (fun y=>Gt (K+0) y.2.2.1∧Rd (c+1) y.2.2.2) ?_ ?_
   ·refine Tot.cnd (fun c7=>?_) (fun c7=>?_)
    ·exact Tot.ret ⟨hg.mono (by omega),hr1.mono (by omega)⟩
    ·exact Tot.ret ⟨hg.mono (by omega),hr1.mono (by omega)⟩
   rintro⟨v8,v15,⟨o12,o21,o31,o41,o51⟩,o01,o13⟩ ⟨hg8,hr9⟩;refine Tot.cnd (fun c10=>?_) (fun c10=>?_)
   ·refine Tot.bind (t273 (by first|omega|simp<;>omega) hg8 hr9 (by omega) (by omega)) ?_;rintro⟨⟨y3,y4,y5,y6,y7⟩,y8,x⟩ ⟨hg11,hr12⟩;exact Tot.ret ⟨hg11.mono (by omega),hr12.mono (by omega)⟩
   ·refine Tot.cnd (fun c13=>?_) (fun c13=>?_)
    ·refine Tot.bind (t273 (by first|omega|simp<;>omega) hg8 hr9 (by omega) (by omega)) ?_;rintro⟨⟨y3,y4,y5,y6,y7⟩,y8,x⟩ ⟨hg14,hr15⟩;exact Tot.ret ⟨hg14.mono (by omega),hr15.mono (by omega)⟩
    ·refine Tot.cnd (fun c16=>?_) (fun c16=>?_)
     ·refine Tot.bind (t277 hg8 hr9 (by omega) (by omega)) ?_;rintro⟨y3,⟨y4,y5,y6,y7,y8⟩,x,x1⟩ ⟨(ky3:List.length y3≤25),hg17,hr18⟩;refine Tot.grd (by simp<;>omega) ?_;refine Tot.bind (t273 (by first|omega|simp<;>omega) hg17 hr18 (by omega) (by omega)) ?_;rintro⟨⟨y9,y10,y11,y12,y13⟩,y14,x2⟩ ⟨hg19,hr20⟩;refine Tot.bind (zDL (m:=1) hr20 (by omega) (by simp) (by decide)) ?_;rintro⟨y15,y16,y17⟩ ⟨(ky15:List.length y15≤1),hr21⟩;refine Tot.grd (by simp<;>omega) ?_;refine Tot.bind (t273 (by first|omega|simp<;>omega) hg19 hr21 (by omega) (by omega)) ?_;rintro⟨⟨y18,y19,y20,y21,y22⟩,y23,x3⟩ ⟨hg22,hr23⟩;exact Tot.ret ⟨hg22.mono (by omega),hr23.mono (by omega)⟩
     ·refine Tot.cnd (fun c24=>?_) (fun c24=>?_)
      ·refine Tot.bind (t277 hg8 hr9 (by omega) (by omega)) ?_;rintro⟨y3,⟨y4,y5,y6,y7,y8⟩,x,x1⟩ ⟨(ky3:List.length y3≤25),hg25,hr26⟩;refine Tot.grd (by simp<;>omega) ?_;refine Tot.bind (t273 (by first|omega|simp<;>omega) hg25 hr26 (by omega) (by omega)) ?_;rintro⟨⟨y9,y10,y11,y12,y13⟩,y14,x2⟩ ⟨hg27,hr28⟩;refine Tot.bind (t273 (by first|omega|simp<;>omega) hg27 hr28 (by omega) (by omega)) ?_;rintro⟨⟨y15,y16,y17,y18,y19⟩,y20,x3⟩ ⟨hg29,hr30⟩;exact Tot.ret ⟨hg29.mono (by omega),hr30.mono (by omega)⟩
      ·refine Tot.cnd (fun c31=>?_) (fun c31=>?_)
       ·refine Tot.bind (zDL (m:=3) hr9 (by omega) (by simp) (by decide)) ?_;rintro⟨y3,y4,y5⟩ ⟨(ky3:List.length y3≤3),hr32⟩;refine Tot.grd (by simp<;>omega) ?_;refine Tot.bind (t273 (by first|omega|simp<;>omega) hg8 hr32 (by omega) (by omega)) ?_;rintro⟨⟨y6,y7,y8,y9,y10⟩,y11,x⟩ ⟨hg33,hr34⟩;exact Tot.ret ⟨hg33.mono (by omega),hr34.mono (by omega)⟩
       ·refine Tot.bind (t273 (by first|omega|simp<;>omega) hg8 hr9 (by omega) (by omega)) ?_;rintro⟨⟨y3,y4,y5,y6,y7⟩,y8,x⟩ ⟨hg35,hr36⟩;exact Tot.ret ⟨hg35.mono (by omega),hr36.mono (by omega)⟩
 rintro⟨⟨o12,o21,o31,o41,o51⟩,o01,o13⟩ ⟨hg37,hr38⟩;exact Tot.ret ⟨hg37.mono (by omega),hr38.mono (by omega)⟩
def t305 {g:List UInt8×List UInt8×List UInt8×Int×List UInt8}{r:List UInt8×Int}{K:Nat}{c:Nat}(hg:Gt K g)(hr:Rd c r)(hK:K≤850000)(hc:c≤850000):Tot (F305 (g,r)) fun y=>Gt (K+1200) y.1∧Rd (c+20) y.2:=by
 obtain⟨o1,o2,o3,o4,o5⟩:=g;obtain⟨o0,o11⟩:=r;unfold F305;refine Tot.bind (zDL (m:=6) hr (by omega) (by simp) (by decide)) ?_;rintro⟨y,y1,y2⟩ ⟨(ky:List.length y≤6),hr1⟩;refine Tot.bindE (fun y=>List.length y.1≤10∧Gt (K+500) y.2.1∧Rd (c+11) y.2.2) ?_ ?_
 ·refine Tot.cnd (fun c2=>?_) (fun c2=>?_)
  ·refine Tot.bind (t277 hg hr1 (by omega) (by omega)) ?_;rintro⟨y3,⟨y4,y5,y6,y7,y8⟩,x,x1⟩ ⟨(ky3:List.length y3≤25),hg3,hr4⟩;refine Tot.grd (by simp<;>omega) ?_;refine Tot.bind (t273 (by first|omega|simp<;>omega) hg3 hr4 (by omega) (by omega)) ?_;rintro⟨⟨y9,y10,y11,y12,y13⟩,y14,x2⟩ ⟨hg5,hr6⟩;exact Tot.ret ⟨(by first|omega|simp<;>omega),hg5.mono (by omega),hr6.mono (by omega)⟩
  ·refine Tot.cnd (fun c7=>?_) (fun c7=>?_)
   ·refine Tot.bind (t277 hg hr1 (by omega) (by omega)) ?_;rintro⟨y3,⟨y4,y5,y6,y7,y8⟩,x,x1⟩ ⟨(ky3:List.length y3≤25),hg8,hr9⟩;refine Tot.grd (by simp<;>omega) ?_;refine Tot.bind (t273 (by first|omega|simp<;>omega) hg8 hr9 (by omega) (by omega)) ?_;rintro⟨⟨y9,y10,y11,y12,y13⟩,y14,x2⟩ ⟨hg10,hr11⟩;refine Tot.bind (t277 hg10 hr11 (by omega) (by omega)) ?_;rintro⟨y15,⟨y16,y17,y18,y19,y20⟩,x3,x4⟩ ⟨(ky15:List.length y15≤25),hg12,hr13⟩;refine Tot.grd (by simp<;>omega) ?_;refine Tot.bind (t273 (by first|omega|simp<;>omega) hg12 hr13 (by omega) (by omega)) ?_;rintro⟨⟨y21,y22,y23,y24,y25⟩,y26,x5⟩ ⟨hg14,hr15⟩;exact Tot.ret ⟨(by first|omega|simp<;>omega),hg14.mono (by omega),hr15.mono (by omega)⟩
   ·refine Tot.bind (t303 hg hr1 (by omega) (by omega)) ?_;rintro⟨⟨y3,y4,y5,y6,y7⟩,y8,x⟩ ⟨hg16,hr17⟩;exact Tot.ret ⟨(by first|omega|simp<;>omega),hg16.mono (by omega),hr17.mono (by omega)⟩
 rintro⟨test,⟨o12,o21,o31,o41,o51⟩,o01,o13⟩ ⟨(ktest:List.length test≤10),hg18,hr19⟩;refine Tot.grd (by simp<;>omega) ?_;refine Tot.bind (t274 (zGl _).1 (zGl _).2) ?_;intro y3 (ky3:List.length y3≤25);refine Tot.grd (by simp<;>omega) ?_;refine Tot.bind (t273 (by first|omega|simp<;>omega) hg18 hr19 (by omega) (by omega)) ?_;rintro⟨⟨y4,y5,y6,y7,y8⟩,y9,x⟩ ⟨hg20,hr21⟩;refine Tot.bind (t273 (by first|omega|simp<;>omega) hg20 hr21 (by omega) (by omega)) ?_;rintro⟨⟨y10,y11,y12,y13,y14⟩,y15,x1⟩ ⟨hg22,hr23⟩;refine Tot.bind (t273 (by first|omega|simp<;>omega) hg22 hr23 (by omega) (by omega)) ?_;rintro⟨⟨y16,y17,y18,y19,y20⟩,y21,x2⟩ ⟨hg24,hr25⟩;refine Tot.bind (t308 hg24 hr25 (by omega) (by omega)) ?_;rintro⟨y22,⟨y23,y24,y25,y26,y27⟩,x3,x4⟩ ⟨(ky22:List.length y22≤20),hg26,hr27⟩;refine Tot.bind (zDL (m:=1) hr27 (by omega) (by simp) (by decide)) ?_;rintro⟨y28,y29,y30⟩ ⟨(ky28:List.length y28≤1),hr28⟩;refine Tot.bind (t307 (by first|omega|simp<;>omega) (by first|omega|simp<;>omega) hg26 hr28 (by omega) (by omega)) ?_;rintro⟨⟨y31,y32,y33,y34,y35⟩,y36,x5⟩ ⟨hg29,hr30⟩;exact Tot.ret ⟨hg29.mono (by omega),hr30.mono (by omega)⟩
def t306 {g:List UInt8×List UInt8×List UInt8×Int×List UInt8}{r:List UInt8×Int}{K:Nat}{c:Nat}(hg:Gt K g)(hr:Rd c r)(hK:K≤850000)(hc:c≤850000):Tot (F306 (g,r)) fun y=>Gt (K+600) y.1∧Rd (c+5) y.2:=by
 obtain⟨o1,o2,o3,o4,o5⟩:=g;obtain⟨o0,o11⟩:=r;unfold F306;refine Tot.bind (t51 hr (by omega)) ?_;rintro⟨y,y1,y2⟩ ⟨(a2:(0:Int)≤y),(b3:(1:Int)≤(5:Int)→y<(5:Int)),-,hr1⟩;refine Tot.bindE (fun y=>Gt (K+440) y.1∧Rd (c+2) y.2) ?_ ?_
 ·refine Tot.cnd (fun c4=>?_) (fun c4=>?_)
  ·refine Tot.bind (t277 hg hr1 (by omega) (by omega)) ?_;rintro⟨y3,⟨y4,y5,y6,y7,y8⟩,x,x1⟩ ⟨(ky3:List.length y3≤25),hg5,hr6⟩;refine Tot.grd (by simp<;>omega) ?_;refine Tot.bind (t273 (by first|omega|simp<;>omega) hg5 hr6 (by omega) (by omega)) ?_;rintro⟨⟨y9,y10,y11,y12,y13⟩,y14,x2⟩ ⟨hg7,hr8⟩;refine Tot.bind (t273 (by first|omega|simp<;>omega) hg7 hr8 (by omega) (by omega)) ?_;rintro⟨⟨y15,y16,y17,y18,y19⟩,y20,x3⟩ ⟨hg9,hr10⟩;refine Tot.bind (t273 (by first|omega|simp<;>omega) hg9 hr10 (by omega) (by omega)) ?_;rintro⟨⟨y21,y22,y23,y24,y25⟩,y26,x4⟩ ⟨hg11,hr12⟩;exact Tot.ret ⟨hg11.mono (by omega),hr12.mono (by omega)⟩
  ·refine Tot.cnd (fun c13=>?_) (fun c13=>?_)
   ·refine Tot.bind (t273 (by first|omega|simp<;>omega) hg hr1 (by omega) (by omega)) ?_;rintro⟨⟨y3,y4,y5,y6,y7⟩,y8,x⟩ ⟨hg14,hr15⟩;refine Tot.bind (t277 hg14 hr15 (by omega) (by omega)) ?_;rintro⟨y9,⟨y10,y11,y12,y13,y14⟩,x1,x2⟩ ⟨(ky9:List.length y9≤25),hg16,hr17⟩;refine Tot.grd (by simp<;>omega) ?_;refine Tot.bind (t273 (by first|omega|simp<;>omega) hg16 hr17 (by omega) (by omega)) ?_;rintro⟨⟨y15,y16,y17,y18,y19⟩,y20,x3⟩ ⟨hg18,hr19⟩;exact Tot.ret ⟨hg18.mono (by omega),hr19.mono (by omega)⟩
   ·refine Tot.cnd (fun c20=>?_) (fun c20=>?_)
    ·refine Tot.bind (t273 (by first|omega|simp<;>omega) hg hr1 (by omega) (by omega)) ?_;rintro⟨⟨y3,y4,y5,y6,y7⟩,y8,x⟩ ⟨hg21,hr22⟩;refine Tot.bind (t277 hg21 hr22 (by omega) (by omega)) ?_;rintro⟨y9,⟨y10,y11,y12,y13,y14⟩,x1,x2⟩ ⟨(ky9:List.length y9≤25),hg23,hr24⟩;refine Tot.grd (by simp<;>omega) ?_;refine Tot.bind (t273 (by first|omega|simp<;>omega) hg23 hr24 (by omega) (by omega)) ?_;rintro⟨⟨y15,y16,y17,y18,y19⟩,y20,x3⟩ ⟨hg25,hr26⟩;exact Tot.ret ⟨hg25.mono (by omega),hr26.mono (by omega)⟩
    ·refine Tot.cnd (fun c27=>?_) (fun c27=>?_)
     ·refine Tot.bind (t277 hg hr1 (by omega) (by omega)) ?_;rintro⟨y3,⟨y4,y5,y6,y7,y8⟩,x,x1⟩ ⟨(ky3:List.length y3≤25),hg28,hr29⟩;refine Tot.grd (by simp<;>omega) ?_;refine Tot.bind (t273 (by first|omega|simp<;>omega) hg28 hr29 (by omega) (by omega)) ?_;rintro⟨⟨y9,y10,y11,y12,y13⟩,y14,x2⟩ ⟨hg30,hr31⟩;refine Tot.bind (t273 (by first|omega|simp<;>omega) hg30 hr31 (by omega) (by omega)) ?_;rintro⟨⟨y15,y16,y17,y18,y19⟩,y20,x3⟩ ⟨hg32,hr33⟩;exact Tot.ret ⟨hg32.mono (by omega),hr33.mono (by omega)⟩
     ·refine Tot.bind (t273 (by first|omega|simp<;>omega) hg hr1 (by omega) (by omega)) ?_;rintro⟨⟨y3,y4,y5,y6,y7⟩,y8,x⟩ ⟨hg34,hr35⟩;refine Tot.bind (t277 hg34 hr35 (by omega) (by omega)) ?_;rintro⟨y9,⟨y10,y11,y12,y13,y14⟩,x1,x2⟩ ⟨(ky9:List.length y9≤25),hg36,hr37⟩;refine Tot.grd (by simp<;>omega) ?_;refine Tot.bind (t273 (by first|omega|simp<;>omega) hg36 hr37 (by omega) (by omega)) ?_;rintro⟨⟨y15,y16,y17,y18,y19⟩,y20,x3⟩ ⟨hg38,hr39⟩;refine Tot.bind (t273 (by first|omega|simp<;>omega) hg38 hr39 (by omega) (by omega)) ?_;rintro⟨⟨y21,y22,y23,y24,y25⟩,y26,x4⟩ ⟨hg40,hr41⟩;refine Tot.bind (t273 (by first|omega|simp<;>omega) hg40 hr41 (by omega) (by omega)) ?_;rintro⟨⟨y27,y28,y29,y30,y31⟩,y32,x5⟩ ⟨hg42,hr43⟩;exact Tot.ret ⟨hg42.mono (by omega),hr43.mono (by omega)⟩
 rintro⟨⟨o12,o21,o31,o41,o51⟩,o01,o13⟩ ⟨hg44,hr45⟩;exact Tot.ret ⟨hg44.mono (by omega),hr45.mono (by omega)⟩
def zCi {α R:Type}{l:List α}{n:Nat}{x:α}{k:α→Option R}(e:l[n]? = some x):atO l n k=k x:=by
 show(match l[n]? with|some x=>k x|none=>none)=k x;rw[e]
def Pl (K:Nat)(p:List Cst):Prop:=p.length≤K∧∀x∈p,x.2.1.length≤60
def Pl.mono {K L:Nat}{p:List Cst}(h:Pl K p)(hc:K≤L):Pl L p:=⟨Nat.le_trans h.1 hc,h.2⟩
def Pl.app {K:Nat}{p:List Cst}{x:Cst}(h:Pl K p)(hx:x.2.1.length≤60):Pl (K+1) (p++[x]):=by
 refine⟨by have:=h.1;simp only[zLa,zLc,zLn];omega,fun y hy=>?_⟩;simp only[List.mem_append,List.mem_singleton]at hy;rcases hy with hy|rfl
 ·exact h.2 y hy
 ·exact hx
def t327 {s:List UInt8}(hs:s.length≤1000000000000):Tot (F327 s) fun _=>True:=by
 unfold F327;refine Tot.bindE (fun y=>y.1=s) (Tot.loop (fun z=>z.1=s∧0≤z.2.2∧z.2.2≤(s.length:Int)) (fun z=>s.length-z.2.2.toNat) ?_ ⟨rfl,by simp,by simp⟩) ?_
 ·rintro⟨s1,n,i⟩ ⟨rfl,h0,h1⟩;simp only at h0 h1 hs;refine Tot.cnd (fun h=>?_) (fun h=>Tot.ret rfl);simp only[zDe]at h;refine Tot.bindE (fun y=>y=(s1,n,i)) ?_ ?_
  ·exact Tot.grd (by simpa using h0) (Tot.at (by omega) fun x _=>Tot.cnd (fun _=>Tot.ret trivial) fun _=>Tot.grd (by simpa using h0) (Tot.at (by omega) fun x1 _=>Tot.cnd (fun _=>Tot.ret trivial) fun _=>Tot.cnd (fun _=>Tot.ret trivial) fun _=>Tot.ret rfl))
  ·rintro _ rfl;refine Tot.grd (by simpa using h0) (Tot.at (by omega) fun x _=>Tot.ret ⟨⟨rfl,?_,?_⟩,?_⟩)<;>(simp only;rw[wrapI (x:=i+1) (by omega) (by omega)];omega)
 ·rintro⟨s1,n⟩ rfl;refine Tot.cnd (fun _=>Tot.ret trivial) fun _=>Tot.cnd (fun h=>?_) fun _=>Tot.ret trivial
  simp only[zDe]at h;exact Tot.at (by omega) fun x _=>Tot.cnd (fun _=>Tot.ret trivial) fun _=>Tot.ret trivial
def t325 {s:List UInt8}(hs:s.length≤1000000000000):Tot (F325 s) fun _=>True:=by
 unfold F325;refine Tot.bindE (fun y=>y.1=s∧(y.2=true→1<s.length)) ?_ ?_
 ·refine Tot.cnd (fun h=>?_) fun h=>Tot.ret ⟨rfl,by simp⟩
  simp only[zDe]at h;exact Tot.at (by omega) fun x _=>Tot.ret ⟨rfl,fun _=>by omega⟩
 ·rintro⟨s1,b⟩ ⟨rfl,hb⟩;simp only at hb hs;refine Tot.cnd (fun h=>?_) fun h=>Tot.bind (t327 hs) fun _ _=>Tot.ret trivial
  have:=hb h;exact Tot.grd (by simp;omega) (Tot.bind (t327 (by simp;omega)) fun _ _=>Tot.ret trivial)
def t326 {x:Cst}{p:List Cst}{f n s:Int}{fa:List Int}{fi:List (Int×Int×Int)}{ms:List Mth}{bad:Bool}{K:Nat}(hx:x.2.1.length≤60)(hp:Pl K p)(hK:K≤1000000):Tot (F326 (x,p,f,n,s,fa,fi,ms,bad)) fun y=>∃i q,y=(i,q,f,n,s,fa,fi,ms,bad)∧Pl (K+1) q:=by
 obtain⟨c0,c1,c2,c3⟩:=x;have hl:=hp.1;unfold F326;refine Tot.bindE (fun y=>y=((c0,c1,c2,c3),p,f,n,s,fa,fi,ms,bad)) (Tot.loop (fun z=>z.2=((c0,c1,c2,c3),p,f,n,s,fa,fi,ms,bad)∧0≤z.1∧z.1≤(p.length:Int)) (fun z=>p.length-z.1.toNat) ?_ ⟨rfl,by simp,by simp⟩) ?_
 ·rintro⟨i,z⟩ ⟨hz,h0,h1⟩;simp only at hz h0 h1;subst hz;refine Tot.cnd (fun h=>?_) (fun h=>Tot.ret rfl);simp only[zDe]at h;refine Tot.grd (by simp;omega) (Tot.at (by omega) fun y _=>Tot.cnd (fun _=>?_) fun _=>?_)
  ·exact Tot.ret ⟨_,_,rfl,hp.mono (by omega)⟩
  ·refine Tot.ret ⟨⟨rfl,?_,?_⟩,?_⟩<;>(simp only;rw[wrapI (by omega) (by omega)];omega)
 ·rintro _ rfl;exact Tot.grd (by simp;omega) (Tot.ret ⟨_,_,rfl,hp.app hx⟩)
def t312 {x:List UInt8}{p:List Cst}{f n s:Int}{fa:List Int}{fi:List (Int×Int×Int)}{ms:List Mth}{bad:Bool}{K:Nat}(hp:Pl K p)(hK:K≤1000000):Tot (F312 (x,p,f,n,s,fa,fi,ms,bad)) fun y=>∃i q b,y=(i,q,f,n,s,fa,fi,ms,b)∧Pl (K+1) q:=by
 unfold F312;refine Tot.cnd (fun h=>Tot.ret ⟨_,_,_,rfl,hp.mono (by omega)⟩) (fun h=>?_);simp only[zDn]at h;refine Tot.bind (t326 (by simp only;omega) hp hK) ?_;rintro _ ⟨i,q,rfl,hq⟩;exact Tot.ret ⟨_,_,_,rfl,hq⟩
def t310 {x:List UInt8}{p:List Cst}{f n s:Int}{fa:List Int}{fi:List (Int×Int×Int)}{ms:List Mth}{bad:Bool}{K:Nat}(hp:Pl K p)(hK:K≤900000):Tot (F310 (x,p,f,n,s,fa,fi,ms,bad)) fun y=>∃i q b,y=(i,q,f,n,s,fa,fi,ms,b)∧Pl (K+2) q:=by
 unfold F310;refine Tot.bind (t312 hp (by omega)) ?_;rintro _ ⟨i,q,b,rfl,hq⟩;refine Tot.bind (t326 (by simp) hq (by omega)) ?_;rintro _ ⟨i,q,rfl,hq⟩;exact Tot.ret ⟨_,_,_,rfl,hq⟩
def t311 {x:List UInt8}{p:List Cst}{f n s:Int}{fa:List Int}{fi:List (Int×Int×Int)}{ms:List Mth}{bad:Bool}  (hx:x.length≤1000000000000):Tot (F311 (x,p,f,n,s,fa,fi,ms,bad)) fun y=>∃i b,y=(i,p,f,n,s,fa,fi,ms,b):=by
 unfold F311;refine Tot.bind (t327 hx) ?_;rintro i -;exact Tot.cnd (fun _=>Tot.ret ⟨_,_,rfl⟩) fun _=>Tot.ret ⟨_,_,rfl⟩
def zTA {x:Cst}{p:List Cst}{f n s:Int}{fa:List Int}{fi:List (Int×Int×Int)}{ms:List Mth}{bad:Bool}{K:Nat}(hx:x.2.1.length≤60)(hp:Pl K p)(hK:K≤1000000):Tot (F5000326 (x,(p,f,n,s,fi,ms,bad),fa)) fun y=>∃i q,y=(i,(q,f,n,s,fi,ms,bad),fa)∧Pl (K+1) q:=by
 obtain⟨c0,c1,c2,c3⟩:=x;have hl:=hp.1;unfold F5000326;refine Tot.bindE (fun y=>y=((c0,c1,c2,c3),(p,f,n,s,fi,ms,bad),fa)) (Tot.loop (fun z=>z.2=((c0,c1,c2,c3),(p,f,n,s,fi,ms,bad),fa)∧0≤z.1∧z.1≤(p.length:Int)) (fun z=>p.length-z.1.toNat) ?_ ⟨rfl,by simp,by simp⟩) ?_
 ·rintro⟨i,z⟩ ⟨hz,h0,h1⟩;simp only at hz h0 h1;subst hz;refine Tot.cnd (fun h=>?_) (fun h=>Tot.ret rfl);simp only[zDe]at h;refine Tot.grd (by simp;omega) (Tot.at (by omega) fun y _=>Tot.cnd (fun _=>?_) fun _=>?_)
  ·exact Tot.ret ⟨_,_,rfl,hp.mono (by omega)⟩
  ·refine Tot.ret ⟨⟨rfl,?_,?_⟩,?_⟩<;>(simp only;rw[wrapI (by omega) (by omega)];omega)
 ·rintro _ rfl;exact Tot.grd (by simp;omega) (Tot.ret ⟨_,_,rfl,hp.app hx⟩)
def t5000312 {x:List UInt8}{p:List Cst}{f n s:Int}{fa:List Int}{fi:List (Int×Int×Int)}{ms:List Mth}{bad:Bool}{K:Nat}(hp:Pl K p)(hK:K≤1000000):Tot (F5000312 (x,(p,f,n,s,fi,ms,bad),fa)) fun y=>∃i q b,y=(i,(q,f,n,s,fi,ms,b),fa)∧Pl (K+1) q:=by
 unfold F5000312;refine Tot.cnd (fun h=>Tot.ret ⟨_,_,_,rfl,hp.mono (by omega)⟩) (fun h=>?_);simp only[zDn]at h;refine Tot.bind (zTA (by simp only;omega) hp hK) ?_;rintro _ ⟨i,q,rfl,hq⟩;exact Tot.ret ⟨_,_,_,rfl,hq⟩
def t5000310 {x:List UInt8}{p:List Cst}{f n s:Int}{fa:List Int}{fi:List (Int×Int×Int)}{ms:List Mth}{bad:Bool}{K:Nat}(hp:Pl K p)(hK:K≤900000):Tot (F5000310 (x,(p,f,n,s,fi,ms,bad),fa)) fun y=>∃i q b,y=(i,(q,f,n,s,fi,ms,b),fa)∧Pl (K+2) q:=by
 unfold F5000310;refine Tot.bind (t5000312 hp (by omega)) ?_;rintro _ ⟨i,q,b,rfl,hq⟩;refine Tot.bind (zTA (by simp) hq (by omega)) ?_;rintro _ ⟨i,q,rfl,hq⟩;exact Tot.ret ⟨_,_,_,rfl,hq⟩
def t6000326 {x:Cst}{p:List Cst}{f n s:Int}{fa:List Int}{fi:List (Int×Int×Int)}{ms:List Mth}{bad:Bool}{K:Nat}(hx:x.2.1.length≤60)(hp:Pl K p)(hK:K≤1000000):Tot (F6000326 (x,(p,f,n,s,fa,ms,bad),fi)) fun y=>∃i q,y=(i,(q,f,n,s,fa,ms,bad),fi)∧Pl (K+1) q:=by
 obtain⟨c0,c1,c2,c3⟩:=x;have hl:=hp.1;unfold F6000326;refine Tot.bindE (fun y=>y=((c0,c1,c2,c3),(p,f,n,s,fa,ms,bad),fi)) (Tot.loop (fun z=>z.2=((c0,c1,c2,c3),(p,f,n,s,fa,ms,bad),fi)∧0≤z.1∧z.1≤(p.length:Int)) (fun z=>p.length-z.1.toNat) ?_ ⟨rfl,by simp,by simp⟩) ?_
 ·rintro⟨i,z⟩ ⟨hz,h0,h1⟩;simp only at hz h0 h1;subst hz;refine Tot.cnd (fun h=>?_) (fun h=>Tot.ret rfl);simp only[zDe]at h;refine Tot.grd (by simp;omega) (Tot.at (by omega) fun y _=>Tot.cnd (fun _=>?_) fun _=>?_)
  ·exact Tot.ret ⟨_,_,rfl,hp.mono (by omega)⟩
  ·refine Tot.ret ⟨⟨rfl,?_,?_⟩,?_⟩<;>(simp only;rw[wrapI (by omega) (by omega)];omega)
 ·rintro _ rfl;exact Tot.grd (by simp;omega) (Tot.ret ⟨_,_,rfl,hp.app hx⟩)
def zSz {x:List UInt8}{p:List Cst}{f n s:Int}{fa:List Int}{fi:List (Int×Int×Int)}{ms:List Mth}{bad:Bool}{K:Nat}(hp:Pl K p)(hK:K≤1000000):Tot (F6000312 (x,(p,f,n,s,fa,ms,bad),fi)) fun y=>∃i q b,y=(i,(q,f,n,s,fa,ms,b),fi)∧Pl (K+1) q:=by
 unfold F6000312;refine Tot.cnd (fun h=>Tot.ret ⟨_,_,_,rfl,hp.mono (by omega)⟩) (fun h=>?_);simp only[zDn]at h;refine Tot.bind (t6000326 (by simp only;omega) hp hK) ?_;rintro _ ⟨i,q,rfl,hq⟩;exact Tot.ret ⟨_,_,_,rfl,hq⟩
def t6000311 {x:List UInt8}{p:List Cst}{f n s:Int}{fa:List Int}{fi:List (Int×Int×Int)}{ms:List Mth}{bad:Bool}  (hx:x.length≤1000000000000):Tot (F6000311 (x,(p,f,n,s,fa,ms,bad),fi)) fun y=>∃i b,y=(i,(p,f,n,s,fa,ms,b),fi):=by
 unfold F6000311;refine Tot.bind (t327 hx) ?_;rintro i -;exact Tot.cnd (fun _=>Tot.ret ⟨_,_,rfl⟩) fun _=>Tot.ret ⟨_,_,rfl⟩
def zKu {x:Cst}{p:List Cst}{f n s:Int}{fa:List Int}{fi:List (Int×Int×Int)}{ms:List Mth}{bad:Bool}{K:Nat}{ri:Nat}{r0 r1 r2 r3 r4:Int}{r5:List UInt8}{r6:List (Int×Int×Int×Int)}{fr:List Frm}(hri:ri<ms.length)(hx:x.2.1.length≤60)(hp:Pl K p)(hK:K≤1000000):Tot (F807000326 (x,(p,f,n,s,fa,fi,bad),(ms,ri,r0,r1,r2,r3,r4,r5,r6),fr)) fun y=>∃i q,y=(i,(q,f,n,s,fa,fi,bad),(ms,ri,r0,r1,r2,r3,r4,r5,r6),fr)∧Pl (K+1) q:=by
 obtain⟨c0,c1,c2,c3⟩:=x;have hl:=hp.1;unfold F807000326;simp only[eq_self,zDt,hri,zBs,zAD]
 refine Tot.bindE (fun y=>y=((c0,c1,c2,c3),(p,f,n,s,fa,fi,bad),(ms,ri,r0,r1,r2,r3,r4,r5,r6),fr)) (Tot.loop (fun z=>z.2=((c0,c1,c2,c3),(p,f,n,s,fa,fi,bad),(ms,ri,r0,r1,r2,r3,r4,r5,r6),fr)∧0≤z.1∧z.1≤(p.length:Int)) (fun z=>p.length-z.1.toNat) ?_ ⟨rfl,by simp,by simp⟩) ?_
 ·rintro⟨i,z⟩ ⟨hz,h0,h1⟩;simp only at hz h0 h1;subst hz;simp only[eq_self,zDt,hri,zBs,zAD]
  refine Tot.cnd (fun h=>?_) (fun h=>Tot.ret rfl);simp only[zDe]at h;refine Tot.grd (by simp;omega) (Tot.at (by omega) fun y _=>Tot.cnd (fun _=>?_) fun _=>?_)
  ·exact Tot.ret ⟨_,_,rfl,hp.mono (by omega)⟩
  ·refine Tot.ret ⟨⟨rfl,?_,?_⟩,?_⟩<;>(simp only;rw[wrapI (by omega) (by omega)];omega)
 ·rintro _ rfl;simp only[eq_self,zDt,hri,zBs,zAD]
  exact Tot.grd (by simp;omega) (Tot.ret ⟨_,_,rfl,hp.app hx⟩)
def zUY {x:List UInt8}{p:List Cst}{f n s:Int}{fa:List Int}{fi:List (Int×Int×Int)}{ms:List Mth}{bad:Bool}{K:Nat}{ri:Nat}{r0 r1 r2 r3 r4:Int}{r5:List UInt8}{r6:List (Int×Int×Int×Int)}{fr:List Frm}(hri:ri<ms.length)(hp:Pl K p)(hK:K≤1000000):Tot (F807000312 (x,(p,f,n,s,fa,fi,bad),(ms,ri,r0,r1,r2,r3,r4,r5,r6),fr)) fun y=>∃i q b,y=(i,(q,f,n,s,fa,fi,b),(ms,ri,r0,r1,r2,r3,r4,r5,r6),fr)∧Pl (K+1) q:=by
 unfold F807000312;simp only[eq_self,zDt,hri,zBs,zAD]
 refine Tot.cnd (fun h=>Tot.ret ⟨_,_,_,rfl,hp.mono (by omega)⟩) (fun h=>?_);simp only[zDn]at h;refine Tot.bind (zKu hri (by simp only;omega) hp hK) ?_;rintro _ ⟨i,q,rfl,hq⟩;simp only[eq_self,zDt,hri,zBs,zAD]
 exact Tot.ret ⟨_,_,_,rfl,hq⟩
def zUa {x:List UInt8}{p:List Cst}{f n s:Int}{fa:List Int}{fi:List (Int×Int×Int)}{ms:List Mth}{bad:Bool}{K:Nat}{ri:Nat}{r0 r1 r2 r3 r4:Int}{r5:List UInt8}{r6:List (Int×Int×Int×Int)}{fr:List Frm}(hri:ri<ms.length)(hp:Pl K p)(hK:K≤900000):Tot (F807000310 (x,(p,f,n,s,fa,fi,bad),(ms,ri,r0,r1,r2,r3,r4,r5,r6),fr)) fun y=>∃i q b,y=(i,(q,f,n,s,fa,fi,b),(ms,ri,r0,r1,r2,r3,r4,r5,r6),fr)∧Pl (K+2) q:=by
 unfold F807000310;simp only[eq_self,zDt,hri,zBs,zAD]
 refine Tot.bind (zUY hri hp (by omega)) ?_;rintro _ ⟨i,q,b,rfl,hq⟩;refine Tot.bind (zKu hri (by simp) hq (by omega)) ?_;rintro _ ⟨i,q,rfl,hq⟩;simp only[eq_self,zDt,hri,zBs,zAD]
 exact Tot.ret ⟨_,_,_,rfl,hq⟩
def zUZ {x:List UInt8}{p:List Cst}{f n s:Int}{fa:List Int}{fi:List (Int×Int×Int)}{ms:List Mth}{bad:Bool}  {ri:Nat}{r0 r1 r2 r3 r4:Int}{r5:List UInt8}{r6:List (Int×Int×Int×Int)}{fr:List Frm}(hri:ri<ms.length)(hx:x.length≤1000000000000):Tot (F807000311 (x,(p,f,n,s,fa,fi,bad),(ms,ri,r0,r1,r2,r3,r4,r5,r6),fr)) fun y=>∃i b,y=(i,(p,f,n,s,fa,fi,b),(ms,ri,r0,r1,r2,r3,r4,r5,r6),fr):=by
 unfold F807000311;simp only[eq_self,zDt,hri,zBs,zAD]
 refine Tot.bind (t327 hx) ?_;rintro i -;exact Tot.cnd (fun _=>Tot.ret ⟨_,_,rfl⟩) fun _=>Tot.ret ⟨_,_,rfl⟩
def Mb (N:Nat)(m:Mth):Prop:=m.2.2.2.2.2.1.length≤N∧m.2.2.2.2.2.2.1.length≤N∧m.2.2.2.2.2.2.2.length≤N∧∀f∈m.2.2.2.2.2.2.2,f.2.1.length≤16∧f.2.2.length≤16
def Ms (N:Nat)(l:List Mth):Prop:=l.length≤N∧∀m∈l,Mb N m
def Mb.mono {K L:Nat}{m:Mth}(h:Mb K m)(hc:K≤L):Mb L m:=⟨Nat.le_trans h.1 hc,Nat.le_trans h.2.1 hc,Nat.le_trans h.2.2.1 hc,h.2.2.2⟩
def Ms.mono {K L:Nat}{l:List Mth}(h:Ms K l)(hc:K≤L):Ms L l:=⟨Nat.le_trans h.1 hc,fun m hm=>(h.2 m hm).mono hc⟩
def Ms.set {K:Nat}{l:List Mth}(h:Ms K l)(i:Nat){m:Mth}(hm:Mb K m):Ms K (l.set i m):=by
 refine⟨by rw[List.length_set];exact h.1,fun x hx=>?_⟩;rcases List.mem_or_eq_of_mem_set hx with hx|rfl
 ·exact h.2 x hx
 ·exact hm
def Ms.app {K:Nat}{l:List Mth}(h:Ms K l){m:Mth}(hm:Mb K m):Ms (K+1) (l++[m]):=by
 refine⟨by have:=h.1;simp only[zLa,zLc,zLn];omega,fun y hy=>?_⟩;simp only[List.mem_append,List.mem_singleton]at hy;rcases hy with hy|rfl
 ·exact(h.2 y hy).mono (by omega)
 ·exact hm.mono (by omega)
def q315 {ms:List Mth}(h1:1≤ms.length)(h2:ms.length≤1000000)(p:List Cst)(f n s:Int)(fa:List Int)(fi:List (Int×Int×Int))(bad:Bool):F315 (p,f,n,s,fa,fi,ms,bad)=some (ms.length-1,ms,p,f,n,s,fa,fi,bad):=by
 have e:IntKind.wrap .i64 ((ms.length:Int)-1)=(ms.length:Int)-1:=wrapI (by omega) (by omega);have g:(decide ((0:Int)≤(ms.length:Int)-1)&&decide ((ms.length:Int)-1<(ms.length:Int)))=true:=by simp;omega
 have t:((ms.length:Int)-1).toNat=ms.length-1:=by omega
 simp only[F315,e,g,t,zAD]
def zNf {ms:List Mth}(h1:1≤ms.length)(h2:ms.length≤1000000)(p:List Cst)(f n s:Int)(fa:List Int)(fi:List (Int×Int×Int))(bad:Bool):F7000315 ((p,f,n,s,fa,fi,bad),ms)=some (ms.length-1,(p,f,n,s,fa,fi,bad),ms):=by
 have e:IntKind.wrap .i64 ((ms.length:Int)-1)=(ms.length:Int)-1:=wrapI (by omega) (by omega);have g:(decide ((0:Int)≤(ms.length:Int)-1)&&decide ((ms.length:Int)-1<(ms.length:Int)))=true:=by simp;omega
 have t:((ms.length:Int)-1).toNat=ms.length-1:=by omega
 simp only[F7000315,e,g,t,zAD]
def t324 {k:Int}{a b c:List UInt8}{p:List Cst}{f n s:Int}{fa:List Int}{fi:List (Int×Int×Int)}{ms:List Mth}{bad:Bool}{K:Nat}(hp:Pl K p)(hK:K≤900000) :
  Tot (F324 (k,a,b,c,p,f,n,s,fa,fi,ms,bad)) fun y=>∃i q b,y=(i,q,f,n,s,fa,fi,ms,b)∧Pl (K+6) q:=by
 unfold F324;refine Tot.bind (t310 hp hK) ?_;rintro _ ⟨_,q,_,rfl,hq⟩;refine Tot.bind (t312 hq (by omega)) ?_;rintro _ ⟨_,q,_,rfl,hq⟩;refine Tot.bind (t312 hq (by omega)) ?_;rintro _ ⟨_,q,_,rfl,hq⟩;refine Tot.bind (t326 (by simp) hq (by omega)) ?_;rintro _ ⟨_,q,rfl,hq⟩;refine Tot.bind (t326 (by simp) hq (by omega)) ?_;rintro _ ⟨_,q,rfl,hq⟩;exact Tot.ret ⟨_,_,_,rfl,hq⟩
def t291 (n:Int):Tot (F291 n) fun _=>True:=by
 unfold F291;refine Tot.bindE (fun _=>True) ?_ ?_
 ·exact Tot.cnd (fun _=>Tot.ret trivial) fun _=>Tot.cnd (fun _=>Tot.ret trivial) fun _=>Tot.ret trivial
 rintro⟨_,_⟩ -;refine Tot.cnd (fun _=>Tot.ret trivial) fun _=>Tot.bindE (fun _=>True) ?_ ?_
 ·exact Tot.cnd (fun _=>Tot.ret trivial) fun _=>Tot.cnd (fun _=>Tot.ret trivial) fun _=>Tot.cnd (fun _=>Tot.ret trivial) fun _=>Tot.ret trivial
 rintro⟨_,_⟩ -;refine Tot.cnd (fun _=>Tot.ret trivial) fun _=>Tot.bindE (fun _=>True) ?_ ?_
 ·exact Tot.cnd (fun _=>Tot.ret trivial) fun _=>Tot.cnd (fun _=>Tot.ret trivial) fun _=>Tot.ret trivial
 rintro⟨_,_⟩ -;exact Tot.cnd (fun _=>Tot.ret trivial) fun _=>Tot.cnd (fun _=>Tot.ret trivial) fun _=>Tot.ret trivial
def t134 (n:Int):Tot (F134 n) fun y=>y.length=1:=by
 unfold F134;exact Tot.grd (u8ok _) (Tot.ret rfl)
def t136 (n:Int):Tot (F136 n) fun y=>y.length=2:=by
 unfold F136;exact Tot.grd (u8ok _) (Tot.grd (u8ok _) (Tot.ret rfl))
def t194 (x:Int×Int×Int):Tot (F194 [x]) fun y=>y.length≤3:=by
 unfold F194;refine Tot.bindE (fun y=>y.length≤3) (Tot.loop (fun z=>z.1=[x]∧((z.2.2=0∧z.2.1.length=0)∨(z.2.2=1∧z.2.1.length≤3))) (fun z=>1-z.2.2.toNat) ?_ ⟨rfl,.inl ⟨rfl,rfl⟩⟩) fun y hy=>Tot.ret hy
 rintro⟨l,out,i⟩ ⟨hl,hi⟩;simp only at hl hi;subst hl;refine Tot.cnd (fun h=>?_) fun h=>Tot.ret (by show out.length≤3;omega)
 simp only[zDe,zLc,zLn]at h;have h0:i=0∧out.length=0:=by omega
 obtain⟨rfl,ho⟩:=h0;refine Tot.grd (by simp) (Tot.at' (x:=x) rfl (Tot.bind (t134 _) fun y hy=>Tot.grd (by simp;omega) (Tot.bind (t251 _) fun y1 _=>?_)));refine Tot.bindE (fun w=>w.1=[x]∧w.2.1.length≤3∧w.2.2=0) ?_ ?_
 ·refine Tot.cnd (fun _=>Tot.bind (t134 _) fun z hz=>Tot.grd (by simp;omega) (Tot.ret ⟨rfl,by simp;omega,rfl⟩)) fun _=>Tot.cnd (fun _=>Tot.bind (t136 _) fun z hz=>Tot.grd (by simp;omega) (Tot.ret ⟨rfl,by simp;omega,rfl⟩)) fun _=>Tot.ret ⟨rfl,by simp;omega,rfl⟩
 ·rintro⟨l,out,i⟩ ⟨rfl,ho,rfl⟩;exact Tot.ret ⟨⟨rfl,.inr ⟨rfl,ho⟩⟩,by show 1-(IntKind.wrap .i64 (0+1)).toNat<1-(0:Int).toNat;rw[wrapI (by omega) (by omega)];decide⟩
def t309 {v:List (List UInt8)}{p:List Cst}{f n s:Int}{fa:List Int}{fi:List (Int×Int×Int)}{ms:List Mth}{bad:Bool}{K:Nat}(hv:1≤v.length)(hv2:v.length≤10)(hvt:∀ x∈v,x.length≤1000000000000)(hp:Pl K p)(hm:Ms K ms)(hK:K≤900000) :
  Tot (F309 (v,p,f,n,s,fa,fi,ms,bad)) fun y=>∃q ms' b,y=(q,f,n,s,fa,fi,ms',b)∧Pl (K+10) q∧Ms (K+10) ms':=by
 obtain⟨x,e0⟩:∃x,v[0]? = some x:=⟨v[0],zGe hv⟩
 obtain⟨y,ey,hy⟩:Tot (F302 ()) fun y=>y.length≤100:=Tot.ret (by decide)
 obtain⟨y1,e1,-⟩:=t301 (list:=y) (s:=x) (by omega);have hl:=hm.1;have hat:∀i (h:i<v.length),v[i].length≤1000000000000:=fun i h=>hvt _ (List.getElem_mem h)
 simp only[F309,zCi e0,ey,e1,zAB,eq_self,zDt,zAt,zAD,zAS,zCg]
 refine Tot.bindE (fun z=>z=(v,(0,y1,0),p,f,n,s,fa,fi,ms,bad)∧1≤ms.length) ?_ ?_
 ·refine Tot.cnd (fun _=>Tot.ret ⟨_,_,_,rfl,hp.mono (by omega),hm.mono (by omega)⟩) fun h=>Tot.cnd (fun _=>Tot.ret ⟨_,_,_,rfl,hp.mono (by omega),hm.mono (by omega)⟩) fun _=>?_
  simp only[zDn]at h;exact Tot.ret ⟨rfl,by omega⟩
 rintro _ ⟨rfl,h1⟩;refine Tot.bind (t291 _) ?_;rintro y2 -;refine Tot.bindE (fun z=>∃a b c q bd,z=((a,b,c),q,f,n,s,fa,fi,ms,bd)∧Pl (K+10) q) ?_ ?_
 ·refine Tot.bindE (fun z=>∃b,z=(v,y2,b,(0,y1,0),p,f,n,s,fa,fi,ms,bad)∧(b=true→v.length=2)) ?_ ?_
  ·exact Tot.cnd (fun _=>Tot.ret ⟨_,rfl,fun h=>by simp only[zDe]at h;omega⟩) fun _=>Tot.ret ⟨_,rfl,by simp⟩
  rintro _ ⟨b,rfl,hb⟩;refine Tot.cnd (fun h=>?_) fun _=>?_
  ·have:=hb h;refine Tot.at (by show _<v.length;omega) fun z _=>Tot.bind (t310 hp hK) ?_
   rintro _ ⟨i,q,b,rfl,hq⟩;exact Tot.ret ⟨_,_,_,_,_,rfl,hq.mono (by omega)⟩
  refine Tot.bindE (fun z=>∃b,z=(v,y2,b,(0,y1,0),p,f,n,s,fa,fi,ms,bad)∧(b=true→v.length=4)) ?_ ?_
  ·exact Tot.cnd (fun _=>Tot.ret ⟨_,rfl,fun h=>by simp only[zDe]at h;omega⟩) fun _=>Tot.ret ⟨_,rfl,by simp⟩
  rintro _ ⟨b,rfl,hb⟩;refine Tot.cnd (fun h=>?_) fun _=>?_
  ·have:=hb h;refine Tot.at (by show _<v.length;omega) fun z _=>Tot.at (by show _<v.length;omega) fun z2 _=>Tot.at (by show _<v.length;omega) fun z3 _=>Tot.bind (t324 hp hK) ?_
   rintro _ ⟨i,q,b,rfl,hq⟩;exact Tot.ret ⟨_,_,_,_,_,rfl,hq.mono (by omega)⟩
  refine Tot.bindE (fun z=>∃b,z=(v,y2,b,(0,y1,0),p,f,n,s,fa,fi,ms,bad)∧(b=true→v.length=2)) ?_ ?_
  ·exact Tot.cnd (fun _=>Tot.ret ⟨_,rfl,fun h=>by simp only[zDe]at h;omega⟩) fun _=>Tot.ret ⟨_,rfl,by simp⟩
  rintro _ ⟨b,rfl,hb⟩;refine Tot.cnd (fun h=>?_) fun _=>?_
  ·have:=hb h;refine Tot.at (by show _<v.length;omega) fun z hz=>Tot.bind (t325 (hvt _ (zMg hz))) ?_
   rintro⟨y3,y4⟩ -;exact Tot.cnd (fun _=>Tot.ret ⟨_,_,_,_,_,rfl,hp.mono (by omega)⟩) fun _=>Tot.ret ⟨_,_,_,_,_,rfl,hp.mono (by omega)⟩
  refine Tot.bindE (fun z=>∃b,z=(v,y2,b,(0,y1,0),p,f,n,s,fa,fi,ms,bad)∧(b=true→v.length=2)) ?_ ?_
  ·refine Tot.cnd (fun _=>Tot.bind (t251 _) fun _ _=>Tot.cnd (fun _=>Tot.ret ⟨_,rfl,fun h=>by simp only[zDe]at h;omega⟩) fun _=>Tot.ret ⟨_,rfl,by simp⟩) fun _=>Tot.ret ⟨_,rfl,by simp⟩
  rintro _ ⟨b,rfl,hb⟩;refine Tot.cnd (fun h=>?_) fun _=>?_
  ·have:=hb h;refine Tot.at (by show _<v.length;omega) fun z hz=>Tot.bind (t311 (hvt _ (zMg hz))) ?_
   rintro _ ⟨i,b,rfl⟩;exact Tot.ret ⟨_,_,_,_,_,rfl,hp.mono (by omega)⟩
  refine Tot.cnd (fun _=>Tot.bind (t251 _) fun _ _=>Tot.cnd (fun _=>Tot.cnd (fun _=>?_) fun _=>?_) fun _=>?_) fun _=>?_
  ·exact Tot.ret ⟨_,_,_,_,_,rfl,hp.mono (by omega)⟩
  ·exact Tot.ret ⟨_,_,_,rfl,hp.mono (by omega),hm.mono (by omega)⟩
  ·exact Tot.ret ⟨_,_,_,rfl,hp.mono (by omega),hm.mono (by omega)⟩
  ·exact Tot.ret ⟨_,_,_,rfl,hp.mono (by omega),hm.mono (by omega)⟩
 rintro _ ⟨a,b,c,q,bd,rfl,hq⟩;refine Tot.bind (t107 _ _ _) fun y3 _=>Tot.cnd (fun _=>Tot.ret ⟨_,_,_,rfl,hq,hm.mono (by omega)⟩) fun _=>?_
 obtain⟨m,em⟩:∃m,ms[ms.length-1]? = some m:=⟨ms[ms.length-1],zGe (by omega)⟩
 have hmb:=hm.2 m (zMg em);obtain⟨code,ec,hc⟩:=t194 (a,b,c)
 have g:decide ((((List.length m.2.2.2.2.2.1:Nat):Int)+((List.length code:Nat):Int))≤9223372036854775807)=true:=by
  have:=hmb.1;simp only[zDe];omega
 have g':decide (List.length m.2.2.2.2.2.1+List.length code≤9223372036854775807)=true:=by
  have:=hmb.1;simp only[zDe];omega
 simp only[q315 h1 (show ms.length≤1000000 by omega),zNf h1 (show ms.length≤1000000 by omega),zAB,zCi em,ec,eq_self,zDt,zAt,beq_self_eq_true,zAD,zAS,g,g',zCg]
 refine Tot.ret ⟨_,_,_,rfl,hq,(hm.mono (by omega)).set _ ?_⟩;obtain⟨k1,k2,k3,k4⟩:=hmb;exact⟨by simp only[zLa];omega,by simp only;omega,by simp only;omega,k4⟩
def t108 (f:Int){k:Int}(hk:(!decide (k=0))=true):Tot (F108 (f,k)) fun _=>True:=by
 unfold F108;exact Tot.grd hk (Tot.ret trivial)
def t313 {w:List (List UInt8)}{p:List Cst}{f n s:Int}{fa:List Int}{fi:List (Int×Int×Int)}{ms:List Mth}{bad:Bool}{K:Nat}(hw:w.length=4∨w.length=6)(hwt:∀ x∈w,x.length≤1000000000000)(hp:Pl K p)(hm:Ms K ms)(hK:K≤900000) :
  Tot (F313 (w,p,f,n,s,fa,fi,ms,bad)) fun y=>∃q ms' b,y=(q,f,n,s,fa,fi,ms',b)∧Pl (K+10) q∧Ms (K+10) ms':=by
 have hl:=hm.1;obtain⟨x1,e1⟩:∃x,w[1]? = some x:=⟨w[1],zGe (by omega)⟩
 obtain⟨x2,e2⟩:∃x,w[2]? = some x:=⟨w[2],zGe (by omega)⟩
 obtain⟨x3,e3⟩:∃x,w[3]? = some x:=⟨w[3],zGe (by omega)⟩
 obtain⟨_,c1,i1,q1,b1,rfl,hq1⟩:=t312 (x:=x1) (f:=f) (n:=n) (s:=s) (fa:=fa) (fi:=fi) (ms:=ms) (bad:=bad) hp (by omega);obtain⟨_,c2,i2,q2,b2,rfl,hq2⟩:=t312 (x:=x2) (f:=f) (n:=n) (s:=s) (fa:=fa) (fi:=fi) (ms:=ms) (bad:=b1) hq1 (by omega);obtain⟨_,c3,i3,b3,rfl⟩:=t311 (x:=x3) (p:=q2) (f:=f) (n:=n) (s:=s) (fa:=fa) (fi:=fi) (ms:=ms) (bad:=b2) (hwt _ (zMg e3));simp only[F313,zCi e1,zCi e2,zCi e3,c1,c2,c3,zAB,eq_self,zDt,zAt,zAD,zAS,zCg]
 refine Tot.bindE (fun z=>∃d e b,z=(w,(i3,i1,i2,d,e,[],[],[]),q2,f,n,s,fa,fi,ms,b)) ?_ ?_
 ·refine Tot.cnd (fun h=>?_) fun _=>Tot.ret ⟨_,_,_,rfl⟩
  simp only[zDe]at h;refine Tot.at (by omega) fun z hz=>Tot.bind (t311 (hwt _ (zMg hz))) ?_
  rintro _ ⟨_,b,rfl⟩;refine Tot.at (by omega) fun z hz=>Tot.bind (t311 (hwt _ (zMg hz))) ?_
  rintro _ ⟨_,b,rfl⟩;exact Tot.ret ⟨_,_,_,rfl⟩
 rintro _ ⟨d,e,b,rfl⟩;refine Tot.bindE (fun z=>∃b,z=((i3,i1,i2,d,e,[],[],[]),q2,f,n,s,fa,fi,ms,b)) ?_ ?_
 ·exact Tot.bind (t108 _ (by decide)) fun _ _=>Tot.cnd (fun _=>Tot.ret ⟨_,rfl⟩) fun _=>Tot.ret ⟨_,rfl⟩
 rintro _ ⟨b,rfl⟩;refine Tot.grd (by simp;omega) (Tot.ret ⟨_,_,_,rfl,hq2.mono (by omega),(hm.app ?_).mono (by omega)⟩);exact⟨by simp,by simp,by simp,by simp⟩
def t314 {w:List (List UInt8)}{p:List Cst}{f n s:Int}{fa:List Int}{fi:List (Int×Int×Int)}{ms:List Mth}{bad:Bool}{K:Nat}(hw:w.length=5)(h1:1≤ms.length)(hwt:∀ x∈w,x.length≤1000000000000)(hp:Pl K p)(hm:Ms K ms)(hK:K≤900000) :
  Tot (F314 (w,p,f,n,s,fa,fi,ms,bad)) fun y=>∃q ms' b,y=(q,f,n,s,fa,fi,ms',b)∧Pl (K+10) q∧Ms (K+10) ms':=by
 have hl:=hm.1;obtain⟨x1,e1⟩:∃x,w[1]? = some x:=⟨w[1],zGe (by omega)⟩
 obtain⟨x2,e2⟩:∃x,w[2]? = some x:=⟨w[2],zGe (by omega)⟩
 obtain⟨x3,e3⟩:∃x,w[3]? = some x:=⟨w[3],zGe (by omega)⟩
 obtain⟨x4,e4⟩:∃x,w[4]? = some x:=⟨w[4],zGe (by omega)⟩
 obtain⟨_,c1,i1,b1,rfl⟩:=t311 (x:=x1) (p:=p) (f:=f) (n:=n) (s:=s) (fa:=fa) (fi:=fi) (ms:=ms) (bad:=bad) (hwt _ (zMg e1));obtain⟨_,c2,i2,b2,rfl⟩:=t311 (x:=x2) (p:=p) (f:=f) (n:=n) (s:=s) (fa:=fa) (fi:=fi) (ms:=ms) (bad:=b1) (hwt _ (zMg e2));obtain⟨_,c3,i3,b3,rfl⟩:=t311 (x:=x3) (p:=p) (f:=f) (n:=n) (s:=s) (fa:=fa) (fi:=fi) (ms:=ms) (bad:=b2) (hwt _ (zMg e3));simp only[F314,zCi e1,zCi e2,zCi e3,zCi e4,c1,c2,c3,zAB,eq_self,zDt,zAt,zAD,zAS,zCg]
 refine Tot.bindE (fun z=>∃a q b,z=((i1,i2,i3,a),q,f,n,s,fa,fi,ms,b)∧Pl (K+10) q) ?_ ?_
 ·refine Tot.cnd (fun h=>?_) fun _=>Tot.ret ⟨_,_,_,rfl,hp.mono (by omega)⟩
  refine Tot.bind (t310 hp hK) ?_;rintro _ ⟨i,q,b,rfl,hq⟩;exact Tot.ret ⟨_,_,_,rfl,hq.mono (by omega)⟩
 rintro _ ⟨a,q,b,rfl,hq⟩;obtain⟨m,em⟩:∃m,ms[ms.length-1]? = some m:=⟨ms[ms.length-1],zGe (by omega)⟩
 have hmb:=hm.2 m (zMg em);have hlt:decide (ms.length-1<ms.length)=true:=by simp only[zDe];omega
 have g:(decide (List.length m.2.2.2.2.2.2.1+1≤9223372036854775807)&&decide ((List.length m.2.2.2.2.2.2.1+1)*32≤140737488355328))=true:=by
  have:=hmb.2.1;simp only[zBa,zDe];omega
 simp only[q315 h1 (show ms.length≤1000000 by omega),zNf h1 (show ms.length≤1000000 by omega),zAB,zCi em,eq_self,zDt,zAt,Bool.true_and,beq_self_eq_true,hlt,zAD,zAS,g,zCg]
 refine Tot.ret ⟨_,_,_,rfl,hq,(hm.mono (by omega)).set _ ?_⟩;obtain⟨k1,k2,k3,k4⟩:=hmb;exact⟨by simp only;omega,by simp only[zLa,zLc,zLn];omega,by simp only;omega,k4⟩
end
section
open Go Go.AM Go.TM Go.Stow
set_option maxRecDepth 10000
def Tot.mapgrd {R S:Type}{g:Bool}{r:Option R}{P:S→Prop}{f:Option R→Option S}(hg:g=true)(h:Tot (f r) P):Tot (f (grdO g r)) P:=by rw[hg];exact h
def tok_long {x:List UInt8}(h:Tok x)(h1:x≠[73]):3≤x.length:=by
 rcases h with rfl|⟨n,hn,rfl⟩
 ·exact absurd rfl h1
 ·have:=hn.1.1;simp only[zLc,zLa,zLn];omega
def zKv {v:List UInt8}{p:List Cst}{f n s:Int}{fa:List Int}{fi:List (Int×Int×Int)}{ms:List Mth}{bad:Bool}{K:Nat}{ri:Nat}{r0 r1 r2 r3 r4:Int}{r5:List UInt8}{r6:List (Int×Int×Int×Int)}{fr:List Frm}(hri:ri<ms.length)(hv:v.length≤1000000)(hp:Pl K p)(hK:K≤800000) :
  Tot (F807000316 (v,(p,f,n,s,fa,fi,bad),(ms,ri,r0,r1,r2,r3,r4,r5,r6),fr)) fun y=>∃l q b,y=(l,(q,f,n,s,fa,fi,b),(ms,ri,r0,r1,r2,r3,r4,r5,r6),fr)∧l.length≤16∧Pl (K+18) q:=by
 have gr:(decide (ri=ri)&&decide (ri<ms.length))=true:=by simp;exact hri
 unfold F807000316;refine Tot.cnd (fun _=>Tot.grd gr (Tot.ret ⟨_,_,_,rfl,by simp,hp.mono (by omega)⟩)) fun _=>?_
 refine Tot.bind (t278 (by omega) (by omega)) ?_;rintro y ⟨-,-,hy2,hy3⟩
 refine Tot.bindE (fun z=>∃l q b,z=(l,(q,f,n,s,fa,fi,b),(ms,ri,r0,r1,r2,r3,r4,r5,r6),fr)∧l.length≤16∧Pl (K+18) q)
  (Tot.grd gr (Tot.loop (fun z=>∃l i q b,z=(l,y,i,(q,f,n,s,fa,fi,b),(ms,ri,r0,r1,r2,r3,r4,r5,r6),fr)∧0≤i∧i≤(y.length:Int)∧(l.length:Int)≤i∧Pl (K+2*i.toNat) q) (fun z=>y.length-z.2.2.1.toNat) ?_ ⟨[],0,p,bad,rfl,by simp,by simp,by simp,hp.mono (by omega)⟩)) ?_
 ·rintro _ ⟨l,i,q,b,rfl,i0,i1,hl,hq⟩;refine Tot.cnd (fun h=>?_) fun h=>Tot.mapgrd gr (Tot.ret ⟨_,_,_,rfl,by omega,hq.mono (by omega)⟩)
  simp only[zDe]at h;obtain⟨x,ex⟩:∃x,y[i.toNat]? = some x:=⟨y[i.toNat],zGe (by omega)⟩
  have hx:=hy3 x (zMg ex);have gi:(decide ((0:Int)≤i)&&decide (i<(y.length:Int)))=true:=by simp;omega
  have gl:(decide (List.length l+1≤9223372036854775807)&&decide ((List.length l+1)*16≤140737488355328))=true:=by simp;omega
  refine Tot.bindE (fun z=>∃l' q' b',z=(l',y,i,(q',f,n,s,fa,fi,b'),(ms,ri,r0,r1,r2,r3,r4,r5,r6),fr)∧(l'.length:Int)≤i+1∧Pl (K+2*i.toNat+2) q') ?_ ?_
  ·refine Tot.grd gi (Tot.at' ex (Tot.cnd (fun _=>Tot.grd gl (Tot.grd gr (Tot.ret ⟨_,_,_,rfl,by simp;omega,hq.mono (by omega)⟩))) fun h1=>?_));simp only[zDn]at h1;refine Tot.grd gi (Tot.at' ex (Tot.cnd (fun _=>Tot.grd gl (Tot.grd gr (Tot.ret ⟨_,_,_,rfl,by simp;omega,hq.mono (by omega)⟩))) fun h2=>?_));refine Tot.grd gi (Tot.at' ex (Tot.cnd (fun _=>Tot.grd gl (Tot.grd gr (Tot.ret ⟨_,_,_,rfl,by simp;omega,hq.mono (by omega)⟩))) fun h3=>?_));refine Tot.grd gi (Tot.at' ex ?_);rw[n128 x (by omega),zAB];refine Tot.cnd (fun ht=>?_) fun _=>Tot.grd gr (Tot.ret ⟨_,_,_,rfl,by omega,hq.mono (by omega)⟩)
   simp only[zDe]at ht;have h3l:=tok_long ht h1;refine Tot.grd gi (Tot.at' ex (Tot.grd gi (Tot.at' ex (Tot.grd ?_ ?_))))
   ·rw[wrapI (by omega) (by omega)];simp;omega
   refine Tot.bind (zUa hri hq (by omega)) ?_;rintro _ ⟨_,q',b',rfl,hq'⟩;exact Tot.grd gl (Tot.grd gr (Tot.ret ⟨_,_,_,rfl,by simp;omega,hq'.mono (by omega)⟩))
  rintro _ ⟨l',q',b',rfl,hl',hq'⟩;have hw:IntKind.wrap .i64 (i+1)=i+1:=wrapI (by omega) (by omega);refine Tot.grd gr ?_;show Tot (some (Sum.inl (l',y,IntKind.wrap .i64 (i+1),(q',f,n,s,fa,fi,b'),(ms,ri,r0,r1,r2,r3,r4,r5,r6),fr))) _;rw[hw];exact Tot.ret ⟨⟨_,_,_,_,rfl,by omega,by omega,hl',hq'.mono (by omega)⟩,by show y.length-(i+1).toNat<y.length-i.toNat;omega⟩
 rintro _ ⟨l,q,b,rfl,hl,hq⟩;exact Tot.grd gr (Tot.ret ⟨_,_,_,rfl,hl,hq⟩)
def Bu (K:Nat)(y:List Cst×Int×Int×Int×List Int×List (Int×Int×Int)×List Mth×Bool):Prop:=Pl K y.1∧y.2.2.2.2.1.length≤K∧y.2.2.2.2.2.1.length≤K∧Ms K y.2.2.2.2.2.2.1
def Bu.mono {K L:Nat}{y:List Cst×Int×Int×Int×List Int×List (Int×Int×Int)×List Mth×Bool}(h:Bu K y)(hc:K≤L):Bu L y:=⟨h.1.mono hc,Nat.le_trans h.2.1 hc,Nat.le_trans h.2.2.1 hc,h.2.2.2.mono hc⟩
def t279 {v:List UInt8}{p:List Cst}{f n s:Int}{fa:List Int}{fi:List (Int×Int×Int)}{ms:List Mth}{bad:Bool}{K:Nat}(hv:v.length≤1000000)(h:Bu K (p,f,n,s,fa,fi,ms,bad))(hK:K≤700000) :
  Tot (F279 (v,p,f,n,s,fa,fi,ms,bad)) (Bu (K+60)):=by
 obtain⟨hp,hfa,hfi,hm⟩:=h;simp only at hp hfa hfi hm;have hl:=hm.1;unfold F279;refine Tot.bindE (fun z=>∃b,z=(v,b,p,f,n,s,fa,fi,ms,bad)∧(b=true→2<v.length)) ?_ ?_
 ·refine Tot.cnd (fun h=>?_) fun _=>Tot.ret ⟨_,rfl,by simp⟩
  simp only[zDe]at h;exact Tot.grd (by simp;omega) (Tot.ret ⟨_,rfl,fun _=>by omega⟩)
 rintro _ ⟨b,rfl,hb⟩;refine Tot.cnd (fun h=>?_) fun _=>?_
 ·have:=hb h;refine Tot.grd (by simp;omega) (Tot.bind (t278 (by simp;omega) (by omega)) ?_);rintro y ⟨hy1,-,hy2,hy3⟩;refine Tot.bind (t309 (by omega) (by omega) (fun x hx=>by have:=hy3 x hx;simp only[zLd,zLt]at this;omega) hp hm (by omega)) ?_;rintro _ ⟨q,ms',b,rfl,hq,hm'⟩;exact Tot.ret ⟨hq.mono (by omega),by simp only;omega,by simp only;omega,hm'.mono (by omega)⟩
 refine Tot.bind (t278 (by omega) (by omega)) ?_;rintro w ⟨hw1,-,hw2,hw3⟩;have hwt:∀x∈w,x.length≤1000000:=fun x hx=>by have:=hw3 x hx;omega
 have hwt':∀x∈w,x.length≤1000000000000:=fun x hx=>by have:=hw3 x hx;omega
 have keep:∀{b:Bool},Bu (K+60) (p,f,n,s,fa,fi,ms,b):=⟨hp.mono (by omega),by simp only;omega,by simp only;omega,hm.mono (by omega)⟩
 refine Tot.bindE (fun z=>z=(w,decide ((0:Int)<(ms.length:Int)),p,f,n,s,fa,fi,ms,bad)) (Tot.ret rfl) ?_;rintro _ rfl;generalize hbo:decide ((0:Int)<(ms.length:Int))=body;refine Tot.bindE (fun z=>Bu (K+60) z) ?_ ?_
 ·refine Tot.bindE (fun z=>∃b,z=(w,body,b,p,f,n,s,fa,fi,ms,bad)∧(b=true→w.length=4)) ?_ ?_
  ·refine Tot.grd (by simp;omega) (Tot.at (by show 0<w.length;omega) fun x _=>Tot.cnd (fun _=>Tot.cnd (fun h=>?_) fun _=>Tot.ret ⟨_,rfl,by simp⟩) fun _=>Tot.ret ⟨_,rfl,by simp⟩);simp only[zDe]at h;exact Tot.ret ⟨_,rfl,fun _=>by omega⟩
  rintro _ ⟨b,rfl,hb⟩;refine Tot.cnd (fun h=>?_) fun _=>?_
  ·have:=hb h;refine Tot.grd (by simp;omega) (Tot.at (by show 1<w.length;omega) fun x1 _=>Tot.bind (t310 hp (by omega)) ?_);rintro _ ⟨_,q,b,rfl,hq⟩;refine Tot.grd (by simp;omega) (Tot.at (by show 2<w.length;omega) fun x2 _=>Tot.bind (t310 hq (by omega)) ?_);rintro _ ⟨_,q,b,rfl,hq⟩;refine Tot.grd (by simp;omega) (Tot.at (by show 3<w.length;omega) fun x3 hx3=>Tot.bind (t311 (hwt' _ (zMg hx3))) ?_);rintro _ ⟨_,b,rfl⟩;exact Tot.ret ⟨hq.mono (by omega),by simp only;omega,by simp only;omega,hm.mono (by omega)⟩
  refine Tot.bindE (fun z=>∃b,z=(w,body,b,p,f,n,s,fa,fi,ms,bad)∧(b=true→w.length=2)) ?_ ?_
  ·exact Tot.grd (by simp;omega) (Tot.at (by show 0<w.length;omega) fun x _=>Tot.cnd (fun _=>Tot.ret ⟨_,rfl,fun h=>by simp only[zDe]at h;omega⟩) fun _=>Tot.ret ⟨_,rfl,by simp⟩)
  rintro _ ⟨b,rfl,hb⟩;refine Tot.cnd (fun h=>?_) fun _=>?_
  ·have:=hb h;refine Tot.grd (by simp;omega) (Tot.at (by show 1<w.length;omega) fun x1 _=>Tot.bind (t5000310 hp (by omega)) ?_);rintro _ ⟨_,q,b,rfl,hq⟩;exact Tot.grd (by simp;omega) (Tot.ret ⟨hq.mono (by omega),by simp;omega,by simp only;omega,hm.mono (by omega)⟩)
  refine Tot.bindE (fun z=>∃b,z=(w,body,b,p,f,n,s,fa,fi,ms,bad)∧(b=true→w.length=4)) ?_ ?_
  ·exact Tot.grd (by simp;omega) (Tot.at (by show 0<w.length;omega) fun x _=>Tot.cnd (fun _=>Tot.ret ⟨_,rfl,fun h=>by simp only[zDe]at h;omega⟩) fun _=>Tot.ret ⟨_,rfl,by simp⟩)
  rintro _ ⟨b,rfl,hb⟩;refine Tot.cnd (fun h=>?_) fun _=>?_
  ·have hw4:=hb h;obtain⟨x1,e1⟩:∃x,w[1]? = some x:=⟨w[1],zGe (by omega)⟩
   obtain⟨x2,e2⟩:∃x,w[2]? = some x:=⟨w[2],zGe (by omega)⟩
   obtain⟨x3,e3⟩:∃x,w[3]? = some x:=⟨w[3],zGe (by omega)⟩
   have g1:decide (1<w.length)=true:=by simp only[zDe];omega
   have g2:decide (2<w.length)=true:=by simp only[zDe];omega
   have g3:decide (3<w.length)=true:=by simp only[zDe];omega
   have k1:decide ((1:Int)<(w.length:Int))=true:=by simp only[zDe];omega
   have k2:decide ((2:Int)<(w.length:Int))=true:=by simp only[zDe];omega
   have k3:decide ((3:Int)<(w.length:Int))=true:=by simp only[zDe];omega
   obtain⟨_,c1,i1,q1,b1,rfl,hq1⟩:=zSz (x:=x1) (f:=f) (n:=n) (s:=s) (fa:=fa) (fi:=fi) (ms:=ms) (bad:=bad) hp (by omega);obtain⟨_,c2,i2,q2,b2,rfl,hq2⟩:=zSz (x:=x2) (f:=f) (n:=n) (s:=s) (fa:=fa) (fi:=fi) (ms:=ms) (bad:=b1) hq1 (by omega);obtain⟨_,c3,i3,b3,rfl⟩:=t6000311 (x:=x3) (p:=q2) (f:=f) (n:=n) (s:=s) (fa:=fa) (fi:=fi) (ms:=ms) (bad:=b2) (hwt' _ (zMg e3));have gl:(decide (List.length fi+1≤9223372036854775807)&&decide ((List.length fi+1)*24≤140737488355328))=true:=by simp;omega
   simp only[k1,k2,k3,g1,g2,g3,zCi e1,zCi e2,zCi e3,c1,c2,c3,zAB,eq_self,zDt,zAD,zAS,gl]
   exact Tot.ret ⟨hq2.mono (by omega),by simp only;omega,by simp;omega,hm.mono (by omega)⟩
  refine Tot.bindE (fun z=>∃b,z=(w,body,b,p,f,n,s,fa,fi,ms,bad)∧(b=true→w.length=4∨w.length=6)) ?_ ?_
  ·refine Tot.grd (by simp;omega) (Tot.at (by show 0<w.length;omega) fun x _=>Tot.cnd (fun _=>Tot.cnd (fun h=>?_) fun _=>Tot.ret ⟨_,rfl,fun h=>by simp only[zDe]at h;omega⟩) fun _=>Tot.ret ⟨_,rfl,by simp⟩);simp only[zDe]at h;exact Tot.ret ⟨_,rfl,fun _=>by omega⟩
  rintro _ ⟨b,rfl,hb⟩;refine Tot.cnd (fun h=>?_) fun _=>?_
  ·refine Tot.bind (t313 (hb h) hwt' hp hm (by omega)) ?_;rintro _ ⟨q,ms',b,rfl,hq,hm'⟩;exact Tot.ret ⟨hq.mono (by omega),by simp only;omega,by simp only;omega,hm'.mono (by omega)⟩
  refine Tot.bindE (fun z=>∃b,z=(w,body,b,p,f,n,s,fa,fi,ms,bad)∧(b=true→w.length=5∧body=true)) ?_ ?_
  ·refine Tot.grd (by simp;omega) (Tot.at (by show 0<w.length;omega) fun x _=>Tot.cnd (fun _=>Tot.cnd (fun h=>?_) fun _=>Tot.ret ⟨_,rfl,by simp⟩) fun _=>Tot.ret ⟨_,rfl,by simp⟩);simp only[zDe]at h;exact Tot.ret ⟨_,rfl,fun h=>⟨by omega,h⟩⟩
  rintro _ ⟨b,rfl,hb⟩;refine Tot.cnd (fun h=>?_) fun _=>?_
  ·obtain⟨h5,h6⟩:=hb h;rw[←hbo,zDe]at h6;refine Tot.bind (t314 h5 (by omega) hwt' hp hm (by omega)) ?_;rintro _ ⟨q,ms',b,rfl,hq,hm'⟩;exact Tot.ret ⟨hq.mono (by omega),by simp only;omega,by simp only;omega,hm'.mono (by omega)⟩
  refine Tot.bindE (fun z=>∃b,z=(w,b,p,f,n,s,fa,fi,ms,bad)∧(b=true→w.length=4∧body=true)) ?_ ?_
  ·refine Tot.grd (by simp;omega) (Tot.at (by show 0<w.length;omega) fun x _=>Tot.cnd (fun _=>Tot.cnd (fun h=>?_) fun _=>Tot.ret ⟨_,rfl,by simp⟩) fun _=>Tot.ret ⟨_,rfl,by simp⟩);simp only[zDe]at h;exact Tot.ret ⟨_,rfl,fun h=>⟨by omega,h⟩⟩
  rintro _ ⟨b,rfl,hb⟩;refine Tot.cnd (fun h=>?_) fun _=>Tot.ret keep
  obtain⟨h5,h6⟩:=hb h;rw[←hbo,zDe]at h6;have h1:1≤ms.length:=by omega
  obtain⟨x1,e1⟩:∃x,w[1]? = some x:=⟨w[1],zGe (by omega)⟩
  obtain⟨x2,e2⟩:∃x,w[2]? = some x:=⟨w[2],zGe (by omega)⟩
  obtain⟨x3,e3⟩:∃x,w[3]? = some x:=⟨w[3],zGe (by omega)⟩
  have g1:decide (1<w.length)=true:=by simp only[zDe];omega
  have g2:decide (2<w.length)=true:=by simp only[zDe];omega
  have g3:decide (3<w.length)=true:=by simp only[zDe];omega
  have j1:decide ((1:Int)<(w.length:Int))=true:=by simp only[zDe];omega
  have j2:decide ((2:Int)<(w.length:Int))=true:=by simp only[zDe];omega
  have j3:decide ((3:Int)<(w.length:Int))=true:=by simp only[zDe];omega
  obtain⟨m,em⟩:∃m,ms[ms.length-1]? = some m:=⟨ms[ms.length-1],zGe (by omega)⟩
  have hmb:=hm.2 m (zMg em);have hlt:decide (ms.length-1<ms.length)=true:=by simp only[zDe];omega
  obtain⟨m0,m1,m2,m3,m4,m5,m6,m7⟩:=m;obtain⟨k1,k2,k3,k4⟩:=hmb;simp only at k1 k2 k3 k4;obtain⟨_,c1,i1,b1,rfl⟩:=zUZ (x:=x1) (p:=p) (f:=f) (n:=n) (s:=s) (fa:=fa) (fi:=fi) (ms:=ms) (bad:=bad) (ri:=ms.length-1) (r0:=m0) (r1:=m1) (r2:=m2) (r3:=m3) (r4:=m4) (r5:=m5) (r6:=m6) (fr:=m7) (by omega) (hwt' _ (zMg e1));obtain⟨_,c2,i2,q2,b2,rfl,l2,hq2⟩:=zKv (v:=x2) (f:=f) (n:=n) (s:=s) (fa:=fa) (fi:=fi) (ms:=ms) (bad:=b1) (ri:=ms.length-1) (r0:=m0) (r1:=m1) (r2:=m2) (r3:=m3) (r4:=m4) (r5:=m5) (r6:=m6) (fr:=m7) (by omega) (hwt _ (zMg e2)) hp (by omega);obtain⟨_,c3,i3,q3,b3,rfl,l3,hq3⟩:=zKv (v:=x3) (f:=f) (n:=n) (s:=s) (fa:=fa) (fi:=fi) (ms:=ms) (bad:=b2) (ri:=ms.length-1) (r0:=m0) (r1:=m1) (r2:=m2) (r3:=m3) (r4:=m4) (r5:=m5) (r6:=m6) (fr:=m7) (by omega) (hwt _ (zMg e3)) hq2 (by omega);have gl:(decide (List.length m7+1≤9223372036854775807)&&decide ((List.length m7+1)*56≤140737488355328))=true:=by simp;omega
  simp only[g1,g2,g3,j1,j2,j3,q315 h1 (show ms.length≤1000000 by omega),zNf h1 (show ms.length≤1000000 by omega),zCi e1,zCi e2,zCi e3,zCi em,c1,c2,c3,zAB,eq_self,zDt,zAt,Bool.true_and,beq_self_eq_true,hlt,zAD,zAS,gl]
  refine Tot.ret ⟨hq3.mono (by omega),by simp only;omega,by simp only;omega,(hm.mono (by omega)).set _ ?_⟩;refine⟨by simp only;omega,by simp only;omega,by simp only[zLa,zLc,zLn];omega,fun f hf=>?_⟩;simp only[List.mem_append,List.mem_singleton]at hf;rcases hf with hf|rfl
  ·exact k4 f hf
  ·exact⟨l2,l3⟩
 ·rintro⟨p,f,n,s,fa,fi,ms,bad⟩ hz;exact Tot.ret hz
def Bu.cls {K:Nat}{p:List Cst}{f n s:Int}{fa:List Int}{fi:List (Int×Int×Int)}{ms:List Mth}{bad:Bool}(h:Bu K (p,f,n,s,fa,fi,ms,bad))(hK:K≤1000000):bCls (p,f,n,s,fa,fi,ms):=by
 obtain⟨⟨h1,h2⟩,h3,h4,h5,h6⟩:=h;simp only at h1 h2 h3 h4 h5 h6;refine⟨⟨by simp only;omega,fun x hx=>?_⟩,by simp only;omega,by simp only;omega,by simp only;omega,fun m hm=>?_⟩
 ·have:=h2 x hx;unfold bCst;omega
 ·obtain⟨k1,k2,k3,k4⟩:=h6 m hm;refine⟨by omega,by omega,by omega,fun f hf=>?_⟩;have:=k4 f hf;exact⟨by unfold zHe;omega,by unfold zHe;omega⟩
def t218 {s:List UInt8}:Tot (F218 s) fun y=>y.1=true→put y.2≠[]:=by
 unfold F218;refine Tot.bindE (fun z=>z=(s,[],0,0,0,[],[],[])∧1≤s.length∧s.length≤2500) ?_ ?_
 ·refine Tot.cnd (fun _=>Tot.ret (by simp)) fun h=>Tot.cnd (fun _=>Tot.ret (by simp)) fun h1=>?_
  simp only[zDn]at h h1;have hw:IntKind.wrap .i64 ((s.length:Int)-1)=(s.length:Int)-1:=wrapI (by omega) (by omega);simp only[hw]
  exact Tot.grd (by simp;omega) (Tot.at (by omega) fun x _=>Tot.cnd (fun _=>Tot.ret (by simp)) fun _=>Tot.ret ⟨rfl,by omega,by omega⟩)
 rintro _ ⟨rfl,h1,h2⟩;refine Tot.bind (t278 (by omega) (by omega)) ?_;rintro y ⟨hy1,hy2,-,hy3⟩;have hw:IntKind.wrap .i64 ((y.length:Int)-1)=(y.length:Int)-1:=wrapI (by omega) (by omega)
 refine Tot.bindE (fun z=>∃b,z=(([],0,0,0,[],[],[]),b)∧Bu 200000 b)
  (Tot.loop (fun z=>∃i b,z=(y,i,([],0,0,0,[],[],[]),b)∧0≤i∧i≤(y.length:Int)∧Bu (60*i.toNat) b) (fun z=>y.length-z.2.1.toNat) ?_ ⟨0,_,rfl,by simp,by simp,⟨by simp,by simp⟩,by simp,by simp,by simp,by simp⟩) ?_
 ·rintro _ ⟨i,⟨p,f,n,s',fa,fi,ms,bad⟩,rfl,i0,i1,hb⟩;refine Tot.bindE (fun z=>z=(y,i,([],0,0,0,[],[],[]),p,f,n,s',fa,fi,ms,bad)∧i<(y.length:Int)) ?_ ?_
  ·refine Tot.cnd (fun h=>Tot.cnd (fun _=>?_) fun _=>Tot.ret ⟨_,rfl,hb.mono (by omega)⟩) fun _=>Tot.ret ⟨_,rfl,hb.mono (by omega)⟩
   simp only[hw,zDe]at h;exact Tot.ret ⟨rfl,by omega⟩
  rintro _ ⟨rfl,hi⟩;obtain⟨x,ex⟩:∃x,y[i.toNat]? = some x:=⟨y[i.toNat],zGe (by omega)⟩
  have hx:=hy3 x (zMg ex);refine Tot.grd (by simp;omega) (Tot.at' ex (Tot.bind (t279 (by omega) hb (by omega)) ?_));rintro⟨p',f',n',s1,fa',fi',ms',bad'⟩ hb';have hw':IntKind.wrap .i64 (i+1)=i+1:=wrapI (by omega) (by omega);show Tot (some (Sum.inl (y,IntKind.wrap .i64 (i+1),(([],0,0,0,[],[],[]):Cls),p',f',n',s1,fa',fi',ms',bad'))) _;rw[hw'];exact Tot.ret ⟨⟨_,_,rfl,by omega,by omega,hb'.mono (by omega)⟩,by show y.length-(i+1).toNat<y.length-i.toNat;omega⟩
 rintro _ ⟨⟨p,f,n,s',fa,fi,ms,bad⟩,rfl,hb⟩;have hc:=hb.cls (by omega);refine Tot.bindE (fun z=>z=(([],0,0,0,[],[],[]),p,f,n,s',fa,fi,ms,bad)∧put (p,f,n,s',fa,fi,ms)≠[]) ?_ ?_
 ·refine Tot.cnd (fun _=>Tot.ret (by simp)) fun _=>?_
  rw[put22 _ hc,zAB];refine Tot.cnd (fun _=>Tot.ret (by simp)) fun h=>?_
  simp only[zDn]at h;rw[chk88 _ (zFa h),zAB];exact Tot.cnd (fun _=>Tot.ret (by simp)) fun _=>Tot.ret ⟨rfl,h⟩
 rintro _ ⟨rfl,h⟩;exact Tot.ret fun _=>h
end
end Go.Proofs.YtdpapeledldifaaGreat
