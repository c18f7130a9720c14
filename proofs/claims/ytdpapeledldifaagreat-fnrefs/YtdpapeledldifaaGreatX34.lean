/- Part 35 of the proof that the law FnRefs holds of every input; no condition. -/
import Derived.Test.YtdpapeledldifaaGreatX33
import Derived.Lib.SlicesCompact
set_option autoImplicit true
set_option relaxedAutoImplicit true
set_option linter.all false
section
namespace Go.Stow
abbrev Str:=List UInt8
def Asc (l:List Str):Prop:=l.Pairwise (· < ·)
theorem zGC {a b:Str}(h:a≤b)(g:a≠b):a<b:=by
 by_cases x:a<b
 ·exact x
 ·exact absurd (List.le_antisymm h (List.not_lt.1 x)) g
theorem zVR {a b:Str}(h:¬ a<b):b≤a:=List.not_lt.1 h
theorem lt_le {a b c:Str}(h:a≤b)(g:b<c):a<c:=by
 by_cases e:a=b
 ·rw[e];exact g
 ·exact List.lt_trans (zGC h e) g
theorem zRA (d:Array Str)(hd:∀ i j,i≤j→j<d.size→d[i]! ≤ d[j]!):∀m,m≤d.size →
  Asc (Lib.compactUpTo d m)∧∀x,x∈Lib.compactUpTo d m↔∃j,j<m∧d[j]! = x
 | 0,_=>by
   refine⟨by simp[Lib.compactUpTo,Asc],fun x=>?_⟩
   simp[Lib.compactUpTo]
 | m+1,hm=>by
   obtain⟨h1,h2⟩:=zRA d hd m (by omega)
   rw[Lib.compactUpTo_succ]
   by_cases hk:Lib.keeps d m=true
   ·rw[if_pos hk]
    refine⟨List.pairwise_append.2 ⟨h1,by simp,fun a ha b hb=>?_⟩,fun x=>?_⟩
    ·obtain⟨j,hj,rfl⟩:=(h2 a).1 ha
     rw[List.mem_singleton.1 hb]
     simp only[Lib.keeps,zDe]at hk
     rcases hk with hk|hk
     ·omega
     ·exact lt_le (hd j (m-1) (by omega) (by omega)) (zGC (hd (m-1) m (by omega) (by omega)) fun e=>hk e.symm)
    ·rw[List.mem_append,h2,List.mem_singleton]
     constructor
     ·rintro(⟨j,hj,e⟩|rfl)
      ·exact⟨j,by omega,e⟩
      ·exact⟨m,by omega,rfl⟩
     ·rintro⟨j,hj,e⟩
      by_cases hjm:j=m
      ·subst hjm;exact .inr e.symm
      ·exact .inl ⟨j,by omega,e⟩
   ·rw[if_neg hk,List.append_nil]
    refine⟨h1,fun x=>?_⟩
    rw[h2]
    simp only[Lib.keeps,zDe,not_or,ne_eq,Decidable.not_not]at hk
    constructor
    ·rintro⟨j,hj,e⟩;exact⟨j,by omega,e⟩
    ·rintro⟨j,hj,e⟩
     by_cases hjm:j=m
     ·subst hjm;exact⟨j-1,by omega,by rw[←hk.2];exact e⟩
     ·exact⟨j,by omega,e⟩
theorem zIT {l:List Str}{j:Nat}(h:j<l.length):l.toArray[j]! = l[j]:=by
 rw[getElem!_pos l.toArray j (by simpa using h)];simp
theorem zJi (l:List Str):Asc (Lib.compact (l.mergeSort fun x y=>decide (x≤y)))∧∀x,x∈Lib.compact (l.mergeSort fun x y=>decide (x≤y))↔x∈l:=by
 have hp:=List.pairwise_mergeSort (le:=fun x y:Str=>decide (x≤y)) (fun a b c h g=>by
  simp only[zDe]at h g ⊢;exact List.le_trans h g) (fun a b=>by
  simp only[Bool.or_eq_true,zDe];exact List.le_total a b) l
 have hm:∀x,x∈l.mergeSort (fun x y=>decide (x≤y))↔x∈l:=fun x=>List.mem_mergeSort
 revert hp hm
 generalize l.mergeSort (fun x y=>decide (x≤y))=s
 intro hp hm
 simp only[zDe]at hp
 have hd:∀i j,i≤j→j<s.toArray.size→s.toArray[i]! ≤ s.toArray[j]! := by
  intro i j hij hj
  have hj:j<s.length:=by simpa using hj
  rw[zIT hj,zIT (by omega)]
  by_cases e:i=j
  ·subst e;exact List.le_refl _
  ·exact List.pairwise_iff_getElem.1 hp i j (by omega) hj (by omega)
 obtain⟨h1,h2⟩:=zRA s.toArray hd s.length (by simp)
 refine⟨h1,fun x=>?_⟩
 rw[←hm x]
 refine(h2 x).trans ?_
 rw[List.mem_iff_getElem]
 constructor
 ·rintro⟨j,hj,e⟩;exact⟨j,hj,by rw[←e,zIT hj]⟩
 ·rintro⟨j,hj,e⟩;exact⟨j,hj,by rw[zIT hj,e]⟩
theorem zNN:∀{a b:List Str},Asc a→Asc b→(∀x,x∈a↔x∈b)→a=b
 |[],[],_,_,_=>rfl
 |[],y::b,_,_,h=>absurd ((h y).2 (by simp)) (by simp)
 |x::a,[],_,_,h=>absurd ((h x).1 (by simp)) (by simp)
 | x::a,y::b,ha,hb,h=>by
   have ha:=List.pairwise_cons.1 ha
   have hb:=List.pairwise_cons.1 hb
   have hxy:x=y:=by
    rcases List.mem_cons.1 ((h x).1 (by simp))with e|e
    ·exact e
    ·rcases List.mem_cons.1 ((h y).2 (by simp))with e'|e'
     ·exact e'.symm
     ·exact absurd (List.lt_trans (hb.1 x e) (ha.1 y e')) (List.lt_irrefl _)
   subst hxy
   congr 1
   refine zNN ha.2 hb.2 fun z=>?_
   constructor
   ·intro hz
    rcases List.mem_cons.1 ((h z).1 (List.mem_cons_of_mem _ hz))with e|e
    ·subst e;exact absurd (ha.1 z hz) (List.lt_irrefl _)
    ·exact e
   ·intro hz
    rcases List.mem_cons.1 ((h z).2 (List.mem_cons_of_mem _ hz))with e|e
    ·subst e;exact absurd (hb.1 z hz) (List.lt_irrefl _)
    ·exact e
def Place (l:List Str)(x:Str)(k:Nat):Prop:=k≤l.length∧(∀i (h:i<l.length),i<k→l[i]<x)∧∀h:k<l.length,¬l[k]<x
theorem zUr {l:List Str}{x:Str}{k:Nat}(hl:Asc l)(hk:Place l x k)(hn:∀ h:k<l.length,l[k]≠x):Asc (l.take k++x::l.drop k):=by
 obtain⟨h0,h1,h2⟩:=hk
 have hlt:∀y∈l.drop k,x<y:=by
  intro y hy
  obtain⟨j,hj,rfl⟩:=List.mem_iff_getElem.1 hy
  rw[List.length_drop]at hj
  rw[List.getElem_drop]
  have hk':x<l[k]'(by omega):=zGC (zVR (h2 (by omega))) fun e=>hn (by omega) e.symm
  by_cases e:j=0
  ·subst e;simpa using hk'
  ·exact List.lt_trans hk' (List.pairwise_iff_getElem.1 hl k (k+j) (by omega) (by omega) (by omega))
 have htk:∀y∈l.take k,y<x:=by
  intro y hy
  obtain⟨j,hj,rfl⟩:=List.mem_iff_getElem.1 hy
  rw[List.length_take]at hj
  rw[List.getElem_take]
  exact h1 j (by omega) (by omega)
 refine List.pairwise_append.2 ⟨hl.sublist (List.take_sublist _ _),List.pairwise_cons.2 ⟨hlt,hl.sublist (List.drop_sublist _ _)⟩,fun a ha b hb=>?_⟩
 rcases List.mem_cons.1 hb with rfl|hb
 ·exact htk a ha
 ·exact List.lt_trans (htk a ha) (hlt b hb)
theorem zUq {l:List Str}{x y:Str}{k:Nat}:y∈l.take k++x::l.drop k↔y=x∨y∈l:=by
 rw[show(y∈l)=(y∈l.take k++l.drop k)by rw[List.take_append_drop]]
 simp only[List.mem_append,List.mem_cons]
 constructor<;>(rintro(h|h|h)<;>simp[h])
noncomputable def insN (l:List Str)(x:Str):List Str:=(Lib.compact ((x::l).mergeSort fun x y=>decide (x≤y)))
theorem zMo (l:List Str)(x:Str):Asc (insN l x)∧∀y,y∈insN l x↔y=x∨y∈l:=by
 obtain⟨h1,h2⟩:=zJi (x::l)
 exact⟨h1,fun y=>(h2 y).trans List.mem_cons⟩
theorem zVZ {l:List Str}{x:Str}(hl:Asc l)(hx:x∈l):l=insN l x:=by
 obtain⟨h1,h2⟩:=zMo l x
 refine zNN hl h1 fun y=>?_
 rw[h2]
 exact⟨.inr,fun h=>h.elim (fun e=>e▸hx) id⟩
theorem zOs {l:List Str}{x:Str}{k:Nat}(hl:Asc l)(hk:Place l x k)(hn:∀ h:k<l.length,l[k]≠x):l.take k++x::l.drop k=insN l x:=by
 obtain⟨h1,h2⟩:=zMo l x
 exact zNN (zUr hl hk hn) h1 fun y=>zUq.trans (h2 y).symm
noncomputable def insL (l:List Str)(xs:List Str):List Str:=xs.foldl insN l
theorem zGn:∀(xs l:List Str),Asc l→Asc (insL l xs)∧∀y,y∈insL l xs↔y∈xs∨y∈l
 |[],l,hl=>⟨hl,fun y=>by simp[insL]⟩
 | x::xs,l,hl=>by
   obtain⟨h1,h2⟩:=zMo l x
   obtain⟨h3,h4⟩:=zGn xs (insN l x) h1
   refine⟨h3,fun y=>?_⟩
   refine(h4 y).trans ?_
   rw[h2,List.mem_cons]
   constructor
   ·rintro(h|h|h)<;>simp[h]
   ·rintro((h|h)|h)<;>simp[h]
theorem zOt (xs:List Str):insL [] xs=Lib.compact (xs.mergeSort fun x y=>decide (x≤y)):=by
 obtain⟨h1,h2⟩:=zGn xs [] List.Pairwise.nil
 obtain⟨h3,h4⟩:=zJi xs
 exact zNN h1 h3 fun y=>by rw[h2,h4];simp
end Go.Stow
end
section
namespace Go.Stow
theorem zSG:∀(k:Nat) {l b:Str} {ts:List Str},more k l=some (ts,b)→∀t∈ts,Tok t
 |0,[],b,ts,h=>by cases h
 |_+1,[],b,ts,h=>by cases h
 | 0,x::l,b,ts,h=>by
   unfold more at h
   by_cases hx:x=41
   ·rw[if_pos hx]at h
    obtain⟨rfl,rfl⟩:=Prod.mk.inj (Option.some.inj h)
    simp
   ·rw[if_neg hx]at h;cases h
 | k+1,x::l,b,ts,h=>by
   rw[zFI]at h
   by_cases hx:x=41
   ·rw[if_pos hx]at h
    obtain⟨rfl,rfl⟩:=Prod.mk.inj (Option.some.inj h)
    simp
   ·rw[if_neg hx]at h
    cases ho:one (x::l)with
    |none=>rw[ho]at h;cases h
    | some p =>
      obtain⟨t,r⟩:=p
      rw[ho,Option.bind_some]at h
      cases hm:more k r with
      |none=>simp only[hm,Option.map_none]at h;cases h
      | some q =>
        obtain⟨ts',b'⟩:=q
        simp only[hm,Option.map_some,zSe,Prod.mk.injEq]at h
        obtain⟨rfl,rfl⟩:=h
        intro u hu
        rcases List.mem_cons.1 hu with rfl|hu
        ·exact(zCA ho).2
        ·exact zSG k hm u hu
theorem zMz {s:Str}(h:Dsc s):∀t∈(dsc s).1++[(dsc s).2.1],Tok t∨t=[86]:=by
 unfold Dsc at h
 revert h
 unfold dsc
 split
 ·intro h;cases h
 ·split
  ·split
   ·intro h;cases h
   ·rename_i ts back hm
    split
    ·rename_i hb
     intro _ t ht
     rcases List.mem_append.1 ht with ht|ht
     ·exact .inl (zSG 4 hm t ht)
     ·rw[List.mem_singleton.1 ht]
      exact hb.symm
    ·intro h;cases h
  ·intro h;cases h
theorem zPp {s:Str}(h:Tok s):¬Dsc s:=by
 rcases h with rfl|⟨n,_,rfl⟩<;>simp[Dsc,dsc]
def nmT (t:Str):List Str:=if 1<t.length then [(t.drop 1).take (t.length-2)]else []
theorem nmT_L (n:Str):nmT (76::(n++[59]))=[n]:=by simp[nmT]
noncomputable def typs (s:Str):List Str:=if Tok s then [s]else if Dsc s then(dsc s).1++[(dsc s).2.1]else []
noncomputable def tyI (s:Str):List Str:=if Dsc s then(dsc s).1++[(dsc s).2.1]else [s]
def IsL (t:Str):Prop:=∃n,Nm n∧t=76::(n++[59])
open Classical in
noncomputable def nmI (t:Str):List Str:=if h:∃n,Nm n∧t=76::(n++[59])then [h.choose]else []
theorem nmI_L {n:Str}(h:Nm n):nmI (76::(n++[59]))=[n]:=by
 have hl:∃m,Nm m∧76::(n++[59])=76::(m++[59]):=⟨n,h,rfl⟩
 have h0:nmI (76::(n++[59]))=[Exists.choose hl]:=dif_pos hl
 rw[h0]
 have h1:=(Exists.choose_spec hl).2
 exact congrArg (fun x=>[x]) (List.append_cancel_right (List.cons.inj h1).2).symm
theorem zGi {t:Str}(h:¬ IsL t):nmI t=[]:=dif_neg h
theorem zVY {t:Str}(h:IsL t):Tok t:=.inr h
theorem zVG {t:Str}(h:Tok t∨t=[86]):nmI t=nmT t:=by
 rcases h with(rfl|⟨n,hn,rfl⟩)|rfl
 ·rw[zGi]
  ·rfl
  ·rintro⟨n,_,h⟩;cases h
 ·rw[nmI_L hn,nmT_L]
 ·rw[zGi]
  ·rfl
  ·rintro⟨n,_,h⟩;cases h
theorem zSU {f g:Str→List Str}:∀{l:List Str},(∀t∈l,f t=g t)→l.flatMap f=l.flatMap g
 |[],_=>rfl
 |t::l,h=>by rw[List.flatMap_cons,List.flatMap_cons,h t (by simp),zSU fun u hu=>h u (by simp[hu])]
theorem zSF (s:Str):(tyI s).flatMap nmI=(typs s).flatMap nmT:=by
 unfold tyI typs
 by_cases hd:Dsc s
 ·rw[if_pos hd,if_neg fun h=>zPp h hd,if_pos hd]
  exact zSU fun t ht=>zVG (zMz hd t ht)
 ·rw[if_neg hd,if_neg hd]
  by_cases ht:Tok s
  ·rw[if_pos ht,List.flatMap_cons,List.flatMap_cons,zVG (.inl ht)];rfl
  ·rw[if_neg ht,List.flatMap_cons,zGi fun h=>ht (zVY h)];rfl
theorem typs_nm {s n:Str}(h:n∈(typs s).flatMap nmT):Nm n:=by
 rw[←zSF]at h
 obtain⟨t,_,h⟩:=List.mem_flatMap.1 h
 by_cases hl:IsL t
 ·have hl':=hl
  obtain⟨m,hm,rfl⟩:=hl'
  rw[nmI_L hm,List.mem_singleton]at h
  rw[h];exact hm
 ·rw[zGi hl]at h;cases h
theorem typs_nil:typs []=[]:=by
 unfold typs
 rw[if_neg zCC,if_neg zEc]
theorem zJW {α:Type}{l:List α}{i:Nat}{d:α}(h:i<l.length):l.getD i d=l[i]:=by
 rw[List.getD_eq_getElem?_getD,List.getElem?_eq_getElem h];rfl
noncomputable def nmE (p:List Ent)(i:Nat):List Str:=if(p.getD i (0,[],0,0)).1=2 then [clsN p ((i:Int)+1)]else(typs (p.getD i (0,[],0,0)).2.1).flatMap nmT
noncomputable def refL (p:List Ent)(own:Str):Nat→List Str
 |0=>[]
 |n+1=>refL p own n++(nmE p n).filter fun x=>decide (x≠own∧x≠[79,98,106]∧x≠[69,114,114])
noncomputable def refs (p:List Ent)(own:Str):List Str:=insL [] (refL p own p.length)
theorem nmE_nm {p:List Ent}(hp:zFn p){i:Nat}(hi:i<p.length):∀n∈nmE p i,Nm n:=by
 intro n hn
 unfold nmE at hn
 by_cases h2:(p.getD i (0,[],0,0)).1=2
 ·rw[if_pos h2,List.mem_singleton]at hn
  have he:zAU p ((i:Int)+1)=p[i]:=zFO hi
  have h2':(zAU p ((i:Int)+1)).1=2:=by rw[he];rwa[zJW hi]at h2
  have hc:=hp.cls.2 h2'
  rw[hn]
  unfold clsN
  rw[if_pos hc]
  exact hc.2.2
 ·rw[if_neg h2]at hn
  exact typs_nm hn
theorem zRw {p:List Ent}{own:Str}:∀{n:Nat} {x:Str},x∈refL p own n↔∃i,i<n∧x∈nmE p i∧x≠own∧x≠[79,98,106]∧x≠[69,114,114]
 |0,x=>by simp[refL]
 | n+1,x=>by
   unfold refL
   rw[List.mem_append,zRw,List.mem_filter,zDe]
   constructor
   ·rintro(⟨i,h1,h2⟩|⟨h1,h2⟩)
    ·exact⟨i,by omega,h2⟩
    ·exact⟨n,by omega,h1,h2⟩
   ·rintro⟨i,h1,h2,h3⟩
    by_cases e:i=n
    ·subst e;exact .inr ⟨h2,h3⟩
    ·exact .inl ⟨i,by omega,h2,h3⟩
theorem zOT (p:List Ent)(own:Str):Asc (refs p own)∧∀x,x∈refs p own↔∃i,i<p.length∧x∈nmE p i∧x≠own∧x≠[79,98,106]∧x≠[69,114,114]:=by
 obtain⟨h1,h2⟩:=zGn (refL p own p.length) [] List.Pairwise.nil
 exact⟨h1,fun x=>by
  unfold refs
  rw[h2,zRw];simp⟩
theorem refs_cls {p:List Ent}{own:Str}{i:Int}(hc:zBR p i)(ho:clsN p i≠own):clsN p i=[79,98,106]∨clsN p i=[69,114,114]∨clsN p i∈refs p own:=by
 by_cases h1:clsN p i=[79,98,106]
 ·exact .inl h1
 by_cases h2:clsN p i=[69,114,114]
 ·exact .inr (.inl h2)
 refine .inr (.inr (((zOT p own).2 _).2 ?_))
 have h0:=hc.1
 have hi:1≤i∧i≤p.length:=by
  refine Decidable.byContradiction fun hn=>?_
  unfold zAU at h0
  rw[if_neg hn]at h0
  omega
 refine⟨(i-1).toNat,by omega,?_,ho,h1,h2⟩
 have hl:(i-1).toNat<p.length:=by omega
 have e:=zFO hl
 rw[show(((i-1).toNat:Nat):Int)+1=i by omega]at e
 unfold nmE
 rw[if_pos (by rw[zJW hl,←e];exact h0),show(((i-1).toNat:Nat):Int)+1=i by omega]
 simp
end Go.Stow
end
section
namespace Go.TM
open Go.AM
section
variable {α X Y R S:Type}
theorem zEY {f:X→Option (X⊕(Y⊕R))}(mk:Nat→X)(fin:Y)(n:Nat){x0:X}{c:Y→Option R}(hx:x0=mk 0)(hend:f (mk n)=some (.inr (.inl fin)))(hstep:∀ i,i<n→f (mk i)=some (.inl (mk (i+1)))) :
  bindE (zAG f x0) c=c fin:=by
 have key:∀m i,i+m=n→zAG f (mk i)=some (.inl fin):=by
  intro m
  induction m with
  |zero=>intro i h;have:i=n:=by omega
         subst this;rw[zAf,hend]
  |succ m ih=>intro i h;rw[zAf,hstep i (by omega)];exact ih (i+1) (by omega)
 rw[hx,key n 0 (by omega),zAC]
end
end Go.TM
end
section
namespace Go.Proofs.YtdpapeledldifaaGreat
open Go Go.AM Go.TM Go.Stow
theorem zIQ:∀(a b:List UInt8),Op.bytesLess a b=decide (a<b)
 |[],[]=>by simp[Op.bytesLess]
 |_::_,[]=>by simp[Op.bytesLess]
 |[],_::_=>by simp[Op.bytesLess]
 | x::a,y::b=>by
   rw[Op.bytesLess,zIQ a b,Bool.eq_iff_iff]
   simp only[Bool.or_eq_true,zBa,zDe,beq_iff_eq,List.cons_lt_cons_iff]
theorem n115 (s:List UInt8)(hl:s.length≤1048576):∃t b,F115 s=some (t,b)∧nmI s=if b=true then [t]else []:=by
 simp only[F115,n204 s 76 hl,zAB]
 cases s with
 | nil =>
   obtain⟨t,b,e,h1,h2⟩:=n205 [] 59 (by simp)
   rw[e]
   exact⟨t,false,rfl,zGi fun h=>zCC (zVY h)⟩
 | cons x l =>
   by_cases hx:x=76
   ·simp only[hx,if_true]
    have hll:l.length≤1048576:=by simp only[List.length_cons]at hl;omega
    obtain⟨t,b,e,h1,h2⟩:=n205 l 59 hll
    rw[e]
    cases b with
    | true =>
      have h1:=h1 rfl
      have htl:t.length≤1048576:=by rw[h1,List.length_append]at hll;omega
      simp only[zAB,zAJ,n48 t htl]
      by_cases hn:Nm t
      ·refine⟨t,true,by simp only[hn,decide_true],?_⟩
       rw[h1,nmI_L hn];rfl
      ·refine⟨t,false,by simp only[hn,decide_false],zGi ?_⟩
       rintro⟨n,hm,h⟩
       simp only[List.cons.injEq,true_and]at h
       rw[h1]at h
       have:=List.append_cancel_right h
       rw[this]at hn
       exact absurd hm hn
    | false =>
      have h2:=h2 rfl
      simp only[zAB,zAJ,zAI]
      refine⟨t,false,rfl,zGi ?_⟩
      rintro⟨n,hm,h⟩
      simp only[List.cons.injEq,true_and]at h
      exact absurd h (h2 n)
   ·simp only[hx,if_false]
    obtain⟨t,b,e,h1,h2⟩:=n205 (x::l) 59 hl
    rw[e]
    simp only[zAB,zAI]
    refine⟨t,false,rfl,zGi ?_⟩
    rintro⟨n,hm,h⟩
    simp only[List.cons.injEq]at h
    exact absurd h.1 hx
theorem q112 (n:List UInt8):F112 n=some (decide (n=[79,98,106]∨n=[69,114,114])):=by
 simp only[F112,zAF]
 by_cases h:n=[79,98,106]
 ·rw[if_pos h];simp[h]
 ·rw[if_neg h];simp[h]
def okN (own x:List UInt8):Bool:=decide (x≠own∧x≠[79,98,106]∧x≠[69,114,114])
theorem q110 (c:Cls)(l:List (List UInt8))(n:List UInt8)(hp:bndP c.1)(hl:l.length≤1048576):F110 (n,c,l)=some (c,if okN (zAl c.1 c.2.2.1) n=true then l++[n]else l):=by
 obtain⟨c0,c1,c2,c3,c4,c5,c6⟩:=c
 have z111:F111 ((c0,c1,c2,c3,c4,c5,c6),c2)=some (zAl c0 c2):=q111 (c0,c1,c2,c3,c4,c5,c6) c2 hp
 have g1:l.length+1≤9223372036854775807:=by omega
 have g2:(l.length+1)*16≤140737488355328:=by omega
 simp only[F110,z111,q112,zAB,zAF]
 unfold okN
 by_cases h:n=zAl c0 c2
 ·rw[decide_eq_true h,Bool.not_true,zAI,zAC,zAI,if_neg (by simp[h])]
 ·rw[decide_eq_false h,Bool.not_false,zAJ,zAC]
  by_cases h2:n=[79,98,106]∨n=[69,114,114]
  ·rw[decide_eq_true h2,Bool.not_true,zAI,if_neg]
   simp only[zDe]
   rintro⟨_,h3,h4⟩
   exact h2.elim h3 h4
  ·rw[decide_eq_false h2,Bool.not_false,zAJ,if_pos]
   ·simp[g1,g2]
   ·simp only[zDe]
    exact⟨h,fun e=>h2 (.inl e),fun e=>h2 (.inr e)⟩
theorem q114 (s:List UInt8)(hl:s.length≤1048576):F114 s=some ((dsc s).1++[(dsc s).2.1]):=by
 have h4:=zHX s
 simp only[F114,n170 s hl,zAB]
 simp[show(dsc s).1.length+1≤9223372036854775807 by omega,show((dsc s).1.length+1)*16≤140737488355328 by omega]
theorem q272 (s:List UInt8)(hl:s.length≤1048576):F272 s=some ((dsc s).1++[(dsc s).2.1]):=by
 have h4:=zHX s
 simp only[F272,n214 s hl,zAB]
 simp[show(dsc s).1.length+1≤9223372036854775807 by omega,show((dsc s).1.length+1)*16≤140737488355328 by omega,show(dsc s).1.length≤9223372036854775807 by omega,show(dsc s).1.length*16≤140737488355328 by omega]
theorem q209 (s:List UInt8)(hl:s.length≤1048576):F209 s=some (typs s):=by
 simp only[F209,n128 s hl,n129 s hl,q272 s hl,zAB,zAF]
 unfold typs
 split
 ·rfl
 ·split<;>rfl
theorem q210 (n:List UInt8):∃k,F210 n=some k∧(k<0↔n≠[79,98,106]∧n≠[69,114,114]):=by
 simp only[F210,zAF]
 by_cases h:n=[79,98,106]
 ·rw[if_pos h];exact⟨0,rfl,by simp[h]⟩
 ·rw[if_neg h]
  by_cases h2:n=[69,114,114]
  ·rw[if_pos h2];exact⟨1,rfl,by simp[h2]⟩
  ·rw[if_neg h2];exact⟨-1,rfl,by simp[h,h2]⟩
theorem zDA {α R:Type}{l:List α}{n:Nat}{k:α→Option R}(h:n<l.length):atO l n k=k l[n]:=atO_at (List.getElem?_eq_getElem h)
theorem zDh {α:Type}{l:List α}{i:Nat}(h:i<l.length):l.take (i+1)=l.take i++[l[i]]:=by
 rw[List.take_add_one,List.getElem?_eq_getElem h];rfl
theorem zVF (t:List UInt8):(nmT t).length≤1:=by
 unfold nmT;split<;>simp
theorem zDq {α β:Type}{f:α→List β}{k:Nat}:∀{l:List α},(∀x∈l,(f x).length≤k)→(l.flatMap f).length≤k*l.length
 |[],_=>by simp
 | x::l,h=>by
   have h1:=h x (by simp)
   have h2:=zDq (l:=l) fun y hy=>h y (by simp[hy])
   rw[List.flatMap_cons,List.length_append,List.length_cons,Nat.mul_succ]
   omega
theorem q208 (ts:List (List UInt8))(hl:ts.length≤1048576)(ht:∀ t∈ts,t.length≤1048576):F208 ts=some (ts.flatMap nmT):=by
 simp only[F208]
 refine(zEY (fun j=>(ts,(ts.take j).flatMap nmT,(j:Int))) (ts.flatMap nmT) ts.length rfl ?_ ?_).trans rfl
 ·simp only[Int.lt_irrefl,decide_false,zAI,List.take_length]
 ·intro i hi
  have k1:(i:Int)<ts.length:=by omega
  have k0:(0:Int)≤i:=by omega
  have hx:=ht _ (List.getElem_mem hi)
  have hb:((ts.take i).flatMap nmT).length≤1*(ts.take i).length:=zDq fun x _=>zVF x
  rw[List.length_take]at hb
  simp only[k1,k0,decide_true,zAJ,zAE,Int.toNat_natCast,zDA hi,zAF]
  rw[zDh hi,List.flatMap_append,List.flatMap_cons,List.flatMap_nil,List.append_nil]
  by_cases h1:(1:Int)<(ts[i].length:Int)
  ·have hn:nmT ts[i]=[(ts[i].drop 1).take (ts[i].length-2)]:=by
    unfold nmT;rw[if_pos (by omega)]
   have hw:IntKind.wrap .i64 ((ts[i].length:Int)-1)=(ts[i].length:Int)-1:=wI (by omega) (by omega)
   rw[if_pos h1,hw,hn]
   have e:List.drop 1 (List.take (((ts[i].length:Int)-1).toNat) ts[i])=(ts[i].drop 1).take (ts[i].length-2):=by
    rw[List.drop_take,show(((ts[i].length:Int)-1).toNat)-1=ts[i].length-2 by omega]
   simp only[show(1:Int)≤(ts[i].length:Int)-1 by omega,show(ts[i].length:Int)-1≤(ts[i].length:Int)by omega,show((ts.take i).flatMap nmT).length+1≤9223372036854775807 by omega,show(((ts.take i).flatMap nmT).length+1)*16≤140737488355328 by omega,decide_true,Bool.and_self,zAE,zAC,e]
   rw[wI (by omega) (by omega)]
   rfl
  ·have hn:nmT ts[i]=[]:=by
    unfold nmT;rw[if_neg (by omega)]
   rw[if_neg h1,hn,zAC,List.append_nil]
   simp only
   rw[wI (by omega) (by omega)]
   rfl
theorem place_ex (l:List (List UInt8))(n:List UInt8):∃k,Stow.Place l n k:=by
 induction l with
 |nil=>exact⟨0,by simp,by simp,by simp⟩
 | cons x l ih =>
   by_cases h:x<n
   ·obtain⟨k,h0,h1,h2⟩:=ih
    refine⟨k+1,by simp only[List.length_cons];omega,?_,?_⟩
    ·intro i hi hk
     cases i with
     |zero=>exact h
     | succ i =>
       simp only[List.length_cons]at hi
       rw[List.getElem_cons_succ]
       exact h1 i (by omega) (by omega)
    ·intro hk
     simp only[List.length_cons]at hk
     rw[List.getElem_cons_succ]
     exact h2 (by omega)
   ·exact⟨0,by omega,by simp,fun _=>h⟩
theorem q211 (l:List (List UInt8))(n:List UInt8)(ha:Asc l)(hl:l.length≤1048576):F211 (l,n)=some (insN l n):=by
 obtain⟨k,hp⟩:=place_ex l n
 have⟨h0,h1,h2⟩:=hp
 simp only[F211]
 refine(zEY (fun j=>(l,n,(j:Int))) (l,n,(k:Int)) k rfl ?_ ?_).trans ?_
 ·by_cases hk:k<l.length
  ·have k1:(k:Int)<l.length:=by omega
   have k0:(0:Int)≤k:=by omega
   simp only[k1,k0,decide_true,zAJ,zAE,Int.toNat_natCast,zDA hk,zIQ,decide_eq_false (h2 hk),zAI]
  ·have k1:¬(k:Int)<l.length:=by omega
   simp only[k1,decide_false,zAI]
 ·intro i hi
  have hil:i<l.length:=by omega
  have k1:(i:Int)<l.length:=by omega
  have k0:(0:Int)≤i:=by omega
  simp only[k1,k0,decide_true,zAJ,zAE,Int.toNat_natCast,zDA hil,zIQ,decide_eq_true (h1 i hil hi)]
  rw[wI (by omega) (by omega)]
  rfl
 ·have k0:(0:Int)≤k:=by omega
  have k9:(k:Int)≤l.length:=by omega
  have tl:(l.take k).length=k:=by rw[List.length_take];omega
  have fin:∀(e:l.take k++n::l.drop k=insN l n),(grdO (decide (0≤(k:Int))&&decide ((k:Int)≤l.length)) (grdO (decide ((List.drop 0 (List.take (k:Int).toNat l)).length≤9223372036854775807)&&decide ((List.drop 0 (List.take (k:Int).toNat l)).length*16≤140737488355328)) (grdO (decide ((List.drop 0 (List.take (k:Int).toNat l)).length+1≤9223372036854775807)&&decide (((List.drop 0 (List.take (k:Int).toNat l)).length+1)*16≤140737488355328)) (grdO (decide (0≤(k:Int))&&decide ((k:Int)≤l.length)&&decide ((l.length:Int)≤l.length)) (grdO (decide ((List.drop 0 (List.take (k:Int).toNat l)++[n]).length+(List.drop (k:Int).toNat (List.take (l.length:Int).toNat l)).length≤9223372036854775807)&&decide (((List.drop 0 (List.take (k:Int).toNat l)++[n]).length+(List.drop (k:Int).toNat (List.take (l.length:Int).toNat l)).length)*16≤140737488355328)) (some (List.drop 0 (List.take (k:Int).toNat l)++[n]++List.drop (k:Int).toNat (List.take (l.length:Int).toNat l))))))):Option (List (List UInt8)))=some (insN l n):=by
   intro e
   simp only[Int.toNat_natCast,List.drop_zero,List.take_length,tl,List.length_append,List.length_cons,List.length_nil,List.length_drop,k0,k9,Int.le_refl,decide_true,Bool.and_self,zAE,show k≤9223372036854775807 by omega,show k*16≤140737488355328 by omega,show k+1≤9223372036854775807 by omega,show(k+1)*16≤140737488355328 by omega,show k+(0+1)+(l.length-k)≤9223372036854775807 by omega,show(k+(0+1)+(l.length-k))*16≤140737488355328 by omega,Nat.zero_add]
   rw[←e];simp
  by_cases hk:k<l.length
  ·have k1:(k:Int)<l.length:=by omega
   simp only[k1,k0,decide_true,zAJ,zAE,Int.toNat_natCast,zDA hk,zAF]
   by_cases e:l[k]=n
   ·rw[if_pos e,zAH,←zVZ ha (by rw[←e];exact List.getElem_mem hk)]
   ·rw[if_neg e,zAC]
    have:=fin (zOs ha hp fun _=>e)
    simp only[Int.toNat_natCast]at this
    simp only[Int.toNat_natCast]
    exact this
  ·have k1:¬(k:Int)<l.length:=by omega
   simp only[k1,decide_false,zAI,zAC]
   exact fin (zOs ha hp fun h=>absurd h hk)
end Go.Proofs.YtdpapeledldifaaGreat
end
section
namespace Go.Stow
theorem zQl (l:List Str):(Lib.compact l).length≤l.length:=by
 simp only[Lib.compact,Lib.compactUpTo,List.length_map]
 exact Nat.le_trans (List.length_filter_le _ _) (by simp)
theorem insN_len (l:List Str)(x:Str):(insN l x).length≤l.length+1:=by
 unfold insN
 refine Nat.le_trans (zQl _) ?_
 rw[List.length_mergeSort];simp
theorem zIR:∀(xs l:List Str),(insL l xs).length≤l.length+xs.length
 |[],l=>by simp[insL]
 | x::xs,l=>by
   have h1:=insN_len l x
   have h2:=zIR xs (insN l x)
   have e:insL l (x::xs)=insL (insN l x) xs:=rfl
   rw[e,List.length_cons]
   omega
theorem zSM (l a b:List Str):insL l (a++b)=insL (insL l a) b:=List.foldl_append
theorem zRB (s:Str):(typs s).length≤5:=by
 have:=zHX s
 unfold typs
 split
 ·simp
 ·split
  ·simp only[List.length_append,List.length_cons,List.length_nil];omega
  ·simp
theorem tyI_len (s:Str):(tyI s).length≤5:=by
 have:=zHX s
 unfold tyI
 split
 ·simp only[List.length_append,List.length_cons,List.length_nil];omega
 ·simp
theorem nmI_len (t:Str):(nmI t).length≤1:=by
 by_cases h:IsL t
 ·obtain⟨n,hn,rfl⟩:=h
  rw[nmI_L hn];simp
 ·rw[zGi h];simp
end Go.Stow
namespace Go.Proofs.YtdpapeledldifaaGreat
open Go Go.AM Go.TM Go.Stow
theorem zVH (p:List Stow.Ent)(i:Nat):(nmE p i).length≤5:=by
 unfold nmE
 split
 ·simp
 ·have h1:=zRB (p.getD i (0,[],0,0)).2.1
  have h2:((typs (p.getD i (0,[],0,0)).2.1).flatMap nmT).length≤1*(typs (p.getD i (0,[],0,0)).2.1).length:=zDq fun x _=>zVF x
  omega
theorem zJF (p:List Stow.Ent)(own:List UInt8)(n:Nat):refL p own (n+1)=refL p own n++(nmE p n).filter (okN own):=rfl
theorem zGd (p:List Stow.Ent)(own:List UInt8):∀n,(refL p own n).length≤5*n
 |0=>by simp[refL]
 | n+1=>by
   have h1:=zGd p own n
   have h2:=zVH p n
   have h3:=List.length_filter_le (okN own) (nmE p n)
   rw[zJF,List.length_append]
   omega
theorem zIL {α:Type}{f:α→Bool}{l:List α}{i:Nat}(h:i<l.length):(l.take (i+1)).filter f=(l.take i).filter f++if f l[i]=true then [l[i]]else []:=by
 rw[zDh h,List.filter_append]
 congr 1
 cases hf:f l[i]<;>simp[hf]
theorem typs_el {s t:List UInt8}(hs:s.length≤1048576)(h:t∈typs s):t.length≤1048576:=by
 unfold typs at h
 split at h
 ·rw[List.mem_singleton.1 h];exact hs
 ·split at h
  ·rename_i hd
   rcases zMz hd t h with(rfl|⟨n,hn,rfl⟩)|rfl
   ·simp
   ·have:=hn.1.2
    simp only[List.length_cons,List.length_append,List.length_nil];omega
   ·simp
  ·cases h
theorem tyI_el {s t:List UInt8}(hs:s.length≤1048576)(h:t∈tyI s):t.length≤1048576:=by
 unfold tyI at h
 split at h
 ·rename_i hd
  rcases zMz hd t h with(rfl|⟨n,hn,rfl⟩)|rfl
  ·simp
  ·have:=hn.1.2
   simp only[List.length_cons,List.length_append,List.length_nil];omega
  ·simp
 ·rw[List.mem_singleton.1 h];exact hs
theorem q118 (c:Cls)(hp:bndP c.1)(h60:c.1.length≤60):F118 c=some (refs c.1 (clsN c.1 c.2.2.1)):=by
 obtain⟨c0,c1,c2,c3,c4,c5,c6⟩:=c
 have h60:c0.length≤60:=h60
 simp only[F118]
 rw[zCU (q130 c0 c2 hp)]
 generalize ho:clsN c0 c2=own
 refine(zEY (fun i=>(insL [] (refL c0 own i),own,(i:Int),c0,c1,c2,c3,c4,c5,c6)) (refs c0 own) c0.length rfl ?_ ?_).trans rfl
 ·simp only[Int.lt_irrefl,decide_false,zAI]
  rfl
 ·intro i hi
  have k1:(i:Int)<c0.length:=by omega
  have k0:(0:Int)≤i:=by omega
  have ht:(c0[i]).2.1.length≤1048576:=hp.2 _ (List.getElem_mem hi)
  have hl:(insL [] (refL c0 own i)).length≤1000:=by
   have h1:=zIR (refL c0 own i) []
   have h2:=zGd c0 own i
   simp only[List.length_nil]at h1
   omega
  have ha:Asc (insL [] (refL c0 own i)):=(zGn _ _ List.Pairwise.nil).1
  have hn5:=zVH c0 i
  have hb:(typs (c0[i]).2.1).length≤1048576:=by have:=zRB (c0[i]).2.1;omega
  simp only[k1,k0,decide_true,zAJ,zAE,Int.toNat_natCast,zDA hi,q209 _ ht,zAB,q208 _ hb fun t h=>typs_el ht h]
  have hw:IntKind.wrap .i64 ((i:Int)+1)=(i:Int)+1:=wI (by omega) (by omega)
  rw[hw,zCU (q130 c0 _ hp)]
  rw[zAF]
  have e1:c0[i].1=2→[clsN c0 ((i:Int)+1)]=nmE c0 i:=fun h2=>by unfold nmE;rw[zJW hi,if_pos h2]
  have e2:¬c0[i].1=2→(typs (c0[i]).2.1).flatMap nmT=nmE c0 i:=fun h2=>by unfold nmE;rw[zJW hi,if_neg h2]
  rw[zJF,zSM]
  generalize insL [] (refL c0 own i)=out at hl ha
  split
  all_goals
   first|rw[e1 (by assumption)]|rw[e2 (by assumption)]
   clear e1 e2
   revert hn5
   generalize nmE c0 i=ns
   intro hn5
   rw[zAC]
   simp only
   refine(congrArg (fun r=>bindE r _) (zEY (fun j=>(insL out ((ns.take j).filter (okN own)),own,(i:Int),ns,(j:Int),c0,c1,c2,c3,c4,c5,c6)) (insL out (ns.filter (okN own)),own,(i:Int),c0,c1,c2,c3,c4,c5,c6) ns.length rfl ?_ ?_)).trans ?_
   ·simp only[Int.lt_irrefl,decide_false,zAI,List.take_length]
   ·intro j hj
    have j1:(j:Int)<ns.length:=by omega
    have j0:(0:Int)≤j:=by omega
    have hl2:(insL out ((ns.take j).filter (okN own))).length≤1048576:=by
     have h1:=zIR ((ns.take j).filter (okN own)) out
     have h2:=List.length_filter_le (okN own) (ns.take j)
     rw[List.length_take]at h2
     omega
    have ha2:Asc (insL out ((ns.take j).filter (okN own))):=(zGn _ _ ha).1
    obtain⟨k,hk,hk2⟩:=q210 ns[j]
    simp only[j1,j0,decide_true,Bool.and_self,zAJ,zAE,Int.toNat_natCast,zDA hj,hk,zAB,q211 _ _ ha2 hl2]
    rw[zIL hj,zSM]
    by_cases h1:ns[j]=own
    ·have ho:okN own ns[j]=false:=by unfold okN;simp[h1]
     rw[decide_eq_true h1,Bool.not_true,zAI,zAC]
     simp only[zAI,zAC,ho]
     rw[wI (by omega) (by omega)]
     rfl
    ·rw[decide_eq_false h1,Bool.not_false,zAJ,zAC]
     by_cases h2:k<0
     ·have ho:okN own ns[j]=true:=by unfold okN;exact decide_eq_true ⟨h1,hk2.1 h2⟩
      simp only[h2,j1,j0,decide_true,Bool.and_self,zAJ,zAE,Int.toNat_natCast,zDA hj,zAB,q211 _ _ ha2 hl2,zAC,ho,if_true]
      rw[wI (by omega) (by omega)]
      rfl
     ·have ho:okN own ns[j]=false:=by
       unfold okN
       exact decide_eq_false fun h=>h2 (hk2.2 h.2)
      simp only[h2,decide_false,zAI,zAC,ho]
      rw[wI (by omega) (by omega)]
      rfl
   ·simp only[zAC]
    rw[wI (by omega) (by omega)]
    rfl
end Go.Proofs.YtdpapeledldifaaGreat
end
section
namespace Go.Proofs.YtdpapeledldifaaGreat
open Go Go.AM Go.TM Go.Stow
theorem q116 (l:List (List UInt8))(hl:l.length≤1048576):zAA (F116 l) (fun y=>zAA (F117 y) fun z=>some z)=some (insL [] l):=by
 have h1:l.length<4611686018427387904:=by omega
 have h2:(srt l).length<4611686018427387904:=by rw[zUU];exact h1
 simp only[F116,F117,h1,h2,decide_true,zAE,zAB]
 rw[zOt];rfl
theorem q45 (c:Cls)(hp:bndP c.1)(h60:c.1.length≤60)(hc:F29 c=some 0)(hok:zFn c.1)(ho:zBR c.1 c.2.2.1):F45 c=some (refs c.1 (clsN c.1 c.2.2.1)):=by
 obtain⟨c0,c1,c2,c3,c4,c5,c6⟩:=c
 have h60:c0.length≤60:=h60
 have hn:zAl c0 c2=clsN c0 c2:=zCO ho
 have z111:∀i,F111 ((c0,c1,c2,c3,c4,c5,c6),i)=some (zAl c0 i):=fun i=>q111 (c0,c1,c2,c3,c4,c5,c6) i hp
 have z110:∀(l:List (List UInt8)) (n:List UInt8),l.length≤1048576→F110 (n,(c0,c1,c2,c3,c4,c5,c6),l)=some ((c0,c1,c2,c3,c4,c5,c6),if okN (clsN c0 c2) n=true then l++[n]else l):=fun l n hl=>by
  rw[←hn];exact q110 (c0,c1,c2,c3,c4,c5,c6) l n hp hl
 show F45 (c0,c1,c2,c3,c4,c5,c6)=some (refs c0 (clsN c0 c2))
 simp only[F45,hc,zAB,decide_true,Bool.not_true,zAI]
 generalize hown:clsN c0 c2=own at z110
 refine(zEY (fun i=>(c0,(c0.length:Int),(i:Int),(c0,c1,c2,c3,c4,c5,c6),refL c0 own i)) (refL c0 own c0.length) c0.length rfl ?_ ?_).trans ?_
 ·simp only[Int.lt_irrefl,decide_false,zAI]
 ·intro i hi
  have k1:(i:Int)<c0.length:=by omega
  have k0:(0:Int)≤i:=by omega
  have ht:(c0[i]).2.1.length≤1048576:=hp.2 _ (List.getElem_mem hi)
  have hl:(refL c0 own i).length≤1000:=by
   have h2:=zGd c0 own i
   omega
  have hw:IntKind.wrap .i64 ((i:Int)+1)=(i:Int)+1:=wI (by omega) (by omega)
  have hE:=hok i hi
  have hEn:nmE c0 i=if c0[i].1=2 then [clsN c0 ((i:Int)+1)]else(typs (c0[i]).2.1).flatMap nmT:=by unfold nmE;rw[zJW hi]
  rw[zJF,hEn]
  generalize refL c0 own i=out at hl
  simp only[k1,k0,decide_true,zAJ,zAE,Int.toNat_natCast,zDA hi,hw,z111,zAB,zAF]
  by_cases h2:c0[i].1=2
  ·have hcl:zBR c0 ((i:Int)+1):=hok.cls.2 (by rw[zFO hi];exact h2)
   rw[zCO hcl,z110 _ _ (by omega)]
   simp only[h2,if_true,zAB,zAC,show ¬((2:Int)=1)by omega,decide_false,Bool.not_false,zAJ]
   rw[List.filter_cons,List.filter_nil]
   cases hk:okN own (clsN c0 ((i:Int)+1))<;>simp only[if_true,Bool.false_eq_true,if_false,List.append_nil]<;>first|rfl|(rw[hw];rfl)
  ·simp only[h2,if_false,zAC]
   by_cases h1:c0[i].1=1
   ·rw[h1]
    simp only[decide_true,Bool.not_true,zAI,n113 _ ht,q114 _ ht,zAB,zAF]
    rw[←zSF]
    have hT:∀t∈tyI (c0[i]).2.1,t.length≤1048576:=fun t h=>tyI_el ht h
    have h5:=tyI_len (c0[i]).2.1
    have e1:Dsc c0[i].2.1→(dsc c0[i].2.1).1++[(dsc c0[i].2.1).2.1]=tyI c0[i].2.1:=fun h=>by unfold tyI;rw[if_pos h]
    have e2:¬Dsc c0[i].2.1→[c0[i].2.1]=tyI c0[i].2.1:=fun h=>by unfold tyI;rw[if_neg h]
    split
    all_goals
     first|rw[e1 (by assumption)]|rw[e2 (by assumption)]
     clear e1 e2
     revert hT h5
     generalize tyI c0[i].2.1=ts
     intro hT h5
     rw[zAC]
     simp only
     refine(congrArg (fun r=>bindE r _) (zEY (fun j=>(c0,(c0.length:Int),(i:Int),ts,(ts.length:Int),(j:Int),(c0,c1,c2,c3,c4,c5,c6),out++(((ts.take j).flatMap nmI).filter (okN own)))) (c0,(c0.length:Int),(i:Int),(c0,c1,c2,c3,c4,c5,c6),out++((ts.flatMap nmI).filter (okN own))) ts.length ?_ ?_ ?_)).trans ?_
     ·simp
     ·simp only[Int.lt_irrefl,if_false,List.take_length]
     ·intro j hj
      have j1:(j:Int)<ts.length:=by omega
      have j0:(0:Int)≤j:=by omega
      have hl2:(out++(((ts.take j).flatMap nmI).filter (okN own))).length≤1048576:=by
       have g1:=List.length_filter_le (okN own) ((ts.take j).flatMap nmI)
       have g2:((ts.take j).flatMap nmI).length≤1*(ts.take j).length:=zDq fun x _=>nmI_len x
       rw[List.length_take]at g2
       rw[List.length_append]
       omega
      obtain⟨t,b,ht1,ht2⟩:=n115 ts[j] (hT _ (List.getElem_mem hj))
      simp only[j1,j0,if_true,decide_true,Bool.and_self,zAJ,zAE,Int.toNat_natCast,zDA hj,ht1,zAB]
      rw[zDh hj,List.flatMap_append,List.filter_append,List.flatMap_cons,List.flatMap_nil,List.append_nil,ht2]
      cases b with
      | true =>
        rw[zAJ,z110 _ _ hl2]
        simp only[zAB,zAC,if_true]
        rw[wI (by omega) (by omega),List.filter_cons,List.filter_nil]
        cases hk:okN own t<;>simp only[if_true,Bool.false_eq_true,if_false,List.append_nil,List.append_assoc]<;>rfl
      | false =>
        rw[zAI]
        simp only[zAC,Bool.false_eq_true,if_false,List.filter_nil,List.append_nil]
        rw[wI (by omega) (by omega)]
        rfl
     ·simp only[zAC,hw]
      rfl
   ·have h0:(c0[i]).2.1=[]:=by
     unfold zEA at hE
     rw[if_neg h1,if_neg h2]at hE
     split at hE
     ·exact hE.1
     ·split at hE
      ·exact hE.1
      ·split at hE
       ·exact hE.1
       ·exact hE.elim
    rw[h0,typs_nil]
    simp only[h1,decide_false,Bool.not_false,zAJ,zAC,hw,List.flatMap_nil,List.filter_nil,List.append_nil]
    rfl
 ·exact q116 _ (by have:=zGd c0 own c0.length;omega)
end Go.Proofs.YtdpapeledldifaaGreat
end
section
namespace Go.TM
open Go.AM
section
variable {α β X Y R:Type}{Q:R→Prop}
def Tot (r:Option R)(Q:R→Prop):Prop:=∃a,r=some a∧Q a
theorem Tot.ret {a:R}(h:Q a):Tot (some a) Q:=⟨a,rfl,h⟩
theorem Tot.mono {r:Option R}{Q':R→Prop}(h:Tot r Q)(g:∀ a,Q a→Q' a):Tot r Q':=by
 obtain⟨a,e,h⟩:=h;exact⟨a,e,g a h⟩
theorem Tot.bind {x:Option α}{P:α→Prop}{k:α→Option R}(h:Tot x P)(hk:∀ a,P a→Tot (k a) Q):Tot (zAA x k) Q:=by
 obtain⟨a,rfl,h⟩:=h;exact hk a h
theorem Tot.grd {t:Bool}{k:Option R}(ht:t=true)(h:Tot k Q):Tot (grdO t k) Q:=by subst ht;exact h
theorem Tot.cnd {t:Bool}{a b:Option R}(h1:t=true→Tot a Q)(h2:t=false→Tot b Q):Tot (cndO t a b) Q:=by
 cases t
 ·exact h2 rfl
 ·exact h1 rfl
theorem Tot.at {l:List α}{n:Nat}{k:α→Option R}(hn:n<l.length)(h:∀ x,l[n]? = some x→Tot (k x) Q):Tot (atO l n k) Q:=by
 have e:l[n]? = some l[n]:=List.getElem?_eq_getElem hn
 show Tot (match l[n]? with|some x=>k x|none=>none) Q
 rw[e];exact h _ e
theorem Tot.at' {l:List α}{n:Nat}{k:α→Option R}{x:α}(e:l[n]? = some x)(h:Tot (k x) Q):Tot (atO l n k) Q:=by
 show Tot (match l[n]? with|some x=>k x|none=>none) Q
 rw[e];exact h
theorem Tot.seq {u:Option Unit}{k:Option R}(h1:Tot u fun _=>True)(h:Tot k Q):Tot (seqU u k) Q:=by
 obtain⟨a,rfl,_⟩:=h1;exact h
theorem Tot.bindE {x:Option (Y⊕R)}{k:Y→Option R}(P:Y→Prop)(h:Tot x (Sum.elim P Q))(hk:∀ y,P y→Tot (k y) Q):Tot (bindE x k) Q:=by
 obtain⟨a,rfl,h⟩:=h
 cases a with
 |inl y=>exact hk y h
 |inr r=>exact⟨r,rfl,h⟩
theorem Tot.loop {f:X→Option (X⊕R)}(I:X→Prop)(μ:X→Nat)(hs:∀ x,I x→Tot (f x) (Sum.elim (fun y=>I y∧μ y<μ x) Q)):∀{x:X},I x→Tot (zAG f x) Q:=by
 have key:∀n x,μ x≤n→I x→Tot (zAG f x) Q:=by
  intro n
  induction n with
  | zero =>
    intro x hx hi
    obtain⟨a,e,h⟩:=hs x hi
    rw[zAf,e]
    cases a with
    |inl y=>exact absurd h.2 (by omega)
    |inr r=>exact⟨r,rfl,h⟩
  | succ n ih =>
    intro x hx hi
    obtain⟨a,e,h⟩:=hs x hi
    rw[zAf,e]
    cases a with
    |inl y=>exact ih y (by have:=h.2;omega) h.1
    |inr r=>exact⟨r,rfl,h⟩
 intro x hi
 exact key _ x (Nat.le_refl _) hi
theorem zDb (a:Option R):zBV a a=a:=by unfold zBV;rw[if_pos rfl]
end
end Go.TM
end
section
namespace Go.Proofs.YtdpapeledldifaaGreat
open Go Go.AM Go.TM
def Rd (c:Nat)(r:List UInt8×Int):Prop:=r.1.length≤2000∧0≤r.2∧r.2≤c
theorem Rd.mono {c d:Nat}{r:List UInt8×Int}(h:Rd c r)(hc:c≤d):Rd d r:=⟨h.1,h.2.1,by have:=h.2.2;omega⟩
theorem zPX {a b:Int}(ha:0≤a)(ha':a<9223372036854775808)(hb:0≤b)(hb':b<9223372036854775808):0≤xorI .i64 a b:=by
 unfold xorI
 have e:∀{x:Int},0≤x→x<9223372036854775808→(BitVec.ofInt 64 x).toNat=x.toNat:=by
  intro x h0 h1
  rw[BitVec.toNat_ofInt]
  show(x % ((2^64:Nat):Int)).toNat=_
  rw[Int.emod_eq_of_lt h0 (by omega)]
 show 0≤IntKind.wrap .i64 ((BitVec.ofInt 64 a ^^^ BitVec.ofInt 64 b).toNat:Int)
 rw[BitVec.toNat_xor,e ha ha',e hb hb']
 have h:=Nat.xor_lt_two_pow (n:=63) (show a.toNat<2^63 by omega) (show b.toNat<2^63 by omega)
 rw[wrapI (by omega) (by omega)]
 omega
theorem zIM {a n:Int}(ha:0≤a)(hn:1≤n):0≤Int.tmod a n∧Int.tmod a n<n:=by
 rw[Int.tmod_eq_emod_of_nonneg ha]
 exact⟨Int.emod_nonneg _ (by omega),Int.emod_lt_of_pos _ (by omega)⟩
theorem zRP {a n:Int}(ha:0≤a)(hn:1≤n):0≤Int.tdiv a n∧Int.tdiv a n≤a:=by
 rw[Int.tdiv_eq_ediv_of_nonneg ha]
 exact⟨Int.ediv_nonneg ha (by omega),Int.ediv_le_self _ ha⟩
theorem zNK (x:UInt8):(0:Int)≤(x.toNat:Int)∧(x.toNat:Int)≤255:=by
 have:=x.toNat_lt;omega
theorem t51 {n:Int}{r:List UInt8×Int}{c:Nat}(h:Rd c r)(hc:c≤1000000):Tot (F51 (n,r)) fun y=>0≤y.1∧(1≤n→y.1<n)∧(n<1→y.1=0)∧Rd (c+1) y.2:=by
 obtain⟨b,p⟩:=r
 obtain⟨hb,h0,h1⟩:=h
 simp only at hb h0 h1
 have hR:Rd (c+1) (b,p+1):=⟨hb,by show(0:Int)≤p+1;omega,by show p+1≤((c+1:Nat):Int);omega⟩
 unfold F51
 simp only[show IntKind.wrap .i64 (p+1)=p+1 from wrapI (by omega) (by omega)]
 refine Tot.bindE (fun y=>y=(n,b,p+1)∧1≤n∧b≠[]) ?_ ?_
 ·refine Tot.cnd (fun hn=>?_) (fun hn=>?_)
  ·simp only[zDe]at hn
   exact Tot.ret ⟨by simp,fun h=>absurd h (by omega),fun _=>rfl,hR⟩
  ·simp only[decide_eq_false_iff_not]at hn
   refine Tot.cnd (fun hb=>?_) (fun hb=>?_)
   ·exact Tot.ret ⟨by simp,fun h=>by show(0:Int)<n;omega,fun _=>rfl,hR⟩
   ·simp only[decide_eq_false_iff_not]at hb
    exact Tot.ret ⟨rfl,by omega,fun e=>hb (by rw[e];rfl)⟩
 ·rintro _ ⟨rfl,hn,hne⟩
  have hl:1≤b.length:=by cases b;exact absurd rfl hne;simp
  simp only[show IntKind.wrap .i64 (p+1-1)=p by rw[show p+1-1=p by omega];exact wrapI (by omega) (by omega)]
  have hnz:(!decide (n=0))=true:=by simp;omega
  have hlz:(!decide (((b.length:Nat):Int)=0))=true:=by simp;omega
  refine Tot.cnd (fun hk=>?_) (fun hk=>?_)
  ·simp only[zDe]at hk
   refine Tot.grd (by simpa using h0) (Tot.at (by omega) fun x hx=>Tot.grd hnz ?_)
   have hx:=zNK x
   have hw:IntKind.wrap .i64 ((x.toNat:Nat):Int)=x.toNat:=wrapI (by omega) (by omega)
   rw[hw]
   have:=zIM (n:=n) hx.1 hn
   exact Tot.ret ⟨this.1,fun _=>this.2,fun h=>absurd h (by omega),hR⟩
  ·have hm1:=zIM (a:=p) (n:=(b.length:Int)) h0 (by omega)
   have w7:IntKind.wrap .i64 (IntKind.wrap .i64 (p*7)+3)=p*7+3:=by
    rw[wrapI (x:=p*7) (by omega) (by omega),wrapI (by omega) (by omega)]
   simp only[w7]
   have hm2:=zIM (a:=p*7+3) (n:=(b.length:Int)) (by omega) (by omega)
   refine Tot.grd hlz (Tot.grd (by simpa using hm1.1) (Tot.at (by omega) fun x hx=>Tot.grd hlz (Tot.grd (by simpa using hm2.1) (Tot.at (by omega) fun x1 hx1=>Tot.grd hlz (Tot.grd hnz ?_)))))
   have hx:=zNK x
   have hx1:=zNK x1
   have hd:=zRP (a:=p) (n:=(b.length:Int)) h0 (by omega)
   generalize (x.toNat:Int)=u at hx ⊢
   generalize (x1.toNat:Int)=v at hx1 ⊢
   generalize Int.tdiv p (b.length:Int)=d at hd ⊢
   have e:IntKind.wrap .i64 (IntKind.wrap .i64 (IntKind.wrap .i64 (IntKind.wrap .i64 (IntKind.wrap .i64 u*131)+IntKind.wrap .i64 (IntKind.wrap .i64 v*1117))+IntKind.wrap .i64 (p*29))+IntKind.wrap .i64 (IntKind.wrap .i64 d*53))=u*131+v*1117+p*29+d*53:=by
    rw[wrapI (x:=u) (by omega) (by omega),wrapI (x:=v) (by omega) (by omega),wrapI (x:=d) (by omega) (by omega),wrapI (x:=u*131) (by omega) (by omega),wrapI (x:=v*1117) (by omega) (by omega),wrapI (x:=p*29) (by omega) (by omega),wrapI (x:=d*53) (by omega) (by omega),wrapI (x:=u*131+v*1117) (by omega) (by omega),wrapI (x:=u*131+v*1117+p*29) (by omega) (by omega),wrapI (by omega) (by omega)]
   simp only[e]
   generalize ht:u*131+v*1117+p*29+d*53=t
   have h64:=zRP (a:=t) (n:=64) (by omega) (by omega)
   rw[wrapI (x:=Int.tdiv t 64) (by omega) (by omega)]
   have hxo:=zPX (a:=t) (b:=Int.tdiv t 64) (by omega) (by omega) (by omega) (by omega)
   have:=zIM (n:=n) hxo hn
   exact Tot.ret ⟨this.1,fun _=>this.2,fun h=>absurd h (by omega),hR⟩
theorem tot_of {α:Type}{F:List α×List UInt8×Int→Option (α×List UInt8×Int)}(hF:∀ l r,F (l,r)=zAA (F51 (((l.length:Nat):Int),r)) fun y=>grdO (decide (0≤y.1)) (atO l y.1.toNat fun x=>some (x,y.2)))
  {l:List α} {r:List UInt8×Int} {c:Nat} (h:Rd c r) (hc:c≤1000000) (hl:l≠[]):Tot (F (l,r)) fun y=>y.1∈l∧Rd (c+1) y.2:=by
 rw[hF]
 have hl:1≤l.length:=by cases l;exact absurd rfl hl;simp
 refine Tot.bind (t51 h hc) fun y hy=>?_
 have:=hy.2.1 (by omega)
 refine Tot.grd (by simpa using hy.1) (Tot.at (by omega) fun x hx=>Tot.ret ⟨List.mem_of_getElem? hx,hy.2.2.2⟩)
theorem t105 {l:List Int}{r:List UInt8×Int}{c:Nat}(h:Rd c r)(hc:c≤1000000)(hl:l≠[]):Tot (F105 (l,r)) fun y=>y.1∈l∧Rd (c+1) y.2 :=
 tot_of (fun l r=>rfl) h hc hl
theorem t119 {l:List (List UInt8)}{r:List UInt8×Int}{c:Nat}(h:Rd c r)(hc:c≤1000000)(hl:l≠[]):Tot (F119 (l,r)) fun y=>y.1∈l∧Rd (c+1) y.2 :=
 tot_of (fun l r=>rfl) h hc hl
theorem t49 (code:List UInt8):Tot (F49 code) (Rd 0):=by
 unfold F49
 refine Tot.cnd (fun h=>?_) (fun h=>?_)
 ·simp only[zDe]at h
  refine Tot.grd (by simp;omega) (Tot.ret ⟨?_,by simp,by simp⟩)
  simp only[List.drop_zero,List.length_take];omega
 ·simp only[decide_eq_false_iff_not]at h
  exact Tot.ret ⟨by simp only;omega,by simp,by simp⟩
theorem zGK (n:Int) : -9223372036854775808≤IntKind.wrap .i64 n∧IntKind.wrap .i64 n≤9223372036854775807:=by
 simp only[IntKind.wrap,IntKind.bits,IntKind.signed]
 simp
 split<;>omega
theorem wrap8' (n:Int):0≤IntKind.wrap .u8 n∧IntKind.wrap .u8 n≤255:=by
 have h:IntKind.wrap .u8 n=n % 256:=by simp[IntKind.wrap,IntKind.bits,IntKind.signed]
 rw[h];omega
theorem u8ok (n:Int):(decide ((0:Int)≤IntKind.wrap .u8 n)&&decide (IntKind.wrap .u8 n≤(255:Int)))=true:=by
 have:=wrap8' n;simp[this.1,this.2]
theorem d274:∀(k:Nat) (n:Int),n≤9223372036854775807→0≤n→n<10^(k+1)→k≤30→Tot (G274 (k+1) n) fun s=>s.length≤k+1
 | 0,n,_,h0,h1,_=>by
   show Tot (H274 (G274 0) n) _
   unfold H274
   refine Tot.cnd (fun h=>?_) (fun _=>Tot.cnd (fun h=>?_) (fun _=>Tot.cnd (fun _=>Tot.grd (u8ok _) (Tot.ret (by simp))) (fun h=>?_)))
   ·simp only[zDe]at h;omega
   ·simp only[zDe]at h;omega
   ·simp only[decide_eq_false_iff_not]at h;omega
 | k+1,n,hm,h0,h1,hk=>by
   show Tot (H274 (G274 (k+1)) n) _
   unfold H274
   refine Tot.cnd (fun h=>?_) (fun _=>Tot.cnd (fun h=>?_) (fun _=>Tot.cnd (fun _=>Tot.grd (u8ok _) (Tot.ret (by simp))) (fun h=>?_)))
   ·simp only[zDe]at h;omega
   ·simp only[zDe]at h;omega
   ·simp only[decide_eq_false_iff_not]at h
    have hp:(10:Int)^(k+1+1)=10^(k+1)*10:=Int.pow_succ _ _
    have hd:Int.tdiv n 10=n / 10:=Int.tdiv_eq_ediv_of_nonneg h0
    have hlt:n / 10<10^(k+1):=by omega
    have hw:IntKind.wrap .i64 (Int.tdiv n 10)=n / 10:=by rw[hd];exact wrapI (by omega) (by omega)
    obtain⟨y,e,hy⟩:=d274 k (n / 10) (by omega) (by omega) hlt (by omega)
    rw[hw,e]
    simp only[zAB,decide_true,zAE,zAW,u8ok]
    have hl:decide (y.length+1≤9223372036854775807)=true:=by simp only[zDe];omega
    simp only[hl,zAE,zDb]
    exact Tot.ret (by simp only[List.length_append,List.length_cons,List.length_nil];omega)
theorem t274 {n:Int}(h1 : -9223372036854775808≤n)(h2:n≤9223372036854775807):Tot (F274 n) fun s=>s.length≤25:=by
 have p23:(10:Int)^23=100000000000000000000000:=by decide
 have p24:(10:Int)^24=1000000000000000000000000:=by decide
 by_cases h0:0≤n
 ·exact(d274 23 n h2 h0 (by omega) (by omega)).mono fun s h=>by omega
 ·show Tot (H274 (G274 23) n) _
  unfold H274
  refine Tot.cnd (fun h=>Tot.ret (by simp)) (fun h=>Tot.cnd (fun _=>?_) (fun h=>?_))
  ·simp only[decide_eq_false_iff_not]at h
   rw[wrapI (x:=0-n) (by omega) (by omega)]
   refine Tot.bind (d274 22 (0-n) (by omega) (by omega) (by omega) (by omega)) fun y hy=>Tot.grd (by simp only[zDe];omega) (Tot.ret ?_)
   simp only[List.length_append,List.length_cons,List.length_nil];omega
  ·simp only[decide_eq_false_iff_not]at h;omega
theorem t301 {list:List (List UInt8)}{s:List UInt8}(hl:list.length≤1000000000000):Tot (F301 (list,s)) fun _=>True:=by
 unfold F301
 refine Tot.bindE (fun _=>True) (Tot.loop (fun x=>x.1=list∧0≤x.2.2∧x.2.2≤(list.length:Int)) (fun x=>list.length-x.2.2.toNat) ?_ ⟨rfl,by simp,by simp⟩) (fun _ _=>Tot.ret trivial)
 rintro⟨l,s,i⟩ ⟨rfl,h0,h1⟩
 simp only at hl
 refine Tot.cnd (fun h=>?_) (fun h=>Tot.ret trivial)
 simp only[zDe]at h
 simp only at h0 h1
 refine Tot.grd (by simpa using h0) (Tot.at (by omega) fun x _=>Tot.cnd (fun _=>Tot.ret trivial) fun _=>Tot.ret ?_)
 simp only[Sum.elim_inl,true_and]
 rw[wrapI (by omega) (by omega)]
 omega
theorem t107 (a b c:Int):Tot (F107 (a,b,c)) fun _=>True:=by
 unfold F107
 exact Tot.cnd (fun _=>Tot.ret trivial) fun _=>Tot.ret trivial
theorem t251 (n:Int):Tot (F251 n) fun _=>True:=by
 unfold F251
 refine Tot.bindE (fun _=>True) ?_ fun y _=>?_
 ·exact Tot.cnd (fun _=>Tot.ret trivial) fun _=>Tot.cnd (fun _=>Tot.ret trivial) fun _=>Tot.cnd (fun _=>Tot.ret trivial) fun _=>Tot.cnd (fun _=>Tot.ret trivial) fun _=>Tot.cnd (fun _=>Tot.ret trivial) fun _=>Tot.ret trivial
 ·refine Tot.bind (t107 _ _ _) fun y _=>Tot.cnd (fun _=>Tot.ret trivial) fun _=>Tot.bind (t107 _ _ _) fun y _=>Tot.cnd (fun _=>Tot.ret trivial) fun _=>Tot.bind (t107 _ _ _) fun y _=>Tot.cnd (fun _=>Tot.ret trivial) fun _=>Tot.ret trivial
theorem t278 {s:List UInt8}{b most:Int}(hs:s.length≤1000000000000)(hm:0≤most) :
  Tot (F278 (s,b,most)) fun out=>1≤out.length∧out.length≤s.length+1∧(out.length:Int)≤most+1∧∀x∈out,x.length≤s.length:=by
 unfold F278
 refine Tot.bindE (fun y=>y.1=s∧y.2.1.length≤s.length∧(y.2.1.length:Int)≤most∧(∀x∈y.2.1,x.length≤s.length)∧0≤y.2.2∧y.2.2≤(s.length:Int))
  (Tot.loop (fun x=>x.1=s∧x.2.2.1=most∧(∀z∈x.2.2.2.1,z.length≤s.length)∧(x.2.2.2.1.length:Int)≤most∧(x.2.2.2.1.length:Int)≤x.2.2.2.2.2∧0≤x.2.2.2.2.1∧x.2.2.2.2.1≤x.2.2.2.2.2∧x.2.2.2.2.2≤(s.length:Int)) (fun x=>s.length-x.2.2.2.2.2.toNat) ?_ ⟨rfl,rfl,by simp,by simpa using hm,by simp,by simp,by simp,by simp⟩) ?_
 ·rintro⟨s1,b1,m1,out,fr,i⟩ ⟨rfl,rfl,h1,h2,h3,h4,h5,h6⟩
  simp only at h1 h2 h3 h4 h5 h6 hs
  refine Tot.bindE (fun y=>y=(s1,b1,m1,out,fr,i)∧i<(s1.length:Int)∧(out.length:Int)<m1) ?_ ?_
  ·refine Tot.cnd (fun h=>Tot.cnd (fun g=>?_) fun _=>?_) fun _=>?_
   ·simp only[zDe]at h g
    exact Tot.ret ⟨rfl,h,g⟩
   ·exact Tot.ret ⟨rfl,by simp only;omega,h2,h1,h4,by simp only;omega⟩
   ·exact Tot.ret ⟨rfl,by simp only;omega,h2,h1,h4,by simp only;omega⟩
  ·rintro _ ⟨rfl,g1,g2⟩
   refine Tot.bindE (fun y=>y.1=s1∧y.2.2.1=m1∧(∀z∈y.2.2.2.1,z.length≤s1.length)∧(y.2.2.2.1.length:Int)≤m1∧(y.2.2.2.1.length:Int)≤i+1∧0≤y.2.2.2.2.1∧y.2.2.2.2.1≤i+1∧y.2.2.2.2.2=i) ?_ ?_
   ·refine Tot.grd (by simp only[zDe];omega) (Tot.at (by omega) fun x _=>Tot.cnd (fun _=>?_) fun _=>?_)
    ·refine Tot.grd (by simp only[zBa,zDe];omega) (Tot.grd (by simp only[zBa,zDe];omega) (Tot.ret ⟨rfl,rfl,?_,?_,?_,?_,?_,rfl⟩))
     ·intro z hz
      simp only[List.mem_append,List.mem_singleton]at hz
      rcases hz with hz|rfl
      ·exact h1 z hz
      ·simp only[List.length_drop,List.length_take];omega
     ·simp only[List.length_append,List.length_cons,List.length_nil];omega
     ·simp only[List.length_append,List.length_cons,List.length_nil];omega
     ·simp only;rw[wrapI (by omega) (by omega)];omega
     ·simp only;rw[wrapI (by omega) (by omega)];omega
    ·exact Tot.ret ⟨rfl,rfl,h1,h2,by simp only;omega,h4,by simp only;omega,rfl⟩
   ·rintro⟨s2,b2,m2,out2,fr2,i2⟩ ⟨rfl,rfl,k1,k2,k3,k4,k5,rfl⟩
    simp only at k1 k2 k3 k4 k5 hs g1 g2 h4 h5
    have hw:IntKind.wrap .i64 (i2+1)=i2+1:=wrapI (by omega) (by omega)
    refine Tot.ret ⟨⟨rfl,rfl,k1,k2,?_,k4,?_,?_⟩,?_⟩<;>(simp only;rw[hw];omega)
 ·rintro⟨s1,out,fr⟩ ⟨rfl,h1,h2,h3,h4,h5⟩
  simp only at h1 h2 h3 h4 h5 hs
  refine Tot.grd (by simp only[zBa,zDe];omega) (Tot.grd (by simp only[zBa,zDe];omega) (Tot.ret ⟨?_,?_,?_,?_⟩))
  ·simp
  ·simp only[List.length_append,List.length_cons,List.length_nil];omega
  ·simp only[List.length_append,List.length_cons,List.length_nil];omega
  ·intro z hz
   simp only[List.mem_append,List.mem_singleton]at hz
   rcases hz with hz|rfl
   ·exact h3 z hz
   ·simp only[List.length_drop,List.length_take];omega
end Go.Proofs.YtdpapeledldifaaGreat
end
section
namespace Go.Proofs.YtdpapeledldifaaGreat
open Go Go.AM Go.TM
set_option maxRecDepth 10000
def Gt (K:Nat)(g:List UInt8×List UInt8×List UInt8×Int×List UInt8):Prop :=
 g.1.length≤K∧g.2.1.length≤K∧g.2.2.1.length≤K∧((-9223372036854775808:Int)≤g.2.2.2.1∧g.2.2.2.1≤(9223372036854775807:Int))∧g.2.2.2.2.length≤3
theorem Gt.mono {K L:Nat}{g:List UInt8×List UInt8×List UInt8×Int×List UInt8}(h:Gt K g)(hc:K≤L):Gt L g :=
 ⟨Nat.le_trans h.1 hc,Nat.le_trans h.2.1 hc,Nat.le_trans h.2.2.1 hc,h.2.2.2.1,h.2.2.2.2⟩
theorem zDB {m:Nat}{l:List (List UInt8)}{r:List UInt8×Int}{c:Nat}(h:Rd c r)(hc:c≤1000000)(hl:l≠[])(hm:∀ x∈l,x.length≤m):Tot (F119 (l,r)) fun y=>y.1.length≤m∧Rd (c+1) y.2 :=
 (t119 h hc hl).mono fun y hy=>⟨hm _ hy.1,hy.2⟩
theorem zUQ {m:Int}{l:List Int}{r:List UInt8×Int}{c:Nat}(h:Rd c r)(hc:c≤1000000)(hl:l≠[])(hm:∀ x∈l,-m≤x∧x≤m):Tot (F105 (l,r)) fun y=>-m≤y.1∧y.1≤m∧Rd (c+1) y.2 :=
 (t105 h hc hl).mono fun y hy=>⟨(hm _ hy.1).1,(hm _ hy.1).2,hy.2⟩
theorem t273 {s:List UInt8}{g:List UInt8×List UInt8×List UInt8×Int×List UInt8}{r:List UInt8×Int}{K:Nat}{c:Nat}(hs:List.length s≤100)(hg:Gt K g)(hr:Rd c r)(hK:K≤950000)(hc:c≤950000):Tot (F273 (s,g,r)) fun y=>Gt (K+110) y.1∧Rd (c+0) y.2:=by
 obtain⟨o1,o2,o3,o4,o5⟩:=g
 have ko1:List.length o1≤K+0:=hg.1
 have ko2:List.length o2≤K+0:=hg.2.1
 have ko3:List.length o3≤K+0:=hg.2.2.1
 have ko5:List.length o5≤3:=hg.2.2.2.2
 obtain⟨o0,o11⟩:=r
 unfold F273
 refine Tot.grd (by simp<;>omega) ?_
 refine Tot.grd (by simp<;>omega) ?_
 refine Tot.grd (by simp<;>omega) ?_
 refine Tot.bind (P:=fun y=>y.length≤100) (Tot.ret (by decide)) ?_
 intro y ky
 refine Tot.seq (by repeat first|exact Tot.ret trivial|refine Tot.seq ?_ ?_|refine Tot.grd (by first|decide|simp<;>omega) ?_) ?_
 refine Tot.bind (t278 (by omega) (by omega)) ?_
 intro y1 ky1
 refine Tot.seq (by repeat first|exact Tot.ret trivial|refine Tot.seq ?_ ?_|refine Tot.grd (by first|decide|simp<;>omega) ?_) ?_
 refine Tot.at (by omega) fun x _=>?_
 refine Tot.bind (t301 (by omega)) ?_
 intro y2 _
 refine Tot.seq (by repeat first|exact Tot.ret trivial|refine Tot.seq ?_ ?_|refine Tot.grd (by first|decide|simp<;>omega) ?_) ?_
 refine Tot.bind (t251 _) ?_
 intro y3 _
 refine Tot.seq (by repeat first|exact Tot.ret trivial|refine Tot.seq ?_ ?_|refine Tot.grd (by first|decide|simp<;>omega) ?_) ?_
 exact Tot.ret ⟨⟨(by show List.length _≤_;first|omega|simp<;>omega),(by show List.length _≤_;first|omega|simp<;>omega),(by show List.length _≤_;first|omega|simp<;>omega),(zGK _),(by show List.length _≤_;first|omega|simp<;>omega)⟩,hr.mono (by omega)⟩
theorem t277 {g:List UInt8×List UInt8×List UInt8×Int×List UInt8}{r:List UInt8×Int}{K:Nat}{c:Nat}(hg:Gt K g)(hr:Rd c r)(hK:K≤950000)(hc:c≤950000):Tot (F277 (g,r)) fun y=>List.length y.1≤25∧Gt (K+0) y.2.1∧Rd (c+1) y.2.2:=by
 obtain⟨o1,o2,o3,o4,o5⟩:=g
 obtain⟨o0,o11⟩:=r
 unfold F277
 refine Tot.bind (t51 hr (by omega)) ?_
 rintro⟨y,y1,y2⟩ ⟨(a2:(0:Int)≤y),(b3:(1:Int)≤(3:Int)→y<(3:Int)),-,hr1⟩
 refine Tot.bind (t274 (by omega) (by omega)) ?_
 intro y3 (ky3:List.length y3≤25)
 exact Tot.ret ⟨(by first|omega|simp<;>omega),hg.mono (by omega),hr1.mono (by omega)⟩
theorem t308 {g:List UInt8×List UInt8×List UInt8×Int×List UInt8}{r:List UInt8×Int}{K:Nat}{c:Nat}(hg:Gt K g)(hr:Rd c r)(hK:K≤950000)(hc:c≤950000):Tot (F308 (g,r)) fun y=>List.length y.1≤20∧Gt (K+0) y.2.1∧Rd (c+0) y.2.2:=by
 obtain⟨o1,o2,o3,o4,o5⟩:=g
 have ko1:List.length o1≤K+0:=hg.1
 have ko2:List.length o2≤K+0:=hg.2.1
 have ko3:List.length o3≤K+0:=hg.2.2.1
 have ko5:List.length o5≤3:=hg.2.2.2.2
 obtain⟨o0,o11⟩:=r
 unfold F308
 refine Tot.grd (by simp<;>omega) ?_
 refine Tot.grd (by simp<;>omega) ?_
 refine Tot.grd (by simp<;>omega) ?_
 refine Tot.grd (by simp<;>omega) ?_
 exact Tot.ret ⟨(by first|omega|simp<;>omega),hg.mono (by omega),hr.mono (by omega)⟩
theorem t307 {locals:List UInt8}{stack:List UInt8}{g:List UInt8×List UInt8×List UInt8×Int×List UInt8}{r:List UInt8×Int}{K:Nat}{c:Nat}(hlocals:List.length locals≤20)(hstack:List.length stack≤20)(hg:Gt K g)(hr:Rd c r)(hK:K≤950000)(hc:c≤950000):Tot (F307 (locals,stack,g,r)) fun y=>Gt (K+110) y.1∧Rd (c+0) y.2:=by
 obtain⟨o1,o2,o3,o4,o5⟩:=g
 have ko1:List.length o1≤K+0:=hg.1
 have ko2:List.length o2≤K+0:=hg.2.1
 have ko3:List.length o3≤K+0:=hg.2.2.1
 have ko5:List.length o5≤3:=hg.2.2.2.2
 obtain⟨o0,o11⟩:=r
 unfold F307
 refine Tot.grd (by simp<;>omega) ?_
 refine Tot.bind (t274 hg.2.2.2.1.1 hg.2.2.2.1.2) ?_
 intro y (ky:List.length y≤25)
 refine Tot.seq (by repeat first|exact Tot.ret trivial|refine Tot.seq ?_ ?_|refine Tot.grd (by first|decide|simp<;>omega) ?_) ?_
 refine Tot.grd (by simp<;>omega) ?_
 refine Tot.grd (by simp<;>omega) ?_
 refine Tot.grd (by simp<;>omega) ?_
 refine Tot.grd (by simp<;>omega) ?_
 refine Tot.grd (by simp<;>omega) ?_
 refine Tot.grd (by simp<;>omega) ?_
 exact Tot.ret ⟨⟨(by show List.length _≤_;first|omega|simp<;>omega),(by show List.length _≤_;first|omega|simp<;>omega),(by show List.length _≤_;first|omega|simp<;>omega),⟨hg.2.2.2.1.1,hg.2.2.2.1.2⟩,(by show List.length _≤_;first|omega|simp<;>omega)⟩,hr.mono (by omega)⟩
theorem t303 {g:List UInt8×List UInt8×List UInt8×Int×List UInt8}{r:List UInt8×Int}{K:Nat}{c:Nat}(hg:Gt K g)(hr:Rd c r)(hK:K≤900000)(hc:c≤900000):Tot (F303 (g,r)) fun y=>Gt (K+500) y.1∧Rd (c+10) y.2:=by
 obtain⟨o1,o2,o3,o4,o5⟩:=g
 obtain⟨o0,o11⟩:=r
 unfold F303
 refine Tot.bind (t51 hr (by omega)) ?_
 rintro⟨y,y1,y2⟩ ⟨(a2:(0:Int)≤y),(b3:(1:Int)≤(6:Int)→y<(6:Int)),-,hr1⟩
 refine Tot.bindE (fun y=>Gt (K+330) y.1∧Rd (c+4) y.2) ?_ ?_
 ·refine Tot.cnd (fun c4=>?_) (fun c4=>?_)
  ·refine Tot.bind (t277 hg hr1 (by omega) (by omega)) ?_
   rintro⟨y3,⟨y4,y5,y6,y7,y8⟩,x,x1⟩ ⟨(ky3:List.length y3≤25),hg5,hr6⟩
   refine Tot.grd (by simp<;>omega) ?_
   refine Tot.bind (t273 (by first|omega|simp<;>omega) hg5 hr6 (by omega) (by omega)) ?_
   rintro⟨⟨y9,y10,y11,y12,y13⟩,y14,x2⟩ ⟨hg7,hr8⟩
   refine Tot.bind (t273 (by first|omega|simp<;>omega) hg7 hr8 (by omega) (by omega)) ?_
   rintro⟨⟨y15,y16,y17,y18,y19⟩,y20,x3⟩ ⟨hg9,hr10⟩
   exact Tot.ret ⟨hg9.mono (by omega),hr10.mono (by omega)⟩
  ·refine Tot.cnd (fun c11=>?_) (fun c11=>?_)
   ·refine Tot.bind (t277 hg hr1 (by omega) (by omega)) ?_
    rintro⟨y3,⟨y4,y5,y6,y7,y8⟩,x,x1⟩ ⟨(ky3:List.length y3≤25),hg12,hr13⟩
    refine Tot.grd (by simp<;>omega) ?_
    refine Tot.bind (t273 (by first|omega|simp<;>omega) hg12 hr13 (by omega) (by omega)) ?_
    rintro⟨⟨y9,y10,y11,y12,y13⟩,y14,x2⟩ ⟨hg14,hr15⟩
    refine Tot.bind (t273 (by first|omega|simp<;>omega) hg14 hr15 (by omega) (by omega)) ?_
    rintro⟨⟨y15,y16,y17,y18,y19⟩,y20,x3⟩ ⟨hg16,hr17⟩
    exact Tot.ret ⟨hg16.mono (by omega),hr17.mono (by omega)⟩
   ·refine Tot.cnd (fun c18=>?_) (fun c18=>?_)
    ·refine Tot.bind (t273 (by first|omega|simp<;>omega) hg hr1 (by omega) (by omega)) ?_
     rintro⟨⟨y3,y4,y5,y6,y7⟩,y8,x⟩ ⟨hg19,hr20⟩
     exact Tot.ret ⟨hg19.mono (by omega),hr20.mono (by omega)⟩
    ·refine Tot.cnd (fun c21=>?_) (fun c21=>?_)
     ·refine Tot.bind (zUQ (m:=100000) hr1 (by omega) (by simp) (by decide)) ?_
      rintro⟨y3,y4,y5⟩ ⟨(a23:(-100000:Int)≤y3),(b24:y3≤(100000:Int)),hr22⟩
      refine Tot.bind (t274 (by omega) (by omega)) ?_
      intro y6 (ky6:List.length y6≤25)
      refine Tot.grd (by simp<;>omega) ?_
      refine Tot.bind (t273 (by first|omega|simp<;>omega) hg hr22 (by omega) (by omega)) ?_
      rintro⟨⟨y7,y8,y9,y10,y11⟩,y12,x⟩ ⟨hg25,hr26⟩
      refine Tot.bind (zUQ (m:=100000) hr26 (by omega) (by simp) (by decide)) ?_
      rintro⟨y13,y14,y15⟩ ⟨(a28:(-100000:Int)≤y13),(b29:y13≤(100000:Int)),hr27⟩
      refine Tot.bind (t274 (by omega) (by omega)) ?_
      intro y16 (ky16:List.length y16≤25)
      refine Tot.grd (by simp<;>omega) ?_
      refine Tot.bind (t273 (by first|omega|simp<;>omega) hg25 hr27 (by omega) (by omega)) ?_
      rintro⟨⟨y17,y18,y19,y20,y21⟩,y22,x1⟩ ⟨hg30,hr31⟩
      refine Tot.bind (zDB (m:=3) hr31 (by omega) (by simp) (by decide)) ?_
      rintro⟨y23,y24,y25⟩ ⟨(ky23:List.length y23≤3),hr32⟩
      refine Tot.bind (t273 (by first|omega|simp<;>omega) hg30 hr32 (by omega) (by omega)) ?_
      rintro⟨⟨y26,y27,y28,y29,y30⟩,y31,x2⟩ ⟨hg33,hr34⟩
      exact Tot.ret ⟨hg33.mono (by omega),hr34.mono (by omega)⟩
     ·refine Tot.bind (zUQ (m:=100000) hr1 (by omega) (by simp) (by decide)) ?_
      rintro⟨y3,y4,y5⟩ ⟨(a36:(-100000:Int)≤y3),(b37:y3≤(100000:Int)),hr35⟩
      refine Tot.bind (t274 (by omega) (by omega)) ?_
      intro y6 (ky6:List.length y6≤25)
      refine Tot.grd (by simp<;>omega) ?_
      refine Tot.bind (t273 (by first|omega|simp<;>omega) hg hr35 (by omega) (by omega)) ?_
      rintro⟨⟨y7,y8,y9,y10,y11⟩,y12,x⟩ ⟨hg38,hr39⟩
      exact Tot.ret ⟨hg38.mono (by omega),hr39.mono (by omega)⟩
 rintro⟨⟨o12,o21,o31,o41,o51⟩,o01,o13⟩ ⟨hg40,hr41⟩
 exact Tot.ret ⟨hg40.mono (by omega),hr41.mono (by omega)⟩
theorem t304 {g:List UInt8×List UInt8×List UInt8×Int×List UInt8}{r:List UInt8×Int}{K:Nat}{c:Nat}(hg:Gt K g)(hr:Rd c r)(hK:K≤900000)(hc:c≤900000):Tot (F304 (g,r)) fun y=>Gt (K+300) y.1∧Rd (c+5) y.2:=by
 obtain⟨o1,o2,o3,o4,o5⟩:=g
 obtain⟨o0,o11⟩:=r
 unfold F304
 refine Tot.bind (t51 hr (by omega)) ?_
 rintro⟨y,y1,y2⟩ ⟨(a2:(0:Int)≤y),(b3:(1:Int)≤(10:Int)→y<(10:Int)),-,hr1⟩
 refine Tot.bindE (fun y=>Gt (K+220) y.1∧Rd (c+3) y.2) ?_ ?_
 ·refine Tot.cnd (fun c4=>?_) (fun c4=>?_)
  ·refine Tot.bind (t273 (by first|omega|simp<;>omega) hg hr1 (by omega) (by omega)) ?_
   rintro⟨⟨y3,y4,y5,y6,y7⟩,y8,x⟩ ⟨hg5,hr6⟩
   exact Tot.ret ⟨hg5.mono (by omega),hr6.mono (by omega)⟩
  ·refine Tot.bindE (fun y=>Gt (K+0) y.2.2.1∧Rd (c+1) y.2.2.2) ?_ ?_
   ·refine Tot.cnd (fun c7=>?_) (fun c7=>?_)
    ·exact Tot.ret ⟨hg.mono (by omega),hr1.mono (by omega)⟩
    ·exact Tot.ret ⟨hg.mono (by omega),hr1.mono (by omega)⟩
   rintro⟨v8,v15,⟨o12,o21,o31,o41,o51⟩,o01,o13⟩ ⟨hg8,hr9⟩
   refine Tot.cnd (fun c10=>?_) (fun c10=>?_)
   ·refine Tot.bind (t273 (by first|omega|simp<;>omega) hg8 hr9 (by omega) (by omega)) ?_
    rintro⟨⟨y3,y4,y5,y6,y7⟩,y8,x⟩ ⟨hg11,hr12⟩
    exact Tot.ret ⟨hg11.mono (by omega),hr12.mono (by omega)⟩
   ·refine Tot.cnd (fun c13=>?_) (fun c13=>?_)
    ·refine Tot.bind (t273 (by first|omega|simp<;>omega) hg8 hr9 (by omega) (by omega)) ?_
     rintro⟨⟨y3,y4,y5,y6,y7⟩,y8,x⟩ ⟨hg14,hr15⟩
     exact Tot.ret ⟨hg14.mono (by omega),hr15.mono (by omega)⟩
    ·refine Tot.cnd (fun c16=>?_) (fun c16=>?_)
     ·refine Tot.bind (t277 hg8 hr9 (by omega) (by omega)) ?_
      rintro⟨y3,⟨y4,y5,y6,y7,y8⟩,x,x1⟩ ⟨(ky3:List.length y3≤25),hg17,hr18⟩
      refine Tot.grd (by simp<;>omega) ?_
      refine Tot.bind (t273 (by first|omega|simp<;>omega) hg17 hr18 (by omega) (by omega)) ?_
      rintro⟨⟨y9,y10,y11,y12,y13⟩,y14,x2⟩ ⟨hg19,hr20⟩
      refine Tot.bind (zDB (m:=1) hr20 (by omega) (by simp) (by decide)) ?_
      rintro⟨y15,y16,y17⟩ ⟨(ky15:List.length y15≤1),hr21⟩
      refine Tot.grd (by simp<;>omega) ?_
      refine Tot.bind (t273 (by first|omega|simp<;>omega) hg19 hr21 (by omega) (by omega)) ?_
      rintro⟨⟨y18,y19,y20,y21,y22⟩,y23,x3⟩ ⟨hg22,hr23⟩
      exact Tot.ret ⟨hg22.mono (by omega),hr23.mono (by omega)⟩
     ·refine Tot.cnd (fun c24=>?_) (fun c24=>?_)
      ·refine Tot.bind (t277 hg8 hr9 (by omega) (by omega)) ?_
       rintro⟨y3,⟨y4,y5,y6,y7,y8⟩,x,x1⟩ ⟨(ky3:List.length y3≤25),hg25,hr26⟩
       refine Tot.grd (by simp<;>omega) ?_
       refine Tot.bind (t273 (by first|omega|simp<;>omega) hg25 hr26 (by omega) (by omega)) ?_
       rintro⟨⟨y9,y10,y11,y12,y13⟩,y14,x2⟩ ⟨hg27,hr28⟩
       refine Tot.bind (t273 (by first|omega|simp<;>omega) hg27 hr28 (by omega) (by omega)) ?_
       rintro⟨⟨y15,y16,y17,y18,y19⟩,y20,x3⟩ ⟨hg29,hr30⟩
       exact Tot.ret ⟨hg29.mono (by omega),hr30.mono (by omega)⟩
      ·refine Tot.cnd (fun c31=>?_) (fun c31=>?_)
       ·refine Tot.bind (zDB (m:=3) hr9 (by omega) (by simp) (by decide)) ?_
        rintro⟨y3,y4,y5⟩ ⟨(ky3:List.length y3≤3),hr32⟩
        refine Tot.grd (by simp<;>omega) ?_
        refine Tot.bind (t273 (by first|omega|simp<;>omega) hg8 hr32 (by omega) (by omega)) ?_
        rintro⟨⟨y6,y7,y8,y9,y10⟩,y11,x⟩ ⟨hg33,hr34⟩
        exact Tot.ret ⟨hg33.mono (by omega),hr34.mono (by omega)⟩
       ·refine Tot.bind (t273 (by first|omega|simp<;>omega) hg8 hr9 (by omega) (by omega)) ?_
        rintro⟨⟨y3,y4,y5,y6,y7⟩,y8,x⟩ ⟨hg35,hr36⟩
        exact Tot.ret ⟨hg35.mono (by omega),hr36.mono (by omega)⟩
 rintro⟨⟨o12,o21,o31,o41,o51⟩,o01,o13⟩ ⟨hg37,hr38⟩
 exact Tot.ret ⟨hg37.mono (by omega),hr38.mono (by omega)⟩
theorem t305 {g:List UInt8×List UInt8×List UInt8×Int×List UInt8}{r:List UInt8×Int}{K:Nat}{c:Nat}(hg:Gt K g)(hr:Rd c r)(hK:K≤850000)(hc:c≤850000):Tot (F305 (g,r)) fun y=>Gt (K+1200) y.1∧Rd (c+20) y.2:=by
 obtain⟨o1,o2,o3,o4,o5⟩:=g
 obtain⟨o0,o11⟩:=r
 unfold F305
 refine Tot.bind (zDB (m:=6) hr (by omega) (by simp) (by decide)) ?_
 rintro⟨y,y1,y2⟩ ⟨(ky:List.length y≤6),hr1⟩
 refine Tot.bindE (fun y=>List.length y.1≤10∧Gt (K+500) y.2.1∧Rd (c+11) y.2.2) ?_ ?_
 ·refine Tot.cnd (fun c2=>?_) (fun c2=>?_)
  ·refine Tot.bind (t277 hg hr1 (by omega) (by omega)) ?_
   rintro⟨y3,⟨y4,y5,y6,y7,y8⟩,x,x1⟩ ⟨(ky3:List.length y3≤25),hg3,hr4⟩
   refine Tot.grd (by simp<;>omega) ?_
   refine Tot.bind (t273 (by first|omega|simp<;>omega) hg3 hr4 (by omega) (by omega)) ?_
   rintro⟨⟨y9,y10,y11,y12,y13⟩,y14,x2⟩ ⟨hg5,hr6⟩
   exact Tot.ret ⟨(by first|omega|simp<;>omega),hg5.mono (by omega),hr6.mono (by omega)⟩
  ·refine Tot.cnd (fun c7=>?_) (fun c7=>?_)
   ·refine Tot.bind (t277 hg hr1 (by omega) (by omega)) ?_
    rintro⟨y3,⟨y4,y5,y6,y7,y8⟩,x,x1⟩ ⟨(ky3:List.length y3≤25),hg8,hr9⟩
    refine Tot.grd (by simp<;>omega) ?_
    refine Tot.bind (t273 (by first|omega|simp<;>omega) hg8 hr9 (by omega) (by omega)) ?_
    rintro⟨⟨y9,y10,y11,y12,y13⟩,y14,x2⟩ ⟨hg10,hr11⟩
    refine Tot.bind (t277 hg10 hr11 (by omega) (by omega)) ?_
    rintro⟨y15,⟨y16,y17,y18,y19,y20⟩,x3,x4⟩ ⟨(ky15:List.length y15≤25),hg12,hr13⟩
    refine Tot.grd (by simp<;>omega) ?_
    refine Tot.bind (t273 (by first|omega|simp<;>omega) hg12 hr13 (by omega) (by omega)) ?_
    rintro⟨⟨y21,y22,y23,y24,y25⟩,y26,x5⟩ ⟨hg14,hr15⟩
    exact Tot.ret ⟨(by first|omega|simp<;>omega),hg14.mono (by omega),hr15.mono (by omega)⟩
   ·refine Tot.bind (t303 hg hr1 (by omega) (by omega)) ?_
    rintro⟨⟨y3,y4,y5,y6,y7⟩,y8,x⟩ ⟨hg16,hr17⟩
    exact Tot.ret ⟨(by first|omega|simp<;>omega),hg16.mono (by omega),hr17.mono (by omega)⟩
 rintro⟨test,⟨o12,o21,o31,o41,o51⟩,o01,o13⟩ ⟨(ktest:List.length test≤10),hg18,hr19⟩
 refine Tot.grd (by simp<;>omega) ?_
 refine Tot.bind (t274 (zGK _).1 (zGK _).2) ?_
 intro y3 (ky3:List.length y3≤25)
 refine Tot.grd (by simp<;>omega) ?_
 refine Tot.bind (t273 (by first|omega|simp<;>omega) hg18 hr19 (by omega) (by omega)) ?_
 rintro⟨⟨y4,y5,y6,y7,y8⟩,y9,x⟩ ⟨hg20,hr21⟩
 refine Tot.bind (t273 (by first|omega|simp<;>omega) hg20 hr21 (by omega) (by omega)) ?_
 rintro⟨⟨y10,y11,y12,y13,y14⟩,y15,x1⟩ ⟨hg22,hr23⟩
 refine Tot.bind (t273 (by first|omega|simp<;>omega) hg22 hr23 (by omega) (by omega)) ?_
 rintro⟨⟨y16,y17,y18,y19,y20⟩,y21,x2⟩ ⟨hg24,hr25⟩
 refine Tot.bind (t308 hg24 hr25 (by omega) (by omega)) ?_
 rintro⟨y22,⟨y23,y24,y25,y26,y27⟩,x3,x4⟩ ⟨(ky22:List.length y22≤20),hg26,hr27⟩
 refine Tot.bind (zDB (m:=1) hr27 (by omega) (by simp) (by decide)) ?_
 rintro⟨y28,y29,y30⟩ ⟨(ky28:List.length y28≤1),hr28⟩
 refine Tot.bind (t307 (by first|omega|simp<;>omega) (by first|omega|simp<;>omega) hg26 hr28 (by omega) (by omega)) ?_
 rintro⟨⟨y31,y32,y33,y34,y35⟩,y36,x5⟩ ⟨hg29,hr30⟩
 exact Tot.ret ⟨hg29.mono (by omega),hr30.mono (by omega)⟩
theorem t306 {g:List UInt8×List UInt8×List UInt8×Int×List UInt8}{r:List UInt8×Int}{K:Nat}{c:Nat}(hg:Gt K g)(hr:Rd c r)(hK:K≤850000)(hc:c≤850000):Tot (F306 (g,r)) fun y=>Gt (K+600) y.1∧Rd (c+5) y.2:=by
 obtain⟨o1,o2,o3,o4,o5⟩:=g
 obtain⟨o0,o11⟩:=r
 unfold F306
 refine Tot.bind (t51 hr (by omega)) ?_
 rintro⟨y,y1,y2⟩ ⟨(a2:(0:Int)≤y),(b3:(1:Int)≤(5:Int)→y<(5:Int)),-,hr1⟩
 refine Tot.bindE (fun y=>Gt (K+440) y.1∧Rd (c+2) y.2) ?_ ?_
 ·refine Tot.cnd (fun c4=>?_) (fun c4=>?_)
  ·refine Tot.bind (t277 hg hr1 (by omega) (by omega)) ?_
   rintro⟨y3,⟨y4,y5,y6,y7,y8⟩,x,x1⟩ ⟨(ky3:List.length y3≤25),hg5,hr6⟩
   refine Tot.grd (by simp<;>omega) ?_
   refine Tot.bind (t273 (by first|omega|simp<;>omega) hg5 hr6 (by omega) (by omega)) ?_
   rintro⟨⟨y9,y10,y11,y12,y13⟩,y14,x2⟩ ⟨hg7,hr8⟩
   refine Tot.bind (t273 (by first|omega|simp<;>omega) hg7 hr8 (by omega) (by omega)) ?_
   rintro⟨⟨y15,y16,y17,y18,y19⟩,y20,x3⟩ ⟨hg9,hr10⟩
   refine Tot.bind (t273 (by first|omega|simp<;>omega) hg9 hr10 (by omega) (by omega)) ?_
   rintro⟨⟨y21,y22,y23,y24,y25⟩,y26,x4⟩ ⟨hg11,hr12⟩
   exact Tot.ret ⟨hg11.mono (by omega),hr12.mono (by omega)⟩
  ·refine Tot.cnd (fun c13=>?_) (fun c13=>?_)
   ·refine Tot.bind (t273 (by first|omega|simp<;>omega) hg hr1 (by omega) (by omega)) ?_
    rintro⟨⟨y3,y4,y5,y6,y7⟩,y8,x⟩ ⟨hg14,hr15⟩
    refine Tot.bind (t277 hg14 hr15 (by omega) (by omega)) ?_
    rintro⟨y9,⟨y10,y11,y12,y13,y14⟩,x1,x2⟩ ⟨(ky9:List.length y9≤25),hg16,hr17⟩
    refine Tot.grd (by simp<;>omega) ?_
    refine Tot.bind (t273 (by first|omega|simp<;>omega) hg16 hr17 (by omega) (by omega)) ?_
    rintro⟨⟨y15,y16,y17,y18,y19⟩,y20,x3⟩ ⟨hg18,hr19⟩
    exact Tot.ret ⟨hg18.mono (by omega),hr19.mono (by omega)⟩
   ·refine Tot.cnd (fun c20=>?_) (fun c20=>?_)
    ·refine Tot.bind (t273 (by first|omega|simp<;>omega) hg hr1 (by omega) (by omega)) ?_
     rintro⟨⟨y3,y4,y5,y6,y7⟩,y8,x⟩ ⟨hg21,hr22⟩
     refine Tot.bind (t277 hg21 hr22 (by omega) (by omega)) ?_
     rintro⟨y9,⟨y10,y11,y12,y13,y14⟩,x1,x2⟩ ⟨(ky9:List.length y9≤25),hg23,hr24⟩
     refine Tot.grd (by simp<;>omega) ?_
     refine Tot.bind (t273 (by first|omega|simp<;>omega) hg23 hr24 (by omega) (by omega)) ?_
     rintro⟨⟨y15,y16,y17,y18,y19⟩,y20,x3⟩ ⟨hg25,hr26⟩
     exact Tot.ret ⟨hg25.mono (by omega),hr26.mono (by omega)⟩
    ·refine Tot.cnd (fun c27=>?_) (fun c27=>?_)
     ·refine Tot.bind (t277 hg hr1 (by omega) (by omega)) ?_
      rintro⟨y3,⟨y4,y5,y6,y7,y8⟩,x,x1⟩ ⟨(ky3:List.length y3≤25),hg28,hr29⟩
      refine Tot.grd (by simp<;>omega) ?_
      refine Tot.bind (t273 (by first|omega|simp<;>omega) hg28 hr29 (by omega) (by omega)) ?_
      rintro⟨⟨y9,y10,y11,y12,y13⟩,y14,x2⟩ ⟨hg30,hr31⟩
      refine Tot.bind (t273 (by first|omega|simp<;>omega) hg30 hr31 (by omega) (by omega)) ?_
      rintro⟨⟨y15,y16,y17,y18,y19⟩,y20,x3⟩ ⟨hg32,hr33⟩
      exact Tot.ret ⟨hg32.mono (by omega),hr33.mono (by omega)⟩
     ·refine Tot.bind (t273 (by first|omega|simp<;>omega) hg hr1 (by omega) (by omega)) ?_
      rintro⟨⟨y3,y4,y5,y6,y7⟩,y8,x⟩ ⟨hg34,hr35⟩
      refine Tot.bind (t277 hg34 hr35 (by omega) (by omega)) ?_
      rintro⟨y9,⟨y10,y11,y12,y13,y14⟩,x1,x2⟩ ⟨(ky9:List.length y9≤25),hg36,hr37⟩
      refine Tot.grd (by simp<;>omega) ?_
      refine Tot.bind (t273 (by first|omega|simp<;>omega) hg36 hr37 (by omega) (by omega)) ?_
      rintro⟨⟨y15,y16,y17,y18,y19⟩,y20,x3⟩ ⟨hg38,hr39⟩
      refine Tot.bind (t273 (by first|omega|simp<;>omega) hg38 hr39 (by omega) (by omega)) ?_
      rintro⟨⟨y21,y22,y23,y24,y25⟩,y26,x4⟩ ⟨hg40,hr41⟩
      refine Tot.bind (t273 (by first|omega|simp<;>omega) hg40 hr41 (by omega) (by omega)) ?_
      rintro⟨⟨y27,y28,y29,y30,y31⟩,y32,x5⟩ ⟨hg42,hr43⟩
      exact Tot.ret ⟨hg42.mono (by omega),hr43.mono (by omega)⟩
 rintro⟨⟨o12,o21,o31,o41,o51⟩,o01,o13⟩ ⟨hg44,hr45⟩
 exact Tot.ret ⟨hg44.mono (by omega),hr45.mono (by omega)⟩
theorem zCW {α R:Type}{l:List α}{n:Nat}{x:α}{k:α→Option R}(e:l[n]? = some x):atO l n k=k x:=by
 show(match l[n]? with|some x=>k x|none=>none)=k x
 rw[e]
def Pl (K:Nat)(p:List Cst):Prop:=p.length≤K∧∀x∈p,x.2.1.length≤60
theorem Pl.mono {K L:Nat}{p:List Cst}(h:Pl K p)(hc:K≤L):Pl L p:=⟨Nat.le_trans h.1 hc,h.2⟩
theorem Pl.app {K:Nat}{p:List Cst}{x:Cst}(h:Pl K p)(hx:x.2.1.length≤60):Pl (K+1) (p++[x]):=by
 refine⟨by have:=h.1;simp only[List.length_append,List.length_cons,List.length_nil];omega,fun y hy=>?_⟩
 simp only[List.mem_append,List.mem_singleton]at hy
 rcases hy with hy|rfl
 ·exact h.2 y hy
 ·exact hx
theorem t327 {s:List UInt8}(hs:s.length≤1000000000000):Tot (F327 s) fun _=>True:=by
 unfold F327
 refine Tot.bindE (fun y=>y.1=s) (Tot.loop (fun z=>z.1=s∧0≤z.2.2∧z.2.2≤(s.length:Int)) (fun z=>s.length-z.2.2.toNat) ?_ ⟨rfl,by simp,by simp⟩) ?_
 ·rintro⟨s1,n,i⟩ ⟨rfl,h0,h1⟩
  simp only at h0 h1 hs
  refine Tot.cnd (fun h=>?_) (fun h=>Tot.ret rfl)
  simp only[zDe]at h
  refine Tot.bindE (fun y=>y=(s1,n,i)) ?_ ?_
  ·exact Tot.grd (by simpa using h0) (Tot.at (by omega) fun x _=>Tot.cnd (fun _=>Tot.ret trivial) fun _=>Tot.grd (by simpa using h0) (Tot.at (by omega) fun x1 _=>Tot.cnd (fun _=>Tot.ret trivial) fun _=>Tot.cnd (fun _=>Tot.ret trivial) fun _=>Tot.ret rfl))
  ·rintro _ rfl
   refine Tot.grd (by simpa using h0) (Tot.at (by omega) fun x _=>Tot.ret ⟨⟨rfl,?_,?_⟩,?_⟩)<;>(simp only;rw[wrapI (x:=i+1) (by omega) (by omega)];omega)
 ·rintro⟨s1,n⟩ rfl
  refine Tot.cnd (fun _=>Tot.ret trivial) fun _=>Tot.cnd (fun h=>?_) fun _=>Tot.ret trivial
  simp only[zDe]at h
  exact Tot.at (by omega) fun x _=>Tot.cnd (fun _=>Tot.ret trivial) fun _=>Tot.ret trivial
theorem t325 {s:List UInt8}(hs:s.length≤1000000000000):Tot (F325 s) fun _=>True:=by
 unfold F325
 refine Tot.bindE (fun y=>y.1=s∧(y.2=true→1<s.length)) ?_ ?_
 ·refine Tot.cnd (fun h=>?_) fun h=>Tot.ret ⟨rfl,by simp⟩
  simp only[zDe]at h
  exact Tot.at (by omega) fun x _=>Tot.ret ⟨rfl,fun _=>by omega⟩
 ·rintro⟨s1,b⟩ ⟨rfl,hb⟩
  simp only at hb hs
  refine Tot.cnd (fun h=>?_) fun h=>Tot.bind (t327 hs) fun _ _=>Tot.ret trivial
  have:=hb h
  exact Tot.grd (by simp;omega) (Tot.bind (t327 (by simp;omega)) fun _ _=>Tot.ret trivial)
theorem t326 {x:Cst}{p:List Cst}{f n s:Int}{fa:List Int}{fi:List (Int×Int×Int)}{ms:List Mth}{bad:Bool}{K:Nat}(hx:x.2.1.length≤60)(hp:Pl K p)(hK:K≤1000000):Tot (F326 (x,p,f,n,s,fa,fi,ms,bad)) fun y=>∃i q,y=(i,q,f,n,s,fa,fi,ms,bad)∧Pl (K+1) q:=by
 obtain⟨c0,c1,c2,c3⟩:=x
 have hl:=hp.1
 unfold F326
 refine Tot.bindE (fun y=>y=((c0,c1,c2,c3),p,f,n,s,fa,fi,ms,bad)) (Tot.loop (fun z=>z.2=((c0,c1,c2,c3),p,f,n,s,fa,fi,ms,bad)∧0≤z.1∧z.1≤(p.length:Int)) (fun z=>p.length-z.1.toNat) ?_ ⟨rfl,by simp,by simp⟩) ?_
 ·rintro⟨i,z⟩ ⟨hz,h0,h1⟩
  simp only at hz h0 h1
  subst hz
  refine Tot.cnd (fun h=>?_) (fun h=>Tot.ret rfl)
  simp only[zDe]at h
  refine Tot.grd (by simp;omega) (Tot.at (by omega) fun y _=>Tot.cnd (fun _=>?_) fun _=>?_)
  ·exact Tot.ret ⟨_,_,rfl,hp.mono (by omega)⟩
  ·refine Tot.ret ⟨⟨rfl,?_,?_⟩,?_⟩<;>(simp only;rw[wrapI (by omega) (by omega)];omega)
 ·rintro _ rfl
  exact Tot.grd (by simp;omega) (Tot.ret ⟨_,_,rfl,hp.app hx⟩)
theorem t312 {x:List UInt8}{p:List Cst}{f n s:Int}{fa:List Int}{fi:List (Int×Int×Int)}{ms:List Mth}{bad:Bool}{K:Nat}(hp:Pl K p)(hK:K≤1000000):Tot (F312 (x,p,f,n,s,fa,fi,ms,bad)) fun y=>∃i q b,y=(i,q,f,n,s,fa,fi,ms,b)∧Pl (K+1) q:=by
 unfold F312
 refine Tot.cnd (fun h=>Tot.ret ⟨_,_,_,rfl,hp.mono (by omega)⟩) (fun h=>?_)
 simp only[decide_eq_false_iff_not]at h
 refine Tot.bind (t326 (by simp only;omega) hp hK) ?_
 rintro _ ⟨i,q,rfl,hq⟩
 exact Tot.ret ⟨_,_,_,rfl,hq⟩
theorem t310 {x:List UInt8}{p:List Cst}{f n s:Int}{fa:List Int}{fi:List (Int×Int×Int)}{ms:List Mth}{bad:Bool}{K:Nat}(hp:Pl K p)(hK:K≤900000):Tot (F310 (x,p,f,n,s,fa,fi,ms,bad)) fun y=>∃i q b,y=(i,q,f,n,s,fa,fi,ms,b)∧Pl (K+2) q:=by
 unfold F310
 refine Tot.bind (t312 hp (by omega)) ?_
 rintro _ ⟨i,q,b,rfl,hq⟩
 refine Tot.bind (t326 (by simp) hq (by omega)) ?_
 rintro _ ⟨i,q,rfl,hq⟩
 exact Tot.ret ⟨_,_,_,rfl,hq⟩
theorem t311 {x:List UInt8}{p:List Cst}{f n s:Int}{fa:List Int}{fi:List (Int×Int×Int)}{ms:List Mth}{bad:Bool}  (hx:x.length≤1000000000000):Tot (F311 (x,p,f,n,s,fa,fi,ms,bad)) fun y=>∃i b,y=(i,p,f,n,s,fa,fi,ms,b):=by
 unfold F311
 refine Tot.bind (t327 hx) ?_
 rintro i -
 exact Tot.cnd (fun _=>Tot.ret ⟨_,_,rfl⟩) fun _=>Tot.ret ⟨_,_,rfl⟩
theorem zRh {x:Cst}{p:List Cst}{f n s:Int}{fa:List Int}{fi:List (Int×Int×Int)}{ms:List Mth}{bad:Bool}{K:Nat}(hx:x.2.1.length≤60)(hp:Pl K p)(hK:K≤1000000):Tot (F5000326 (x,(p,f,n,s,fi,ms,bad),fa)) fun y=>∃i q,y=(i,(q,f,n,s,fi,ms,bad),fa)∧Pl (K+1) q:=by
 obtain⟨c0,c1,c2,c3⟩:=x
 have hl:=hp.1
 unfold F5000326
 refine Tot.bindE (fun y=>y=((c0,c1,c2,c3),(p,f,n,s,fi,ms,bad),fa)) (Tot.loop (fun z=>z.2=((c0,c1,c2,c3),(p,f,n,s,fi,ms,bad),fa)∧0≤z.1∧z.1≤(p.length:Int)) (fun z=>p.length-z.1.toNat) ?_ ⟨rfl,by simp,by simp⟩) ?_
 ·rintro⟨i,z⟩ ⟨hz,h0,h1⟩
  simp only at hz h0 h1
  subst hz
  refine Tot.cnd (fun h=>?_) (fun h=>Tot.ret rfl)
  simp only[zDe]at h
  refine Tot.grd (by simp;omega) (Tot.at (by omega) fun y _=>Tot.cnd (fun _=>?_) fun _=>?_)
  ·exact Tot.ret ⟨_,_,rfl,hp.mono (by omega)⟩
  ·refine Tot.ret ⟨⟨rfl,?_,?_⟩,?_⟩<;>(simp only;rw[wrapI (by omega) (by omega)];omega)
 ·rintro _ rfl
  exact Tot.grd (by simp;omega) (Tot.ret ⟨_,_,rfl,hp.app hx⟩)
theorem t5000312 {x:List UInt8}{p:List Cst}{f n s:Int}{fa:List Int}{fi:List (Int×Int×Int)}{ms:List Mth}{bad:Bool}{K:Nat}(hp:Pl K p)(hK:K≤1000000):Tot (F5000312 (x,(p,f,n,s,fi,ms,bad),fa)) fun y=>∃i q b,y=(i,(q,f,n,s,fi,ms,b),fa)∧Pl (K+1) q:=by
 unfold F5000312
 refine Tot.cnd (fun h=>Tot.ret ⟨_,_,_,rfl,hp.mono (by omega)⟩) (fun h=>?_)
 simp only[decide_eq_false_iff_not]at h
 refine Tot.bind (zRh (by simp only;omega) hp hK) ?_
 rintro _ ⟨i,q,rfl,hq⟩
 exact Tot.ret ⟨_,_,_,rfl,hq⟩
theorem t5000310 {x:List UInt8}{p:List Cst}{f n s:Int}{fa:List Int}{fi:List (Int×Int×Int)}{ms:List Mth}{bad:Bool}{K:Nat}(hp:Pl K p)(hK:K≤900000):Tot (F5000310 (x,(p,f,n,s,fi,ms,bad),fa)) fun y=>∃i q b,y=(i,(q,f,n,s,fi,ms,b),fa)∧Pl (K+2) q:=by
 unfold F5000310
 refine Tot.bind (t5000312 hp (by omega)) ?_
 rintro _ ⟨i,q,b,rfl,hq⟩
 refine Tot.bind (zRh (by simp) hq (by omega)) ?_
 rintro _ ⟨i,q,rfl,hq⟩
 exact Tot.ret ⟨_,_,_,rfl,hq⟩
theorem t6000326 {x:Cst}{p:List Cst}{f n s:Int}{fa:List Int}{fi:List (Int×Int×Int)}{ms:List Mth}{bad:Bool}{K:Nat}(hx:x.2.1.length≤60)(hp:Pl K p)(hK:K≤1000000):Tot (F6000326 (x,(p,f,n,s,fa,ms,bad),fi)) fun y=>∃i q,y=(i,(q,f,n,s,fa,ms,bad),fi)∧Pl (K+1) q:=by
 obtain⟨c0,c1,c2,c3⟩:=x
 have hl:=hp.1
 unfold F6000326
 refine Tot.bindE (fun y=>y=((c0,c1,c2,c3),(p,f,n,s,fa,ms,bad),fi)) (Tot.loop (fun z=>z.2=((c0,c1,c2,c3),(p,f,n,s,fa,ms,bad),fi)∧0≤z.1∧z.1≤(p.length:Int)) (fun z=>p.length-z.1.toNat) ?_ ⟨rfl,by simp,by simp⟩) ?_
 ·rintro⟨i,z⟩ ⟨hz,h0,h1⟩
  simp only at hz h0 h1
  subst hz
  refine Tot.cnd (fun h=>?_) (fun h=>Tot.ret rfl)
  simp only[zDe]at h
  refine Tot.grd (by simp;omega) (Tot.at (by omega) fun y _=>Tot.cnd (fun _=>?_) fun _=>?_)
  ·exact Tot.ret ⟨_,_,rfl,hp.mono (by omega)⟩
  ·refine Tot.ret ⟨⟨rfl,?_,?_⟩,?_⟩<;>(simp only;rw[wrapI (by omega) (by omega)];omega)
 ·rintro _ rfl
  exact Tot.grd (by simp;omega) (Tot.ret ⟨_,_,rfl,hp.app hx⟩)
theorem zRg {x:List UInt8}{p:List Cst}{f n s:Int}{fa:List Int}{fi:List (Int×Int×Int)}{ms:List Mth}{bad:Bool}{K:Nat}(hp:Pl K p)(hK:K≤1000000):Tot (F6000312 (x,(p,f,n,s,fa,ms,bad),fi)) fun y=>∃i q b,y=(i,(q,f,n,s,fa,ms,b),fi)∧Pl (K+1) q:=by
 unfold F6000312
 refine Tot.cnd (fun h=>Tot.ret ⟨_,_,_,rfl,hp.mono (by omega)⟩) (fun h=>?_)
 simp only[decide_eq_false_iff_not]at h
 refine Tot.bind (t6000326 (by simp only;omega) hp hK) ?_
 rintro _ ⟨i,q,rfl,hq⟩
 exact Tot.ret ⟨_,_,_,rfl,hq⟩
theorem t6000311 {x:List UInt8}{p:List Cst}{f n s:Int}{fa:List Int}{fi:List (Int×Int×Int)}{ms:List Mth}{bad:Bool}  (hx:x.length≤1000000000000):Tot (F6000311 (x,(p,f,n,s,fa,ms,bad),fi)) fun y=>∃i b,y=(i,(p,f,n,s,fa,ms,b),fi):=by
 unfold F6000311
 refine Tot.bind (t327 hx) ?_
 rintro i -
 exact Tot.cnd (fun _=>Tot.ret ⟨_,_,rfl⟩) fun _=>Tot.ret ⟨_,_,rfl⟩
theorem zKF {x:Cst}{p:List Cst}{f n s:Int}{fa:List Int}{fi:List (Int×Int×Int)}{ms:List Mth}{bad:Bool}{K:Nat}{ri:Nat}{r0 r1 r2 r3 r4:Int}{r5:List UInt8}{r6:List (Int×Int×Int×Int)}{fr:List Frm}(hri:ri<ms.length)(hx:x.2.1.length≤60)(hp:Pl K p)(hK:K≤1000000):Tot (F807000326 (x,(p,f,n,s,fa,fi,bad),(ms,ri,r0,r1,r2,r3,r4,r5,r6),fr)) fun y=>∃i q,y=(i,(q,f,n,s,fa,fi,bad),(ms,ri,r0,r1,r2,r3,r4,r5,r6),fr)∧Pl (K+1) q:=by
 obtain⟨c0,c1,c2,c3⟩:=x
 have hl:=hp.1
 unfold F807000326
 simp only[eq_self,decide_true,hri,Bool.and_self,zAE]
 refine Tot.bindE (fun y=>y=((c0,c1,c2,c3),(p,f,n,s,fa,fi,bad),(ms,ri,r0,r1,r2,r3,r4,r5,r6),fr)) (Tot.loop (fun z=>z.2=((c0,c1,c2,c3),(p,f,n,s,fa,fi,bad),(ms,ri,r0,r1,r2,r3,r4,r5,r6),fr)∧0≤z.1∧z.1≤(p.length:Int)) (fun z=>p.length-z.1.toNat) ?_ ⟨rfl,by simp,by simp⟩) ?_
 ·rintro⟨i,z⟩ ⟨hz,h0,h1⟩
  simp only at hz h0 h1
  subst hz
  simp only[eq_self,decide_true,hri,Bool.and_self,zAE]
  refine Tot.cnd (fun h=>?_) (fun h=>Tot.ret rfl)
  simp only[zDe]at h
  refine Tot.grd (by simp;omega) (Tot.at (by omega) fun y _=>Tot.cnd (fun _=>?_) fun _=>?_)
  ·exact Tot.ret ⟨_,_,rfl,hp.mono (by omega)⟩
  ·refine Tot.ret ⟨⟨rfl,?_,?_⟩,?_⟩<;>(simp only;rw[wrapI (by omega) (by omega)];omega)
 ·rintro _ rfl
  simp only[eq_self,decide_true,hri,Bool.and_self,zAE]
  exact Tot.grd (by simp;omega) (Tot.ret ⟨_,_,rfl,hp.app hx⟩)
theorem zSz {x:List UInt8}{p:List Cst}{f n s:Int}{fa:List Int}{fi:List (Int×Int×Int)}{ms:List Mth}{bad:Bool}{K:Nat}{ri:Nat}{r0 r1 r2 r3 r4:Int}{r5:List UInt8}{r6:List (Int×Int×Int×Int)}{fr:List Frm}(hri:ri<ms.length)(hp:Pl K p)(hK:K≤1000000):Tot (F807000312 (x,(p,f,n,s,fa,fi,bad),(ms,ri,r0,r1,r2,r3,r4,r5,r6),fr)) fun y=>∃i q b,y=(i,(q,f,n,s,fa,fi,b),(ms,ri,r0,r1,r2,r3,r4,r5,r6),fr)∧Pl (K+1) q:=by
 unfold F807000312
 simp only[eq_self,decide_true,hri,Bool.and_self,zAE]
 refine Tot.cnd (fun h=>Tot.ret ⟨_,_,_,rfl,hp.mono (by omega)⟩) (fun h=>?_)
 simp only[decide_eq_false_iff_not]at h
 refine Tot.bind (zKF hri (by simp only;omega) hp hK) ?_
 rintro _ ⟨i,q,rfl,hq⟩
 simp only[eq_self,decide_true,hri,Bool.and_self,zAE]
 exact Tot.ret ⟨_,_,_,rfl,hq⟩
theorem zTB {x:List UInt8}{p:List Cst}{f n s:Int}{fa:List Int}{fi:List (Int×Int×Int)}{ms:List Mth}{bad:Bool}{K:Nat}{ri:Nat}{r0 r1 r2 r3 r4:Int}{r5:List UInt8}{r6:List (Int×Int×Int×Int)}{fr:List Frm}(hri:ri<ms.length)(hp:Pl K p)(hK:K≤900000):Tot (F807000310 (x,(p,f,n,s,fa,fi,bad),(ms,ri,r0,r1,r2,r3,r4,r5,r6),fr)) fun y=>∃i q b,y=(i,(q,f,n,s,fa,fi,b),(ms,ri,r0,r1,r2,r3,r4,r5,r6),fr)∧Pl (K+2) q:=by
 unfold F807000310
 simp only[eq_self,decide_true,hri,Bool.and_self,zAE]
 refine Tot.bind (zSz hri hp (by omega)) ?_
 rintro _ ⟨i,q,b,rfl,hq⟩
 refine Tot.bind (zKF hri (by simp) hq (by omega)) ?_
 rintro _ ⟨i,q,rfl,hq⟩
 simp only[eq_self,decide_true,hri,Bool.and_self,zAE]
 exact Tot.ret ⟨_,_,_,rfl,hq⟩
theorem zTA {x:List UInt8}{p:List Cst}{f n s:Int}{fa:List Int}{fi:List (Int×Int×Int)}{ms:List Mth}{bad:Bool}  {ri:Nat}{r0 r1 r2 r3 r4:Int}{r5:List UInt8}{r6:List (Int×Int×Int×Int)}{fr:List Frm}(hri:ri<ms.length)(hx:x.length≤1000000000000):Tot (F807000311 (x,(p,f,n,s,fa,fi,bad),(ms,ri,r0,r1,r2,r3,r4,r5,r6),fr)) fun y=>∃i b,y=(i,(p,f,n,s,fa,fi,b),(ms,ri,r0,r1,r2,r3,r4,r5,r6),fr):=by
 unfold F807000311
 simp only[eq_self,decide_true,hri,Bool.and_self,zAE]
 refine Tot.bind (t327 hx) ?_
 rintro i -
 exact Tot.cnd (fun _=>Tot.ret ⟨_,_,rfl⟩) fun _=>Tot.ret ⟨_,_,rfl⟩
def Mb (N:Nat)(m:Mth):Prop:=m.2.2.2.2.2.1.length≤N∧m.2.2.2.2.2.2.1.length≤N∧m.2.2.2.2.2.2.2.length≤N∧∀f∈m.2.2.2.2.2.2.2,f.2.1.length≤16∧f.2.2.length≤16
def Ms (N:Nat)(l:List Mth):Prop:=l.length≤N∧∀m∈l,Mb N m
theorem Mb.mono {K L:Nat}{m:Mth}(h:Mb K m)(hc:K≤L):Mb L m:=⟨Nat.le_trans h.1 hc,Nat.le_trans h.2.1 hc,Nat.le_trans h.2.2.1 hc,h.2.2.2⟩
theorem Ms.mono {K L:Nat}{l:List Mth}(h:Ms K l)(hc:K≤L):Ms L l:=⟨Nat.le_trans h.1 hc,fun m hm=>(h.2 m hm).mono hc⟩
theorem Ms.set {K:Nat}{l:List Mth}(h:Ms K l)(i:Nat){m:Mth}(hm:Mb K m):Ms K (l.set i m):=by
 refine⟨by rw[List.length_set];exact h.1,fun x hx=>?_⟩
 rcases List.mem_or_eq_of_mem_set hx with hx|rfl
 ·exact h.2 x hx
 ·exact hm
theorem Ms.app {K:Nat}{l:List Mth}(h:Ms K l){m:Mth}(hm:Mb K m):Ms (K+1) (l++[m]):=by
 refine⟨by have:=h.1;simp only[List.length_append,List.length_cons,List.length_nil];omega,fun y hy=>?_⟩
 simp only[List.mem_append,List.mem_singleton]at hy
 rcases hy with hy|rfl
 ·exact(h.2 y hy).mono (by omega)
 ·exact hm.mono (by omega)
theorem q315 {ms:List Mth}(h1:1≤ms.length)(h2:ms.length≤1000000)(p:List Cst)(f n s:Int)(fa:List Int)(fi:List (Int×Int×Int))(bad:Bool):F315 (p,f,n,s,fa,fi,ms,bad)=some (ms.length-1,ms,p,f,n,s,fa,fi,bad):=by
 have e:IntKind.wrap .i64 ((ms.length:Int)-1)=(ms.length:Int)-1:=wrapI (by omega) (by omega)
 have g:(decide ((0:Int)≤(ms.length:Int)-1)&&decide ((ms.length:Int)-1<(ms.length:Int)))=true:=by simp;omega
 have t:((ms.length:Int)-1).toNat=ms.length-1:=by omega
 simp only[F315,e,g,t,zAE]
theorem zMR {ms:List Mth}(h1:1≤ms.length)(h2:ms.length≤1000000)(p:List Cst)(f n s:Int)(fa:List Int)(fi:List (Int×Int×Int))(bad:Bool):F7000315 ((p,f,n,s,fa,fi,bad),ms)=some (ms.length-1,(p,f,n,s,fa,fi,bad),ms):=by
 have e:IntKind.wrap .i64 ((ms.length:Int)-1)=(ms.length:Int)-1:=wrapI (by omega) (by omega)
 have g:(decide ((0:Int)≤(ms.length:Int)-1)&&decide ((ms.length:Int)-1<(ms.length:Int)))=true:=by simp;omega
 have t:((ms.length:Int)-1).toNat=ms.length-1:=by omega
 simp only[F7000315,e,g,t,zAE]
theorem t324 {k:Int}{a b c:List UInt8}{p:List Cst}{f n s:Int}{fa:List Int}{fi:List (Int×Int×Int)}{ms:List Mth}{bad:Bool}{K:Nat}(hp:Pl K p)(hK:K≤900000) :
  Tot (F324 (k,a,b,c,p,f,n,s,fa,fi,ms,bad)) fun y=>∃i q b,y=(i,q,f,n,s,fa,fi,ms,b)∧Pl (K+6) q:=by
 unfold F324
 refine Tot.bind (t310 hp hK) ?_
 rintro _ ⟨_,q,_,rfl,hq⟩
 refine Tot.bind (t312 hq (by omega)) ?_
 rintro _ ⟨_,q,_,rfl,hq⟩
 refine Tot.bind (t312 hq (by omega)) ?_
 rintro _ ⟨_,q,_,rfl,hq⟩
 refine Tot.bind (t326 (by simp) hq (by omega)) ?_
 rintro _ ⟨_,q,rfl,hq⟩
 refine Tot.bind (t326 (by simp) hq (by omega)) ?_
 rintro _ ⟨_,q,rfl,hq⟩
 exact Tot.ret ⟨_,_,_,rfl,hq⟩
theorem t291 (n:Int):Tot (F291 n) fun _=>True:=by
 unfold F291
 refine Tot.bindE (fun _=>True) ?_ ?_
 ·exact Tot.cnd (fun _=>Tot.ret trivial) fun _=>Tot.cnd (fun _=>Tot.ret trivial) fun _=>Tot.ret trivial
 rintro⟨_,_⟩ -
 refine Tot.cnd (fun _=>Tot.ret trivial) fun _=>Tot.bindE (fun _=>True) ?_ ?_
 ·exact Tot.cnd (fun _=>Tot.ret trivial) fun _=>Tot.cnd (fun _=>Tot.ret trivial) fun _=>Tot.cnd (fun _=>Tot.ret trivial) fun _=>Tot.ret trivial
 rintro⟨_,_⟩ -
 refine Tot.cnd (fun _=>Tot.ret trivial) fun _=>Tot.bindE (fun _=>True) ?_ ?_
 ·exact Tot.cnd (fun _=>Tot.ret trivial) fun _=>Tot.cnd (fun _=>Tot.ret trivial) fun _=>Tot.ret trivial
 rintro⟨_,_⟩ -
 exact Tot.cnd (fun _=>Tot.ret trivial) fun _=>Tot.cnd (fun _=>Tot.ret trivial) fun _=>Tot.ret trivial
theorem t134 (n:Int):Tot (F134 n) fun y=>y.length=1:=by
 unfold F134
 exact Tot.grd (u8ok _) (Tot.ret rfl)
theorem t136 (n:Int):Tot (F136 n) fun y=>y.length=2:=by
 unfold F136
 exact Tot.grd (u8ok _) (Tot.grd (u8ok _) (Tot.ret rfl))
theorem t194 (x:Int×Int×Int):Tot (F194 [x]) fun y=>y.length≤3:=by
 unfold F194
 refine Tot.bindE (fun y=>y.length≤3) (Tot.loop (fun z=>z.1=[x]∧((z.2.2=0∧z.2.1.length=0)∨(z.2.2=1∧z.2.1.length≤3))) (fun z=>1-z.2.2.toNat) ?_ ⟨rfl,.inl ⟨rfl,rfl⟩⟩) fun y hy=>Tot.ret hy
 rintro⟨l,out,i⟩ ⟨hl,hi⟩
 simp only at hl hi
 subst hl
 refine Tot.cnd (fun h=>?_) fun h=>Tot.ret (by show out.length≤3;omega)
 simp only[zDe,List.length_cons,List.length_nil]at h
 have h0:i=0∧out.length=0:=by omega
 obtain⟨rfl,ho⟩:=h0
 refine Tot.grd (by simp) (Tot.at' (x:=x) rfl (Tot.bind (t134 _) fun y hy=>Tot.grd (by simp;omega) (Tot.bind (t251 _) fun y1 _=>?_)))
 refine Tot.bindE (fun w=>w.1=[x]∧w.2.1.length≤3∧w.2.2=0) ?_ ?_
 ·refine Tot.cnd (fun _=>Tot.bind (t134 _) fun z hz=>Tot.grd (by simp;omega) (Tot.ret ⟨rfl,by simp;omega,rfl⟩)) fun _=>Tot.cnd (fun _=>Tot.bind (t136 _) fun z hz=>Tot.grd (by simp;omega) (Tot.ret ⟨rfl,by simp;omega,rfl⟩)) fun _=>Tot.ret ⟨rfl,by simp;omega,rfl⟩
 ·rintro⟨l,out,i⟩ ⟨rfl,ho,rfl⟩
  exact Tot.ret ⟨⟨rfl,.inr ⟨rfl,ho⟩⟩,by show 1-(IntKind.wrap .i64 (0+1)).toNat<1-(0:Int).toNat;rw[wrapI (by omega) (by omega)];decide⟩
theorem t309 {v:List (List UInt8)}{p:List Cst}{f n s:Int}{fa:List Int}{fi:List (Int×Int×Int)}{ms:List Mth}{bad:Bool}{K:Nat}(hv:1≤v.length)(hv2:v.length≤10)(hvt:∀ x∈v,x.length≤1000000000000)(hp:Pl K p)(hm:Ms K ms)(hK:K≤900000) :
  Tot (F309 (v,p,f,n,s,fa,fi,ms,bad)) fun y=>∃q ms' b,y=(q,f,n,s,fa,fi,ms',b)∧Pl (K+10) q∧Ms (K+10) ms':=by
 obtain⟨x,e0⟩:∃x,v[0]? = some x:=⟨v[0],List.getElem?_eq_getElem hv⟩
 obtain⟨y,ey,hy⟩:Tot (F302 ()) fun y=>y.length≤100:=Tot.ret (by decide)
 obtain⟨y1,e1,-⟩:=t301 (list:=y) (s:=x) (by omega)
 have hl:=hm.1
 have hat:∀i (h:i<v.length),v[i].length≤1000000000000:=fun i h=>hvt _ (List.getElem_mem h)
 simp only[F309,zCW e0,ey,e1,zAB,eq_self,decide_true,Bool.and_true,zAE,zAW,zDb]
 refine Tot.bindE (fun z=>z=(v,(0,y1,0),p,f,n,s,fa,fi,ms,bad)∧1≤ms.length) ?_ ?_
 ·refine Tot.cnd (fun _=>Tot.ret ⟨_,_,_,rfl,hp.mono (by omega),hm.mono (by omega)⟩) fun h=>Tot.cnd (fun _=>Tot.ret ⟨_,_,_,rfl,hp.mono (by omega),hm.mono (by omega)⟩) fun _=>?_
  simp only[decide_eq_false_iff_not]at h
  exact Tot.ret ⟨rfl,by omega⟩
 rintro _ ⟨rfl,h1⟩
 refine Tot.bind (t291 _) ?_
 rintro y2 -
 refine Tot.bindE (fun z=>∃a b c q bd,z=((a,b,c),q,f,n,s,fa,fi,ms,bd)∧Pl (K+10) q) ?_ ?_
 ·refine Tot.bindE (fun z=>∃b,z=(v,y2,b,(0,y1,0),p,f,n,s,fa,fi,ms,bad)∧(b=true→v.length=2)) ?_ ?_
  ·exact Tot.cnd (fun _=>Tot.ret ⟨_,rfl,fun h=>by simp only[zDe]at h;omega⟩) fun _=>Tot.ret ⟨_,rfl,by simp⟩
  rintro _ ⟨b,rfl,hb⟩
  refine Tot.cnd (fun h=>?_) fun _=>?_
  ·have:=hb h
   refine Tot.at (by show _<v.length;omega) fun z _=>Tot.bind (t310 hp hK) ?_
   rintro _ ⟨i,q,b,rfl,hq⟩
   exact Tot.ret ⟨_,_,_,_,_,rfl,hq.mono (by omega)⟩
  refine Tot.bindE (fun z=>∃b,z=(v,y2,b,(0,y1,0),p,f,n,s,fa,fi,ms,bad)∧(b=true→v.length=4)) ?_ ?_
  ·exact Tot.cnd (fun _=>Tot.ret ⟨_,rfl,fun h=>by simp only[zDe]at h;omega⟩) fun _=>Tot.ret ⟨_,rfl,by simp⟩
  rintro _ ⟨b,rfl,hb⟩
  refine Tot.cnd (fun h=>?_) fun _=>?_
  ·have:=hb h
   refine Tot.at (by show _<v.length;omega) fun z _=>Tot.at (by show _<v.length;omega) fun z2 _=>Tot.at (by show _<v.length;omega) fun z3 _=>Tot.bind (t324 hp hK) ?_
   rintro _ ⟨i,q,b,rfl,hq⟩
   exact Tot.ret ⟨_,_,_,_,_,rfl,hq.mono (by omega)⟩
  refine Tot.bindE (fun z=>∃b,z=(v,y2,b,(0,y1,0),p,f,n,s,fa,fi,ms,bad)∧(b=true→v.length=2)) ?_ ?_
  ·exact Tot.cnd (fun _=>Tot.ret ⟨_,rfl,fun h=>by simp only[zDe]at h;omega⟩) fun _=>Tot.ret ⟨_,rfl,by simp⟩
  rintro _ ⟨b,rfl,hb⟩
  refine Tot.cnd (fun h=>?_) fun _=>?_
  ·have:=hb h
   refine Tot.at (by show _<v.length;omega) fun z hz=>Tot.bind (t325 (hvt _ (List.mem_of_getElem? hz))) ?_
   rintro⟨y3,y4⟩ -
   exact Tot.cnd (fun _=>Tot.ret ⟨_,_,_,_,_,rfl,hp.mono (by omega)⟩) fun _=>Tot.ret ⟨_,_,_,_,_,rfl,hp.mono (by omega)⟩
  refine Tot.bindE (fun z=>∃b,z=(v,y2,b,(0,y1,0),p,f,n,s,fa,fi,ms,bad)∧(b=true→v.length=2)) ?_ ?_
  ·refine Tot.cnd (fun _=>Tot.bind (t251 _) fun _ _=>Tot.cnd (fun _=>Tot.ret ⟨_,rfl,fun h=>by simp only[zDe]at h;omega⟩) fun _=>Tot.ret ⟨_,rfl,by simp⟩) fun _=>Tot.ret ⟨_,rfl,by simp⟩
  rintro _ ⟨b,rfl,hb⟩
  refine Tot.cnd (fun h=>?_) fun _=>?_
  ·have:=hb h
   refine Tot.at (by show _<v.length;omega) fun z hz=>Tot.bind (t311 (hvt _ (List.mem_of_getElem? hz))) ?_
   rintro _ ⟨i,b,rfl⟩
   exact Tot.ret ⟨_,_,_,_,_,rfl,hp.mono (by omega)⟩
  refine Tot.cnd (fun _=>Tot.bind (t251 _) fun _ _=>Tot.cnd (fun _=>Tot.cnd (fun _=>?_) fun _=>?_) fun _=>?_) fun _=>?_
  ·exact Tot.ret ⟨_,_,_,_,_,rfl,hp.mono (by omega)⟩
  ·exact Tot.ret ⟨_,_,_,rfl,hp.mono (by omega),hm.mono (by omega)⟩
  ·exact Tot.ret ⟨_,_,_,rfl,hp.mono (by omega),hm.mono (by omega)⟩
  ·exact Tot.ret ⟨_,_,_,rfl,hp.mono (by omega),hm.mono (by omega)⟩
 rintro _ ⟨a,b,c,q,bd,rfl,hq⟩
 refine Tot.bind (t107 _ _ _) fun y3 _=>Tot.cnd (fun _=>Tot.ret ⟨_,_,_,rfl,hq,hm.mono (by omega)⟩) fun _=>?_
 obtain⟨m,em⟩:∃m,ms[ms.length-1]? = some m:=⟨ms[ms.length-1],List.getElem?_eq_getElem (by omega)⟩
 have hmb:=hm.2 m (List.mem_of_getElem? em)
 obtain⟨code,ec,hc⟩:=t194 (a,b,c)
 have g:decide ((((List.length m.2.2.2.2.2.1:Nat):Int)+((List.length code:Nat):Int))≤9223372036854775807)=true:=by
  have:=hmb.1;simp only[zDe];omega
 have g':decide (List.length m.2.2.2.2.2.1+List.length code≤9223372036854775807)=true:=by
  have:=hmb.1;simp only[zDe];omega
 simp only[q315 h1 (show ms.length≤1000000 by omega),zMR h1 (show ms.length≤1000000 by omega),zAB,zCW em,ec,eq_self,decide_true,Bool.and_true,beq_self_eq_true,zAE,zAW,g,g',zDb]
 refine Tot.ret ⟨_,_,_,rfl,hq,(hm.mono (by omega)).set _ ?_⟩
 obtain⟨k1,k2,k3,k4⟩:=hmb
 exact⟨by simp only[List.length_append];omega,by simp only;omega,by simp only;omega,k4⟩
theorem t108 (f:Int){k:Int}(hk:(!decide (k=0))=true):Tot (F108 (f,k)) fun _=>True:=by
 unfold F108
 exact Tot.grd hk (Tot.ret trivial)
theorem t313 {w:List (List UInt8)}{p:List Cst}{f n s:Int}{fa:List Int}{fi:List (Int×Int×Int)}{ms:List Mth}{bad:Bool}{K:Nat}(hw:w.length=4∨w.length=6)(hwt:∀ x∈w,x.length≤1000000000000)(hp:Pl K p)(hm:Ms K ms)(hK:K≤900000) :
  Tot (F313 (w,p,f,n,s,fa,fi,ms,bad)) fun y=>∃q ms' b,y=(q,f,n,s,fa,fi,ms',b)∧Pl (K+10) q∧Ms (K+10) ms':=by
 have hl:=hm.1
 obtain⟨x1,e1⟩:∃x,w[1]? = some x:=⟨w[1],List.getElem?_eq_getElem (by omega)⟩
 obtain⟨x2,e2⟩:∃x,w[2]? = some x:=⟨w[2],List.getElem?_eq_getElem (by omega)⟩
 obtain⟨x3,e3⟩:∃x,w[3]? = some x:=⟨w[3],List.getElem?_eq_getElem (by omega)⟩
 obtain⟨_,c1,i1,q1,b1,rfl,hq1⟩:=t312 (x:=x1) (f:=f) (n:=n) (s:=s) (fa:=fa) (fi:=fi) (ms:=ms) (bad:=bad) hp (by omega)
 obtain⟨_,c2,i2,q2,b2,rfl,hq2⟩:=t312 (x:=x2) (f:=f) (n:=n) (s:=s) (fa:=fa) (fi:=fi) (ms:=ms) (bad:=b1) hq1 (by omega)
 obtain⟨_,c3,i3,b3,rfl⟩:=t311 (x:=x3) (p:=q2) (f:=f) (n:=n) (s:=s) (fa:=fa) (fi:=fi) (ms:=ms) (bad:=b2) (hwt _ (List.mem_of_getElem? e3))
 simp only[F313,zCW e1,zCW e2,zCW e3,c1,c2,c3,zAB,eq_self,decide_true,Bool.and_true,zAE,zAW,zDb]
 refine Tot.bindE (fun z=>∃d e b,z=(w,(i3,i1,i2,d,e,[],[],[]),q2,f,n,s,fa,fi,ms,b)) ?_ ?_
 ·refine Tot.cnd (fun h=>?_) fun _=>Tot.ret ⟨_,_,_,rfl⟩
  simp only[zDe]at h
  refine Tot.at (by omega) fun z hz=>Tot.bind (t311 (hwt _ (List.mem_of_getElem? hz))) ?_
  rintro _ ⟨_,b,rfl⟩
  refine Tot.at (by omega) fun z hz=>Tot.bind (t311 (hwt _ (List.mem_of_getElem? hz))) ?_
  rintro _ ⟨_,b,rfl⟩
  exact Tot.ret ⟨_,_,_,rfl⟩
 rintro _ ⟨d,e,b,rfl⟩
 refine Tot.bindE (fun z=>∃b,z=((i3,i1,i2,d,e,[],[],[]),q2,f,n,s,fa,fi,ms,b)) ?_ ?_
 ·exact Tot.bind (t108 _ (by decide)) fun _ _=>Tot.cnd (fun _=>Tot.ret ⟨_,rfl⟩) fun _=>Tot.ret ⟨_,rfl⟩
 rintro _ ⟨b,rfl⟩
 refine Tot.grd (by simp;omega) (Tot.ret ⟨_,_,_,rfl,hq2.mono (by omega),(hm.app ?_).mono (by omega)⟩)
 exact⟨by simp,by simp,by simp,by simp⟩
theorem t314 {w:List (List UInt8)}{p:List Cst}{f n s:Int}{fa:List Int}{fi:List (Int×Int×Int)}{ms:List Mth}{bad:Bool}{K:Nat}(hw:w.length=5)(h1:1≤ms.length)(hwt:∀ x∈w,x.length≤1000000000000)(hp:Pl K p)(hm:Ms K ms)(hK:K≤900000) :
  Tot (F314 (w,p,f,n,s,fa,fi,ms,bad)) fun y=>∃q ms' b,y=(q,f,n,s,fa,fi,ms',b)∧Pl (K+10) q∧Ms (K+10) ms':=by
 have hl:=hm.1
 obtain⟨x1,e1⟩:∃x,w[1]? = some x:=⟨w[1],List.getElem?_eq_getElem (by omega)⟩
 obtain⟨x2,e2⟩:∃x,w[2]? = some x:=⟨w[2],List.getElem?_eq_getElem (by omega)⟩
 obtain⟨x3,e3⟩:∃x,w[3]? = some x:=⟨w[3],List.getElem?_eq_getElem (by omega)⟩
 obtain⟨x4,e4⟩:∃x,w[4]? = some x:=⟨w[4],List.getElem?_eq_getElem (by omega)⟩
 obtain⟨_,c1,i1,b1,rfl⟩:=t311 (x:=x1) (p:=p) (f:=f) (n:=n) (s:=s) (fa:=fa) (fi:=fi) (ms:=ms) (bad:=bad) (hwt _ (List.mem_of_getElem? e1))
 obtain⟨_,c2,i2,b2,rfl⟩:=t311 (x:=x2) (p:=p) (f:=f) (n:=n) (s:=s) (fa:=fa) (fi:=fi) (ms:=ms) (bad:=b1) (hwt _ (List.mem_of_getElem? e2))
 obtain⟨_,c3,i3,b3,rfl⟩:=t311 (x:=x3) (p:=p) (f:=f) (n:=n) (s:=s) (fa:=fa) (fi:=fi) (ms:=ms) (bad:=b2) (hwt _ (List.mem_of_getElem? e3))
 simp only[F314,zCW e1,zCW e2,zCW e3,zCW e4,c1,c2,c3,zAB,eq_self,decide_true,Bool.and_true,zAE,zAW,zDb]
 refine Tot.bindE (fun z=>∃a q b,z=((i1,i2,i3,a),q,f,n,s,fa,fi,ms,b)∧Pl (K+10) q) ?_ ?_
 ·refine Tot.cnd (fun h=>?_) fun _=>Tot.ret ⟨_,_,_,rfl,hp.mono (by omega)⟩
  refine Tot.bind (t310 hp hK) ?_
  rintro _ ⟨i,q,b,rfl,hq⟩
  exact Tot.ret ⟨_,_,_,rfl,hq.mono (by omega)⟩
 rintro _ ⟨a,q,b,rfl,hq⟩
 obtain⟨m,em⟩:∃m,ms[ms.length-1]? = some m:=⟨ms[ms.length-1],List.getElem?_eq_getElem (by omega)⟩
 have hmb:=hm.2 m (List.mem_of_getElem? em)
 have hlt:decide (ms.length-1<ms.length)=true:=by simp only[zDe];omega
 have g:(decide (List.length m.2.2.2.2.2.2.1+1≤9223372036854775807)&&decide ((List.length m.2.2.2.2.2.2.1+1)*32≤140737488355328))=true:=by
  have:=hmb.2.1;simp only[zBa,zDe];omega
 simp only[q315 h1 (show ms.length≤1000000 by omega),zMR h1 (show ms.length≤1000000 by omega),zAB,zCW em,eq_self,decide_true,Bool.and_true,Bool.true_and,beq_self_eq_true,hlt,zAE,zAW,g,zDb]
 refine Tot.ret ⟨_,_,_,rfl,hq,(hm.mono (by omega)).set _ ?_⟩
 obtain⟨k1,k2,k3,k4⟩:=hmb
 exact⟨by simp only;omega,by simp only[List.length_append,List.length_cons,List.length_nil];omega,by simp only;omega,k4⟩
end Go.Proofs.YtdpapeledldifaaGreat
end
section
namespace Go.Proofs.YtdpapeledldifaaGreat
open Go Go.AM Go.TM Go.Stow
set_option maxRecDepth 10000
theorem Tot.mapgrd {R S:Type}{g:Bool}{r:Option R}{P:S→Prop}{f:Option R→Option S}(hg:g=true)(h:Tot (f r) P):Tot (f (grdO g r)) P:=by rw[hg];exact h
theorem tok_long {x:List UInt8}(h:Tok x)(h1:x≠[73]):3≤x.length:=by
 rcases h with rfl|⟨n,hn,rfl⟩
 ·exact absurd rfl h1
 ·have:=hn.1.1
  simp only[List.length_cons,List.length_append,List.length_nil];omega
theorem zKG {v:List UInt8}{p:List Cst}{f n s:Int}{fa:List Int}{fi:List (Int×Int×Int)}{ms:List Mth}{bad:Bool}{K:Nat}{ri:Nat}{r0 r1 r2 r3 r4:Int}{r5:List UInt8}{r6:List (Int×Int×Int×Int)}{fr:List Frm}(hri:ri<ms.length)(hv:v.length≤1000000)(hp:Pl K p)(hK:K≤800000) :
  Tot (F807000316 (v,(p,f,n,s,fa,fi,bad),(ms,ri,r0,r1,r2,r3,r4,r5,r6),fr)) fun y=>∃l q b,y=(l,(q,f,n,s,fa,fi,b),(ms,ri,r0,r1,r2,r3,r4,r5,r6),fr)∧l.length≤16∧Pl (K+18) q:=by
 have gr:(decide (ri=ri)&&decide (ri<ms.length))=true:=by simp;exact hri
 unfold F807000316
 refine Tot.cnd (fun _=>Tot.grd gr (Tot.ret ⟨_,_,_,rfl,by simp,hp.mono (by omega)⟩)) fun _=>?_
 refine Tot.bind (t278 (by omega) (by omega)) ?_
 rintro y ⟨-,-,hy2,hy3⟩
 refine Tot.bindE (fun z=>∃l q b,z=(l,(q,f,n,s,fa,fi,b),(ms,ri,r0,r1,r2,r3,r4,r5,r6),fr)∧l.length≤16∧Pl (K+18) q)
  (Tot.grd gr (Tot.loop (fun z=>∃l i q b,z=(l,y,i,(q,f,n,s,fa,fi,b),(ms,ri,r0,r1,r2,r3,r4,r5,r6),fr)∧0≤i∧i≤(y.length:Int)∧(l.length:Int)≤i∧Pl (K+2*i.toNat) q) (fun z=>y.length-z.2.2.1.toNat) ?_ ⟨[],0,p,bad,rfl,by simp,by simp,by simp,hp.mono (by omega)⟩)) ?_
 ·rintro _ ⟨l,i,q,b,rfl,i0,i1,hl,hq⟩
  refine Tot.cnd (fun h=>?_) fun h=>Tot.mapgrd gr (Tot.ret ⟨_,_,_,rfl,by omega,hq.mono (by omega)⟩)
  simp only[zDe]at h
  obtain⟨x,ex⟩:∃x,y[i.toNat]? = some x:=⟨y[i.toNat],List.getElem?_eq_getElem (by omega)⟩
  have hx:=hy3 x (List.mem_of_getElem? ex)
  have gi:(decide ((0:Int)≤i)&&decide (i<(y.length:Int)))=true:=by simp;omega
  have gl:(decide (List.length l+1≤9223372036854775807)&&decide ((List.length l+1)*16≤140737488355328))=true:=by simp;omega
  refine Tot.bindE (fun z=>∃l' q' b',z=(l',y,i,(q',f,n,s,fa,fi,b'),(ms,ri,r0,r1,r2,r3,r4,r5,r6),fr)∧(l'.length:Int)≤i+1∧Pl (K+2*i.toNat+2) q') ?_ ?_
  ·refine Tot.grd gi (Tot.at' ex (Tot.cnd (fun _=>Tot.grd gl (Tot.grd gr (Tot.ret ⟨_,_,_,rfl,by simp;omega,hq.mono (by omega)⟩))) fun h1=>?_))
   simp only[decide_eq_false_iff_not]at h1
   refine Tot.grd gi (Tot.at' ex (Tot.cnd (fun _=>Tot.grd gl (Tot.grd gr (Tot.ret ⟨_,_,_,rfl,by simp;omega,hq.mono (by omega)⟩))) fun h2=>?_))
   refine Tot.grd gi (Tot.at' ex (Tot.cnd (fun _=>Tot.grd gl (Tot.grd gr (Tot.ret ⟨_,_,_,rfl,by simp;omega,hq.mono (by omega)⟩))) fun h3=>?_))
   refine Tot.grd gi (Tot.at' ex ?_)
   rw[n128 x (by omega),zAB]
   refine Tot.cnd (fun ht=>?_) fun _=>Tot.grd gr (Tot.ret ⟨_,_,_,rfl,by omega,hq.mono (by omega)⟩)
   simp only[zDe]at ht
   have h3l:=tok_long ht h1
   refine Tot.grd gi (Tot.at' ex (Tot.grd gi (Tot.at' ex (Tot.grd ?_ ?_))))
   ·rw[wrapI (by omega) (by omega)];simp;omega
   refine Tot.bind (zTB hri hq (by omega)) ?_
   rintro _ ⟨_,q',b',rfl,hq'⟩
   exact Tot.grd gl (Tot.grd gr (Tot.ret ⟨_,_,_,rfl,by simp;omega,hq'.mono (by omega)⟩))
  rintro _ ⟨l',q',b',rfl,hl',hq'⟩
  have hw:IntKind.wrap .i64 (i+1)=i+1:=wrapI (by omega) (by omega)
  refine Tot.grd gr ?_
  show Tot (some (Sum.inl (l',y,IntKind.wrap .i64 (i+1),(q',f,n,s,fa,fi,b'),(ms,ri,r0,r1,r2,r3,r4,r5,r6),fr))) _
  rw[hw]
  exact Tot.ret ⟨⟨_,_,_,_,rfl,by omega,by omega,hl',hq'.mono (by omega)⟩,by show y.length-(i+1).toNat<y.length-i.toNat;omega⟩
 rintro _ ⟨l,q,b,rfl,hl,hq⟩
 exact Tot.grd gr (Tot.ret ⟨_,_,_,rfl,hl,hq⟩)
def Bu (K:Nat)(y:List Cst×Int×Int×Int×List Int×List (Int×Int×Int)×List Mth×Bool):Prop:=Pl K y.1∧y.2.2.2.2.1.length≤K∧y.2.2.2.2.2.1.length≤K∧Ms K y.2.2.2.2.2.2.1
theorem Bu.mono {K L:Nat}{y:List Cst×Int×Int×Int×List Int×List (Int×Int×Int)×List Mth×Bool}(h:Bu K y)(hc:K≤L):Bu L y:=⟨h.1.mono hc,Nat.le_trans h.2.1 hc,Nat.le_trans h.2.2.1 hc,h.2.2.2.mono hc⟩
theorem t279 {v:List UInt8}{p:List Cst}{f n s:Int}{fa:List Int}{fi:List (Int×Int×Int)}{ms:List Mth}{bad:Bool}{K:Nat}(hv:v.length≤1000000)(h:Bu K (p,f,n,s,fa,fi,ms,bad))(hK:K≤700000) :
  Tot (F279 (v,p,f,n,s,fa,fi,ms,bad)) (Bu (K+60)):=by
 obtain⟨hp,hfa,hfi,hm⟩:=h
 simp only at hp hfa hfi hm
 have hl:=hm.1
 unfold F279
 refine Tot.bindE (fun z=>∃b,z=(v,b,p,f,n,s,fa,fi,ms,bad)∧(b=true→2<v.length)) ?_ ?_
 ·refine Tot.cnd (fun h=>?_) fun _=>Tot.ret ⟨_,rfl,by simp⟩
  simp only[zDe]at h
  exact Tot.grd (by simp;omega) (Tot.ret ⟨_,rfl,fun _=>by omega⟩)
 rintro _ ⟨b,rfl,hb⟩
 refine Tot.cnd (fun h=>?_) fun _=>?_
 ·have:=hb h
  refine Tot.grd (by simp;omega) (Tot.bind (t278 (by simp;omega) (by omega)) ?_)
  rintro y ⟨hy1,-,hy2,hy3⟩
  refine Tot.bind (t309 (by omega) (by omega) (fun x hx=>by have:=hy3 x hx;simp only[List.length_drop,List.length_take]at this;omega) hp hm (by omega)) ?_
  rintro _ ⟨q,ms',b,rfl,hq,hm'⟩
  exact Tot.ret ⟨hq.mono (by omega),by simp only;omega,by simp only;omega,hm'.mono (by omega)⟩
 refine Tot.bind (t278 (by omega) (by omega)) ?_
 rintro w ⟨hw1,-,hw2,hw3⟩
 have hwt:∀x∈w,x.length≤1000000:=fun x hx=>by have:=hw3 x hx;omega
 have hwt':∀x∈w,x.length≤1000000000000:=fun x hx=>by have:=hw3 x hx;omega
 have keep:∀{b:Bool},Bu (K+60) (p,f,n,s,fa,fi,ms,b):=⟨hp.mono (by omega),by simp only;omega,by simp only;omega,hm.mono (by omega)⟩
 refine Tot.bindE (fun z=>z=(w,decide ((0:Int)<(ms.length:Int)),p,f,n,s,fa,fi,ms,bad)) (Tot.ret rfl) ?_
 rintro _ rfl
 generalize hbo:decide ((0:Int)<(ms.length:Int))=body
 refine Tot.bindE (fun z=>Bu (K+60) z) ?_ ?_
 ·refine Tot.bindE (fun z=>∃b,z=(w,body,b,p,f,n,s,fa,fi,ms,bad)∧(b=true→w.length=4)) ?_ ?_
  ·refine Tot.grd (by simp;omega) (Tot.at (by show 0<w.length;omega) fun x _=>Tot.cnd (fun _=>Tot.cnd (fun h=>?_) fun _=>Tot.ret ⟨_,rfl,by simp⟩) fun _=>Tot.ret ⟨_,rfl,by simp⟩)
   simp only[zDe]at h
   exact Tot.ret ⟨_,rfl,fun _=>by omega⟩
  rintro _ ⟨b,rfl,hb⟩
  refine Tot.cnd (fun h=>?_) fun _=>?_
  ·have:=hb h
   refine Tot.grd (by simp;omega) (Tot.at (by show 1<w.length;omega) fun x1 _=>Tot.bind (t310 hp (by omega)) ?_)
   rintro _ ⟨_,q,b,rfl,hq⟩
   refine Tot.grd (by simp;omega) (Tot.at (by show 2<w.length;omega) fun x2 _=>Tot.bind (t310 hq (by omega)) ?_)
   rintro _ ⟨_,q,b,rfl,hq⟩
   refine Tot.grd (by simp;omega) (Tot.at (by show 3<w.length;omega) fun x3 hx3=>Tot.bind (t311 (hwt' _ (List.mem_of_getElem? hx3))) ?_)
   rintro _ ⟨_,b,rfl⟩
   exact Tot.ret ⟨hq.mono (by omega),by simp only;omega,by simp only;omega,hm.mono (by omega)⟩
  refine Tot.bindE (fun z=>∃b,z=(w,body,b,p,f,n,s,fa,fi,ms,bad)∧(b=true→w.length=2)) ?_ ?_
  ·exact Tot.grd (by simp;omega) (Tot.at (by show 0<w.length;omega) fun x _=>Tot.cnd (fun _=>Tot.ret ⟨_,rfl,fun h=>by simp only[zDe]at h;omega⟩) fun _=>Tot.ret ⟨_,rfl,by simp⟩)
  rintro _ ⟨b,rfl,hb⟩
  refine Tot.cnd (fun h=>?_) fun _=>?_
  ·have:=hb h
   refine Tot.grd (by simp;omega) (Tot.at (by show 1<w.length;omega) fun x1 _=>Tot.bind (t5000310 hp (by omega)) ?_)
   rintro _ ⟨_,q,b,rfl,hq⟩
   exact Tot.grd (by simp;omega) (Tot.ret ⟨hq.mono (by omega),by simp;omega,by simp only;omega,hm.mono (by omega)⟩)
  refine Tot.bindE (fun z=>∃b,z=(w,body,b,p,f,n,s,fa,fi,ms,bad)∧(b=true→w.length=4)) ?_ ?_
  ·exact Tot.grd (by simp;omega) (Tot.at (by show 0<w.length;omega) fun x _=>Tot.cnd (fun _=>Tot.ret ⟨_,rfl,fun h=>by simp only[zDe]at h;omega⟩) fun _=>Tot.ret ⟨_,rfl,by simp⟩)
  rintro _ ⟨b,rfl,hb⟩
  refine Tot.cnd (fun h=>?_) fun _=>?_
  ·have hw4:=hb h
   obtain⟨x1,e1⟩:∃x,w[1]? = some x:=⟨w[1],List.getElem?_eq_getElem (by omega)⟩
   obtain⟨x2,e2⟩:∃x,w[2]? = some x:=⟨w[2],List.getElem?_eq_getElem (by omega)⟩
   obtain⟨x3,e3⟩:∃x,w[3]? = some x:=⟨w[3],List.getElem?_eq_getElem (by omega)⟩
   have g1:decide (1<w.length)=true:=by simp only[zDe];omega
   have g2:decide (2<w.length)=true:=by simp only[zDe];omega
   have g3:decide (3<w.length)=true:=by simp only[zDe];omega
   have k1:decide ((1:Int)<(w.length:Int))=true:=by simp only[zDe];omega
   have k2:decide ((2:Int)<(w.length:Int))=true:=by simp only[zDe];omega
   have k3:decide ((3:Int)<(w.length:Int))=true:=by simp only[zDe];omega
   obtain⟨_,c1,i1,q1,b1,rfl,hq1⟩:=zRg (x:=x1) (f:=f) (n:=n) (s:=s) (fa:=fa) (fi:=fi) (ms:=ms) (bad:=bad) hp (by omega)
   obtain⟨_,c2,i2,q2,b2,rfl,hq2⟩:=zRg (x:=x2) (f:=f) (n:=n) (s:=s) (fa:=fa) (fi:=fi) (ms:=ms) (bad:=b1) hq1 (by omega)
   obtain⟨_,c3,i3,b3,rfl⟩:=t6000311 (x:=x3) (p:=q2) (f:=f) (n:=n) (s:=s) (fa:=fa) (fi:=fi) (ms:=ms) (bad:=b2) (hwt' _ (List.mem_of_getElem? e3))
   have gl:(decide (List.length fi+1≤9223372036854775807)&&decide ((List.length fi+1)*24≤140737488355328))=true:=by simp;omega
   simp only[k1,k2,k3,g1,g2,g3,zCW e1,zCW e2,zCW e3,c1,c2,c3,zAB,eq_self,decide_true,zAE,zAW,gl]
   exact Tot.ret ⟨hq2.mono (by omega),by simp only;omega,by simp;omega,hm.mono (by omega)⟩
  refine Tot.bindE (fun z=>∃b,z=(w,body,b,p,f,n,s,fa,fi,ms,bad)∧(b=true→w.length=4∨w.length=6)) ?_ ?_
  ·refine Tot.grd (by simp;omega) (Tot.at (by show 0<w.length;omega) fun x _=>Tot.cnd (fun _=>Tot.cnd (fun h=>?_) fun _=>Tot.ret ⟨_,rfl,fun h=>by simp only[zDe]at h;omega⟩) fun _=>Tot.ret ⟨_,rfl,by simp⟩)
   simp only[zDe]at h
   exact Tot.ret ⟨_,rfl,fun _=>by omega⟩
  rintro _ ⟨b,rfl,hb⟩
  refine Tot.cnd (fun h=>?_) fun _=>?_
  ·refine Tot.bind (t313 (hb h) hwt' hp hm (by omega)) ?_
   rintro _ ⟨q,ms',b,rfl,hq,hm'⟩
   exact Tot.ret ⟨hq.mono (by omega),by simp only;omega,by simp only;omega,hm'.mono (by omega)⟩
  refine Tot.bindE (fun z=>∃b,z=(w,body,b,p,f,n,s,fa,fi,ms,bad)∧(b=true→w.length=5∧body=true)) ?_ ?_
  ·refine Tot.grd (by simp;omega) (Tot.at (by show 0<w.length;omega) fun x _=>Tot.cnd (fun _=>Tot.cnd (fun h=>?_) fun _=>Tot.ret ⟨_,rfl,by simp⟩) fun _=>Tot.ret ⟨_,rfl,by simp⟩)
   simp only[zDe]at h
   exact Tot.ret ⟨_,rfl,fun h=>⟨by omega,h⟩⟩
  rintro _ ⟨b,rfl,hb⟩
  refine Tot.cnd (fun h=>?_) fun _=>?_
  ·obtain⟨h5,h6⟩:=hb h
   rw[←hbo,zDe]at h6
   refine Tot.bind (t314 h5 (by omega) hwt' hp hm (by omega)) ?_
   rintro _ ⟨q,ms',b,rfl,hq,hm'⟩
   exact Tot.ret ⟨hq.mono (by omega),by simp only;omega,by simp only;omega,hm'.mono (by omega)⟩
  refine Tot.bindE (fun z=>∃b,z=(w,b,p,f,n,s,fa,fi,ms,bad)∧(b=true→w.length=4∧body=true)) ?_ ?_
  ·refine Tot.grd (by simp;omega) (Tot.at (by show 0<w.length;omega) fun x _=>Tot.cnd (fun _=>Tot.cnd (fun h=>?_) fun _=>Tot.ret ⟨_,rfl,by simp⟩) fun _=>Tot.ret ⟨_,rfl,by simp⟩)
   simp only[zDe]at h
   exact Tot.ret ⟨_,rfl,fun h=>⟨by omega,h⟩⟩
  rintro _ ⟨b,rfl,hb⟩
  refine Tot.cnd (fun h=>?_) fun _=>Tot.ret keep
  obtain⟨h5,h6⟩:=hb h
  rw[←hbo,zDe]at h6
  have h1:1≤ms.length:=by omega
  obtain⟨x1,e1⟩:∃x,w[1]? = some x:=⟨w[1],List.getElem?_eq_getElem (by omega)⟩
  obtain⟨x2,e2⟩:∃x,w[2]? = some x:=⟨w[2],List.getElem?_eq_getElem (by omega)⟩
  obtain⟨x3,e3⟩:∃x,w[3]? = some x:=⟨w[3],List.getElem?_eq_getElem (by omega)⟩
  have g1:decide (1<w.length)=true:=by simp only[zDe];omega
  have g2:decide (2<w.length)=true:=by simp only[zDe];omega
  have g3:decide (3<w.length)=true:=by simp only[zDe];omega
  have j1:decide ((1:Int)<(w.length:Int))=true:=by simp only[zDe];omega
  have j2:decide ((2:Int)<(w.length:Int))=true:=by simp only[zDe];omega
  have j3:decide ((3:Int)<(w.length:Int))=true:=by simp only[zDe];omega
  obtain⟨m,em⟩:∃m,ms[ms.length-1]? = some m:=⟨ms[ms.length-1],List.getElem?_eq_getElem (by omega)⟩
  have hmb:=hm.2 m (List.mem_of_getElem? em)
  have hlt:decide (ms.length-1<ms.length)=true:=by simp only[zDe];omega
  obtain⟨m0,m1,m2,m3,m4,m5,m6,m7⟩:=m
  obtain⟨k1,k2,k3,k4⟩:=hmb
  simp only at k1 k2 k3 k4
  obtain⟨_,c1,i1,b1,rfl⟩:=zTA (x:=x1) (p:=p) (f:=f) (n:=n) (s:=s) (fa:=fa) (fi:=fi) (ms:=ms) (bad:=bad) (ri:=ms.length-1) (r0:=m0) (r1:=m1) (r2:=m2) (r3:=m3) (r4:=m4) (r5:=m5) (r6:=m6) (fr:=m7) (by omega) (hwt' _ (List.mem_of_getElem? e1))
  obtain⟨_,c2,i2,q2,b2,rfl,l2,hq2⟩:=zKG (v:=x2) (f:=f) (n:=n) (s:=s) (fa:=fa) (fi:=fi) (ms:=ms) (bad:=b1) (ri:=ms.length-1) (r0:=m0) (r1:=m1) (r2:=m2) (r3:=m3) (r4:=m4) (r5:=m5) (r6:=m6) (fr:=m7) (by omega) (hwt _ (List.mem_of_getElem? e2)) hp (by omega)
  obtain⟨_,c3,i3,q3,b3,rfl,l3,hq3⟩:=zKG (v:=x3) (f:=f) (n:=n) (s:=s) (fa:=fa) (fi:=fi) (ms:=ms) (bad:=b2) (ri:=ms.length-1) (r0:=m0) (r1:=m1) (r2:=m2) (r3:=m3) (r4:=m4) (r5:=m5) (r6:=m6) (fr:=m7) (by omega) (hwt _ (List.mem_of_getElem? e3)) hq2 (by omega)
  have gl:(decide (List.length m7+1≤9223372036854775807)&&decide ((List.length m7+1)*56≤140737488355328))=true:=by simp;omega
  simp only[g1,g2,g3,j1,j2,j3,q315 h1 (show ms.length≤1000000 by omega),zMR h1 (show ms.length≤1000000 by omega),zCW e1,zCW e2,zCW e3,zCW em,c1,c2,c3,zAB,eq_self,decide_true,Bool.and_true,Bool.true_and,beq_self_eq_true,hlt,zAE,zAW,gl]
  refine Tot.ret ⟨hq3.mono (by omega),by simp only;omega,by simp only;omega,(hm.mono (by omega)).set _ ?_⟩
  refine⟨by simp only;omega,by simp only;omega,by simp only[List.length_append,List.length_cons,List.length_nil];omega,fun f hf=>?_⟩
  simp only[List.mem_append,List.mem_singleton]at hf
  rcases hf with hf|rfl
  ·exact k4 f hf
  ·exact⟨l2,l3⟩
 ·rintro⟨p,f,n,s,fa,fi,ms,bad⟩ hz
  exact Tot.ret hz
end Go.Proofs.YtdpapeledldifaaGreat
end
