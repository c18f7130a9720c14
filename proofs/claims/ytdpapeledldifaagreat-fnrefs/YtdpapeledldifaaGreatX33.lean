/- Part 34 of the proof that the law FnRefs holds of every input; no condition. -/
import Derived.Test.YtdpapeledldifaaGreatX32
set_option autoImplicit true
set_option relaxedAutoImplicit true
set_option linter.all false
section
namespace Go.Stow
theorem zQu (op:Int) : -1≤argN op∧argN op≤2:=by unfold argN;repeat' split<;>omega
end Go.Stow
namespace Go.Proofs.YtdpapeledldifaaGreat
open Go Go.AM Go.TM Go.Stow
theorem q251 (op:Int):F251 op=some (argN op):=by
 simp only[F251,q107,zAB,zAF,zAq,zAC,zAH]
 unfold argN
 repeat' split
 all_goals first|rfl|(exfalso;omega)
theorem q90 (op:Int):F90 op=some (argN op):=by
 simp only[F90,q89,zAB,zAF,zAJ,zAq,zAC,zAH]
 unfold argN
 repeat' split
 all_goals first|rfl|(exfalso;omega)
theorem q252 (s:List UInt8)(op:Int)(hs:s.length≤2):F252 (s,op)=some (numB op s):=by
 match s,hs with
 |[],_=>rfl
 | [a],_ =>
   have ha:=a.toNat_lt
   have e0:∀k:UInt8→Option Int,atO [a] 0 k=k a:=fun k=>rfl
   simp (discharger:=omega) only[F252,List.length_cons,List.length_nil,e0,wI,zAF,zAq,zAC,numB]
   rw[if_neg (by omega),if_neg (by omega)]
   rw[if_neg (show ¬(32768:Int)≤(a.toNat:Int)by omega)]
   split<;>rfl
 | [a,b],_ =>
   have ha:=a.toNat_lt
   have hb:=b.toNat_lt
   have e0:∀k:UInt8→Option Int,atO [a,b] 0 k=k a:=fun k=>rfl
   have e1:∀k:UInt8→Option (Int×Int⊕Int),atO [a,b] 1 k=k b:=fun k=>rfl
   simp (discharger:=omega) only[F252,List.length_cons,List.length_nil,e0,e1,wI,zAF,zAq,zAC,numB]
   rw[if_neg (by omega),if_pos (by omega)]
   by_cases h1:op=1
   ·rw[if_pos h1]
    by_cases h2:(32768:Int)≤(a.toNat:Int)*256+(b.toNat:Int)
    ·rw[if_pos h2,if_pos ⟨h1,h2⟩]
    ·rw[if_neg h2,if_neg fun h=>h2 h.2]
   ·rw[if_neg h1,if_neg fun h=>h1 h.1]
theorem zSC {X Y R:Type}{f:X→Option (X⊕(Y⊕R))}{k:Y→Option R}(s:List UInt8)(mk:List InsP→Nat→X)(bad:R)(good:List InsP→R)
  (hend:∀out,out.length≤s.length→bindE (zAG f (mk out s.length)) k=some (good out))
  (hbad:∀out a (h:a<s.length),out.length≤a→(argN s[a].toNat<0∨((s.drop (a+1)).length:Int)<argN s[a].toNat)→bindE (zAG f (mk out a)) k=some bad)
  (hstep:∀out a (h:a<s.length) (n:Nat),out.length≤a→argN s[a].toNat=n→n≤(s.drop (a+1)).length→f (mk out a)=some (.inl (mk (out++[((a:Int),(s[a].toNat:Int),numB s[a].toNat ((s.drop (a+1)).take n))]) (a+1+n)))) :
  ∀(m a:Nat) (out:List InsP),s.length-a≤m→a≤s.length→out.length≤a→bindE (zAG f (mk out a)) k=some (match opsN m (a:Int) (s.drop a)with|some r=>good (out++r)|none=>bad):=by
 intro m
 induction m with
 | zero =>
   intro a out hm ha ho
   have:a=s.length:=by omega
   subst this
   rw[hend out ho,List.drop_eq_nil_of_le (Nat.le_refl _)]
   simp only[opsN,List.append_nil]
 | succ m ih =>
   intro a out hm ha ho
   by_cases h:a<s.length
   ·rw[zBX h]
    simp only[opsN]
    by_cases hb:argN s[a].toNat<0∨((s.drop (a+1)).length:Int)<argN s[a].toNat
    ·rw[if_pos hb,hbad out a h ho hb]
    ·rw[if_neg hb]
     have hn:argN s[a].toNat=((argN s[a].toNat).toNat:Int):=by omega
     generalize (argN s[a].toNat).toNat=n at hn
     have hle:n≤(s.drop (a+1)).length:=by omega
     have hd:(s.drop (a+1)).drop n=s.drop (a+1+n):=by rw[List.drop_drop]
     have hlen:a+1+n≤s.length:=by simp only[List.length_drop]at hle;omega
     rw[zDd (hstep out a h n ho hn hle),ih (a+1+n) _ (by omega) hlen (by simp only[List.length_append,List.length_cons,List.length_nil];omega),hn,hd]
     rw[show(((a+1+n:Nat)):Int)=(a:Int)+1+n by omega]
     cases opsN m ((a:Int)+1+n) (s.drop (a+1+n))with
     |none=>rfl
     |some q=>simp only[Option.map_some,List.append_assoc,List.singleton_append]
   ·have:a=s.length:=by omega
    subst this
    rw[hend out ho,List.drop_eq_nil_of_le (Nat.le_refl _)]
    simp only[opsN,List.append_nil]
theorem q193 (s:List UInt8)(hs:s.length≤1048576):F193 s=some (opsV s):=by
 simp only[F193,zAF]
 refine(zSC s (fun out a=>(s,out,(a:Int))) ([],false) (fun r=>(r,decide ((0:Int)<r.length))) ?_ ?_ ?_ s.length 0 [] (by omega) (by omega) (by simp)).trans ?_
 ·intro out ho
  rw[zAy (y:=.inl out) (by simp only[Int.lt_irrefl,if_false]),zAC]
 ·intro out a h ho hb
  have h1:(a:Int)<s.length:=by omega
  have h0:(0:Int)≤a:=by omega
  have hr:=s[a].toNat_lt
  rw[zAy (y:=.inr ([],false)),zAH]
  simp (discharger:=omega) only[h1,h0,if_true,decide_true,zAE,Int.toNat_natCast,zAN,wI,q251,zAB]
  by_cases h2:argN s[a].toNat<0
  ·rw[if_pos h2,zAH]
  ·have h3:=(zQu s[a].toNat).2
   have h4:(s.length:Int)<(a:Int)+1+argN s[a].toNat:=by
    have:=hb.resolve_left h2
    simp only[List.length_drop]at this
    omega
   rw[if_neg h2,wI (by omega) (by omega),if_pos h4,zAH]
 ·intro out a h n ho hn hle
  have h1:(a:Int)<s.length:=by omega
  have h0:(0:Int)≤a:=by omega
  have hr:=s[a].toNat_lt
  have hn2:=(zQu s[a].toNat).2
  rw[hn]at hn2
  have h2:¬((n:Int)<0):=by omega
  have hle':=hle
  simp only[List.length_drop]at hle'
  have h4:¬(s.length:Int)<(a:Int)+1+n:=by omega
  have g1:(0:Int)≤(a:Int)+1:=by omega
  have g2:(a:Int)+1≤(a:Int)+1+n:=by omega
  have g3:(a:Int)+1+n≤s.length:=by omega
  have t1:((a:Int)+1).toNat=a+1:=by omega
  have t2:((a:Int)+1+n).toNat=a+1+n:=by omega
  have hd:(s.take (a+1+n)).drop (a+1)=(s.drop (a+1)).take n:=by rw[List.drop_take];congr 1;omega
  have hl2:((s.drop (a+1)).take n).length≤2:=by simp only[List.length_take];omega
  have q5:out.length+1≤9223372036854775807:=by omega
  have q6:(out.length+1)*24≤140737488355328:=by omega
  simp (discharger:=omega) only[h1,h0,if_true,decide_true,zAE,Int.toNat_natCast,zAN,wI,q251,zAB,hn,h2,h4,if_false,zAC,g1,g2,g3,Bool.and_self,t1,t2,hd,q252 _ _ hl2,q5,q6]
  rfl
 ·rw[List.drop_zero]
  unfold opsV
  simp only[List.nil_append]
  show some (match opsN s.length (0:Int) s with|some r=>_|none=>_)=_
  cases opsN s.length 0 s with
  |none=>rfl
  | some r =>
    cases r with
    |nil=>rfl
    |cons x r=>simp
def raw:List UInt8→Int
 |[]=>0
 |[a]=>a.toNat
 |a::b::_=>256*(a.toNat:Int)+b.toNat
theorem raw_num (op:Int)(t:List UInt8):(op=1∧32767<raw t→raw t-65536=numB op t)∧(¬(op=1∧32767<raw t)→raw t=numB op t):=by
 match t with
 |[]=>exact⟨fun h=>absurd h.2 (by simp[raw]),fun _=>rfl⟩
 | [a] =>
   have:=a.toNat_lt
   exact⟨fun h=>absurd h.2 (by simp only[raw];omega),fun _=>rfl⟩
 | a::b::l =>
   have:=a.toNat_lt
   have:=b.toNat_lt
   have hr:raw (a::b::l)=256*(a.toNat:Int)+b.toNat:=rfl
   have hn:numB op (a::b::l)=if op=1∧32768≤(a.toNat:Int)*256+b.toNat then(a.toNat:Int)*256+b.toNat-65536 else(a.toNat:Int)*256+b.toNat:=rfl
   rw[hr,hn]
   constructor
   ·intro h
    rw[if_pos ⟨h.1,by omega⟩]
    omega
   ·intro h
    rw[if_neg fun h'=>h ⟨h'.1,by omega⟩]
    omega
theorem raw_ran (t:List UInt8):0≤raw t∧raw t≤65535:=by
 match t with
 |[]=>simp[raw]
 |[a]=>have:=a.toNat_lt;simp only[raw];omega
 |a::b::l=>have:=a.toNat_lt;have:=b.toNat_lt;simp only[raw];omega
theorem raw_loop {X Y R:Type}{f:X→Option (X⊕(Y⊕R))}{k:Y→Option R}(t:List UInt8)(mk:Int→Nat→X)(fin:Int→Y)(ht:t.length≤2){x0:X}(hx:x0=mk 0 0)
  (hend:∀acc,f (mk acc t.length)=some (.inr (.inl (fin acc))))
  (hstep:∀acc i (h:i<t.length),0≤acc→acc≤255→f (mk acc i)=some (.inl (mk (256*acc+t[i].toNat) (i+1)))):bindE (zAG f x0) k=k (fin (raw t)):=by
 rw[hx]
 match t,ht with
 | [],_ =>
   have h1:f (mk 0 0)=some (.inr (.inl (fin 0))):=hend 0
   rw[zAy h1,zAC];rfl
 | [a],_ =>
   have:=a.toNat_lt
   have h0:f (mk 0 0)=some (.inl (mk (a.toNat:Int) 1)):=by have:=hstep 0 0 (by simp) (by omega) (by omega);simpa using this
   have h1:f (mk (a.toNat:Int) 1)=some (.inr (.inl (fin (a.toNat:Int)))):=hend _
   rw[zDd h0,zAy h1,zAC];rfl
 | [a,b],_ =>
   have ha:=a.toNat_lt
   have hb:=b.toNat_lt
   have h0:f (mk 0 0)=some (.inl (mk (a.toNat:Int) 1)):=by have:=hstep 0 0 (by simp) (by omega) (by omega);simpa using this
   have h1:f (mk (a.toNat:Int) 1)=some (.inl (mk (256*(a.toNat:Int)+b.toNat) 2)):=by have:=hstep (a.toNat:Int) 1 (by simp) (by omega) (by omega);simpa using this
   have h2:f (mk (256*(a.toNat:Int)+b.toNat) 2)=some (.inr (.inl (fin (256*(a.toNat:Int)+b.toNat)))):=hend _
   rw[zDd h0,zDd h1,zAy h2,zAC];rfl
theorem q31 (s:List UInt8)(hs:s.length≤120):F31 s=some (opsV s):=by
 simp only[F31,q89,zAB,zAT,zAF]
 by_cases hr:(1:Int)≤s.length∧(s.length:Int)≤120
 ·rw[if_pos hr]
  refine(zSC s (fun out a=>(s,out,(a:Int))) ([],false) (fun r=>(r,true)) ?_ ?_ ?_ s.length 0 [] (by omega) (by omega) (by simp)).trans ?_
  ·intro out ho
   rw[zAy (y:=.inl out) (by simp only[Int.lt_irrefl,if_false]),zAC]
  ·intro out a h ho hb
   have h1:(a:Int)<s.length:=by omega
   have h0:(0:Int)≤a:=by omega
   have hrr:=s[a].toNat_lt
   rw[zAy (y:=.inr ([],false)),zAH]
   simp (discharger:=omega) only[h1,h0,if_true,decide_true,zAE,Int.toNat_natCast,zAN,wI,q90,zAB]
   by_cases h2:argN s[a].toNat<0
   ·rw[if_pos h2];rfl
   ·have h4:(s.length:Int)-a≤argN s[a].toNat:=by
     have:=hb.resolve_left h2
     simp only[List.length_drop]at this
     omega
    rw[if_neg h2,if_pos h4];rfl
  ·intro out a h n ho hn hle
   have h1:(a:Int)<s.length:=by omega
   have h0:(0:Int)≤a:=by omega
   have hrr:=s[a].toNat_lt
   have hn2:=(zQu s[a].toNat).2
   rw[hn]at hn2
   have h2:¬((n:Int)<0):=by omega
   have hle':=hle
   simp only[List.length_drop]at hle'
   have h4:¬(s.length:Int)-a≤(n:Int):=by omega
   have g1:(0:Int)≤(a:Int)+1:=by omega
   have g2:(a:Int)+1≤(a:Int)+1+n:=by omega
   have g3:(a:Int)+1+n≤s.length:=by omega
   have t1:((a:Int)+1).toNat=a+1:=by omega
   have t2:((a:Int)+1+n).toNat=a+1+n:=by omega
   have hd:(s.take (a+1+n)).drop (a+1)=(s.drop (a+1)).take n:=by rw[List.drop_take];congr 1;omega
   have hl2:((s.drop (a+1)).take n).length≤2:=by simp only[List.length_take];omega
   have q5:out.length+1≤9223372036854775807:=by omega
   have q6:(out.length+1)*24≤140737488355328:=by omega
   simp (discharger:=omega) only[h1,h0,if_true,decide_true,zAE,Int.toNat_natCast,zAN,wI,q90,zAB,hn,h2,h4,if_false,zAC,g1,g2,g3,Bool.and_self,t1,t2,hd]
   generalize (s.drop (a+1)).take n=t at hl2
   generalize s[a]=x at hrr
   have hk:=raw_num x.toNat t
   have hrr2:=raw_ran t
   refine(congrArg (bindE · _) (raw_loop t (fun acc i=>(s,out,(a:Int),(n:Int),t,(t.length:Int),(i:Int),(a:Int),(x.toNat:Int),acc)) (fun acc=>(s,out,(a:Int),(n:Int),(a:Int),(x.toNat:Int),acc)) hl2 rfl ?_ ?_)).trans ?_
   ·intro acc
    simp only[Int.lt_irrefl,if_false]
   ·intro acc i hi ha0 ha1
    have i1:(i:Int)<t.length:=by omega
    have i0:(0:Int)≤i:=by omega
    have:=t[i].toNat_lt
    simp (discharger:=omega) only[i1,i0,if_true,decide_true,zAE,Int.toNat_natCast,zAN,wI]
    rfl
   ·have e:(if(if(x.toNat:Int)=1 then decide (32767<raw t)else false)=true then raw t-65536 else raw t)=numB x.toNat t:=by
     by_cases hc:(x.toNat:Int)=1∧32767<raw t
     ·rw[←hk.1 hc];simp[hc.1,hc.2]
     ·rw[←hk.2 hc]
      by_cases h1:(x.toNat:Int)=1
      ·have:¬32767<raw t:=fun h=>hc ⟨h1,h⟩
       simp[h1,this]
      ·simp[h1]
    rw[←e]
    simp only
    by_cases c1:(x.toNat:Int)=1
    ·simp only[if_pos c1,zAC]
     by_cases c2:32767<raw t
     ·simp (discharger:=omega) only[c2,decide_true,zAJ,zAF,zAC,if_true,q5,q6,Bool.and_self,zAE,wI]
      rw[show(a:Int)+(1+(n:Int))=((a+1+n:Nat):Int)by omega]
     ·simp (discharger:=omega) only[c2,decide_false,zAI,zAF,zAC,if_false,Bool.false_eq_true,q5,q6,decide_true,Bool.and_self,zAE,wI]
      rw[show(a:Int)+(1+(n:Int))=((a+1+n:Nat):Int)by omega]
    ·simp (discharger:=omega) only[if_neg c1,zAC,zAI,Bool.false_eq_true,if_false,q5,q6,decide_true,Bool.and_self,zAE,wI]
     rw[show(a:Int)+(1+(n:Int))=((a+1+n:Nat):Int)by omega]
  ·rw[List.drop_zero]
   unfold opsV
   simp only[List.nil_append]
   show some (match opsN s.length (0:Int) s with|some r=>_|none=>_)=_
   cases he:opsN s.length 0 s with
   |none=>rfl
   | some r =>
     cases r with
     | nil =>
       exfalso
       cases s with
       |nil=>simp at hr
       | cons x l =>
         simp only[List.length_cons,opsN]at he
         split at he
         ·cases he
         ·cases ho:opsN l.length (0+1+argN x.toNat) (l.drop (argN x.toNat).toNat)with
          |none=>rw[ho]at he;cases he
          |some q=>rw[ho]at he;simp at he
     |cons x r=>rfl
 ·rw[if_neg hr]
  have:s=[]:=List.length_eq_zero_iff.1 (by omega)
  subst this
  rfl
end Go.Proofs.YtdpapeledldifaaGreat
end
section
namespace Go.Stow
theorem zAi {α:Type}{l:List α}(d:α){P:α→Prop}:(∀x∈l,P x)↔∀i,i<l.length→P (l.getD i d):=by
 constructor
 ·intro h i hi
  rw[List.getD_eq_getElem?_getD,List.getElem?_eq_getElem hi]
  exact h _ (List.getElem_mem hi)
 ·intro h x hx
  obtain⟨i,hi,rfl⟩:=List.mem_iff_getElem.1 hx
  have:=h i hi
  rwa[List.getD_eq_getElem?_getD,List.getElem?_eq_getElem hi]at this
theorem zSE:∀(m:Nat) (a:Int) (s:List UInt8) (r:List InsP),opsN m a s=some r→r.length≤m
 |0,a,[],r,h=>by simp only[opsN,zSe]at h;simp[←h]
 |_+1,a,[],r,h=>by simp only[opsN,zSe]at h;simp[←h]
 |0,a,_::_,r,h=>by simp[opsN]at h
 | m+1,a,x::l,r,h=>by
   simp only[opsN]at h
   split at h
   ·cases h
   ·cases ho:opsN m (a+1+argN x.toNat) (l.drop (argN x.toNat).toNat)with
    |none=>rw[ho]at h;cases h
    | some q =>
      rw[ho]at h
      simp only[Option.map_some,zSe]at h
      have:=zSE m _ _ q ho
      rw[←h]
      simp only[List.length_cons]
      omega
theorem zSD (s:List UInt8):(opsV s).1.length≤s.length:=by
 unfold opsV
 cases h:opsN s.length 0 s with
 |none=>simp
 | some r =>
   cases r with
   |nil=>simp
   |cons x r=>exact zSE _ _ _ _ h
theorem zSH:∀(k:Nat) (l:List UInt8) (ts:List (List UInt8)) (b:List UInt8),more k l=some (ts,b)→ts.length≤k
 |0,[],ts,b,h=>by simp[more]at h
 |_+1,[],ts,b,h=>by simp[more]at h
 | 0,x::l,ts,b,h=>by
   simp only[more]at h
   split at h
   ·simp only[zSe,Prod.mk.injEq]at h;rw[←h.1];simp
   ·cases h
 | k+1,x::l,ts,b,h=>by
   rw[zFI]at h
   split at h
   ·simp only[zSe,Prod.mk.injEq]at h;rw[←h.1];simp
   ·cases ho:one (x::l)with
    |none=>rw[ho]at h;cases h
    | some p =>
      rw[ho]at h
      simp only[Option.bind_some]at h
      cases hm:more k p.2 with
      |none=>rw[hm]at h;cases h
      | some q =>
        obtain⟨q1,q2⟩:=q
        rw[hm]at h
        simp only[Option.map_some,zSe,Prod.mk.injEq]at h
        have:=zSH k _ _ _ hm
        rw[←h.1]
        simp only[List.length_cons]
        omega
theorem zHX (s:List UInt8):(dsc s).1.length≤4:=by
 cases s with
 |nil=>simp[dsc]
 | cons x l =>
   simp only[dsc]
   split
   ·cases h:more 4 l with
    |none=>simp
    | some p =>
      obtain⟨ts,b⟩:=p
      simp only
      split
      ·exact zSH 4 l ts b h
      ·simp
   ·simp
end Go.Stow
namespace Go.Proofs.YtdpapeledldifaaGreat
open Go Go.AM Go.TM Go.Stow
theorem q254 (l:List InsP)(a:Int)(hl:l.length≤1048576):F254 (l,a)=some (opI l a):=by
 simp only[F254,zAF]
 refine(zJc (fun i=>(l,a,(i:Int))) () l (fun x=>decide (x.1=a)) (fun i=>(i:Int)) rfl ?_ ?_).trans ?_
 ·simp only[Int.lt_irrefl,if_false]
 ·intro i hi
  have i1:(i:Int)<l.length:=by omega
  have i0:(0:Int)≤i:=by omega
  simp (discharger:=omega) only[i1,i0,if_true,decide_true,zAE,Int.toNat_natCast,zAN,wI,zDe]
  split<;>rfl
 ·unfold opI
  cases l.findIdx? (fun x=>decide (x.1=a))<;>rfl
theorem q291 (op:Int):F291 op=some (want op):=by
 simp only[F291,zAF,zAJ,zAq,zAC,zAH]
 unfold want
 repeat' split
 all_goals first|rfl|(exfalso;omega)
theorem q246 (c:Cls)(m:Mth)(l:List InsP)(x:InsP)(hp:bndP c.1)(hl:l.length≤1048576):F246 (c,m,l,x)=some (decide (zHF c.1 m.2.2.2.2.1 l x)):=by
 obtain⟨c0,c1,c2,c3,c4,c5,c6⟩:=c
 obtain⟨m0,m1,m2,m3,m4,m5,m6,m7⟩:=m
 obtain⟨x0,x1,x2⟩:=x
 simp only at hp
 have hI:zHF c0 m4 l (x0,x1,x2)↔((3≤x1∧x1≤6→x2<m4)∧(14≤x1∧x1≤18→0≤opI l x2)∧(want x1≠0→(zAU c0 x2).1=want x1)):=Iff.rfl
 simp only[F246,q107,q254 _ _ hl,q291,q133 _ _ _ hp,zAB,zAF]
 by_cases h1:3≤x1∧x1≤6
 ·rw[if_pos h1]
  have h2:¬(14≤x1∧x1≤18):=by omega
  have h3:want x1=0:=by unfold want;repeat' split<;>omega
  exact sd (by rw[hI,decide_eq_true_iff];simp[h1,h2,h3])
 ·rw[if_neg h1]
  by_cases h2:14≤x1∧x1≤18
  ·rw[if_pos h2]
   have h3:want x1=0:=by unfold want;repeat' split<;>omega
   exact sd (by rw[hI,decide_eq_true_iff];simp[h1,h2,h3])
  ·rw[if_neg h2]
   by_cases h3:want x1=0
   ·rw[if_pos h3]
    exact sd (by rw[hI];simp[h1,h2,h3])
   ·rw[if_neg h3]
    exact sd (by rw[hI,decide_eq_true_iff];simp[h1,h2,h3])
theorem q247 (c:Cls)(m:Mth)(l:List InsP)(t:Trp)(hp:bndP c.1)(hl:l.length≤1048576):F247 (c,m,l,t)=some (decide (zDc c.1 m.2.2.2.2.2.1.length l t)):=by
 obtain⟨c0,c1,c2,c3,c4,c5,c6⟩:=c
 obtain⟨m0,m1,m2,m3,m4,m5,m6,m7⟩:=m
 obtain⟨t0,t1,t2,t3⟩:=t
 simp only at hp
 have hI:zDc c0 m5.length l (t0,t1,t2,t3)↔(t0<t1∧0≤opI l t0∧(t1=(m5.length:Int)∨0≤opI l t1)∧0≤opI l t2∧(t3=0∨zBR c0 t3)):=Iff.rfl
 simp only[F247,q254 _ _ hl,zAB,zAT,zAF]
 by_cases h1:t1≤t0
 ·rw[if_pos h1,zAH]
  exact sd (by rw[hI];exact iff_of_false (by simp) fun h=>by omega)
 rw[if_neg h1]
 by_cases h2:opI l t0<0
 ·rw[if_pos h2,zAH]
  exact sd (by rw[hI];exact iff_of_false (by simp) fun h=>by omega)
 rw[if_neg h2]
 have hfin:(t1=(m5.length:Int)∨0≤opI l t1)→(bindE (if opI l t2<0 then some (Sum.inr false)else some (Sum.inl ((c0,c1,c2,c3,c4,c5,c6),t0,t1,t2,t3)):Option ((Cls×Int×Int×Int×Int)⊕Bool)) fun(x:Cls×Int×Int×Int×Int) =>
   if x.2.2.2.2=0 then some true else zAA (F130 (x.1.1,x.2.2.2.2)) fun y=>some (!decide (y=[])))=some (decide (zDc c0 m5.length l (t0,t1,t2,t3))):=by
  intro h3
  by_cases h4:opI l t2<0
  ·rw[if_pos h4,zAH]
   exact sd (by rw[hI];exact iff_of_false (by simp) fun h=>by omega)
  rw[if_neg h4,zAC]
  simp only[q130 _ _ hp,zAB]
  by_cases h5:t3=0
  ·rw[if_pos h5]
   exact sd (by rw[hI];exact iff_of_true rfl ⟨by omega,by omega,h3,by omega,.inl h5⟩)
  ·rw[if_neg h5]
   refine sd ?_
   rw[hI]
   simp only[Bool.not_eq_true',decide_eq_false_iff_not]
   rw[show(¬clsN c0 t3=[])↔zBR c0 t3 from zDZ]
   exact⟨fun h=>⟨by omega,by omega,h3,by omega,.inr h⟩,fun h=>h.2.2.2.2.resolve_left h5⟩
 by_cases h3:t1=(m5.length:Int)
 ·rw[if_pos h3]
  exact hfin (.inl h3)
 ·rw[if_neg h3]
  by_cases h4:opI l t1<0
  ·rw[if_pos h4,zAH]
   exact sd (by rw[hI];exact iff_of_false (by simp) fun h=>by omega)
  ·rw[if_neg h4]
   exact hfin (.inr (by omega))
theorem q292 (c:Cls)(l:List Knd)(hp:bndP c.1)(hl:l.length≤1048576):F292 (c,l)=some (decide (zBY c.1 l)):=by
 obtain⟨c0,c1,c2,c3,c4,c5,c6⟩:=c
 simp only at hp
 simp only[F292,zAF]
 refine zGJ (fun i=>(l,(i:Int),c0,c1,c2,c3,c4,c5,c6)) () false l.length (fun i=>zJq c0 (l.getD i (0,0))) rfl ?_ ?_ ?_ ?_
 ·simp only[Int.lt_irrefl,if_false]
 ·intro i hi
  have i1:(i:Int)<l.length:=by omega
  have i0:(0:Int)≤i:=by omega
  simp only[i1,i0,if_true,decide_true,zAE,Int.toNat_natCast]
  simp only[zBT ((0,0):Knd) hi]
  generalize l.getD i (0,0)=x
  have hK:zJq c0 x↔((0≤x.1∧x.1≤3)∧(x.1=3→zBR c0 x.2)∧(x.1≠3→x.2=0)):=Iff.rfl
  simp only[q107,q130 _ _ hp,zAB,zAT,zAF]
  by_cases h1:0≤x.1∧x.1≤3
  ·rw[if_pos h1]
   by_cases h2:x.1=3
   ·rw[if_pos h2,if_pos h2]
    by_cases h3:clsN c0 x.2=[]
    ·rw[if_pos h3]
     exact .inr ⟨fun h=>zDZ.2 ((hK.1 h).2.1 h2) h3,rfl⟩
    ·rw[if_neg h3]
     refine .inl ⟨hK.2 ⟨h1,fun _=>zDZ.1 h3,fun h=>absurd h2 h⟩,?_⟩
     simp only[zAC]
     rw[wI (by omega) (by omega)];rfl
   ·rw[if_neg h2,if_neg h2]
    by_cases h3:x.2=0
    ·rw[if_pos h3]
     refine .inl ⟨hK.2 ⟨h1,fun h=>absurd h h2,fun _=>h3⟩,?_⟩
     simp only[zAC]
     rw[wI (by omega) (by omega)];rfl
    ·rw[if_neg h3]
     exact .inr ⟨fun h=>h3 ((hK.1 h).2.2 h2),rfl⟩
  ·rw[if_neg h1]
   exact .inr ⟨fun h=>h1 (hK.1 h).1,rfl⟩
 ·intro h
  exact sd (iff_of_true rfl ((zAi (0,0)).2 h))
 ·intro h
  exact sd (iff_of_false (by simp) fun h'=>h ((zAi (0,0)).1 h'))
theorem q245 (c:Cls)(m:Mth)(hp:bndP c.1)(hm:0≤m.1∧m.1≤255):F245 (c,m)=some (takes c.1 m):=by
 obtain⟨c0,c1,c2,c3,c4,c5,c6⟩:=c
 obtain⟨m0,m1,m2,m3,m4,m5,m6,m7⟩:=m
 obtain⟨hm0,hm1⟩:=hm
 simp only at hp hm0 hm1
 have hd:=zHX (txt c0 m2)
 simp only[F245,q131 _ _ hp,n214 _ (zDM hp _),q108 hm0 hm1 (show(1:Int)≤1 by omega),zAB,zAF,takes]
 split
 ·rfl
 ·rw[wI (by omega) (by omega)]
theorem q248 (c:Cls)(m:Mth)(l:List InsP)(hp:bndP c.1)(hl:l.length≤1048576)(hm:m.2.2.2.2.2.2.2.length≤1048576)(hk:∀ f∈m.2.2.2.2.2.2.2,bFrm f):F248 (c,m,l)=some (decide (zPU c.1 m l)):=by
 obtain⟨c0,c1,c2,c3,c4,c5,c6⟩:=c
 obtain⟨m0,m1,m2,m3,m4,m5,m6,m7⟩:=m
 simp only at hp hm hk
 simp only[F248,zAF]
 refine zGJ (fun i=>(l,(i:Int),(c0,c1,c2,c3,c4,c5,c6),m0,m1,m2,m3,m4,m5,m6,m7)) () false m7.length (zWJ c0 (m0,m1,m2,m3,m4,m5,m6,m7) l) rfl ?_ ?_ ?_ ?_
 ·simp only[Int.lt_irrefl,if_false]
 ·intro i hi
  have i1:(i:Int)<m7.length:=by omega
  have i0:(0:Int)≤i:=by omega
  have hF:zWJ c0 (m0,m1,m2,m3,m4,m5,m6,m7) l i↔(0≤opI l (m7.getD i (0,[],[])).1∧(0<i→(m7.getD (i-1) (0,[],[])).1<(m7.getD i (0,[],[])).1)∧((m7.getD i (0,[],[])).2.1.length:Int)=m4∧((m7.getD i (0,[],[])).2.2.length:Int)≤m3∧zBY c0 (m7.getD i (0,[],[])).2.1∧zBY c0 (m7.getD i (0,[],[])).2.2):=Iff.rfl
  have hb:bFrm (m7.getD i (0,[],[])):=(zAi (P:=bFrm) (0,[],[])).1 hk i hi
  simp only[i1,i0,if_true,decide_true,zAE,Int.toNat_natCast]
  rw[zBT (0,[],[]) hi]
  rw[hF]
  generalize m7.getD i (0,[],[])=x at hb
  have z1:F292 ((c0,c1,c2,c3,c4,c5,c6),x.2.1)=some (decide (zBY c0 x.2.1)):=q292 (c0,c1,c2,c3,c4,c5,c6) x.2.1 hp hb.1
  have z2:F292 ((c0,c1,c2,c3,c4,c5,c6),x.2.2)=some (decide (zBY c0 x.2.2)):=q292 (c0,c1,c2,c3,c4,c5,c6) x.2.2 hp hb.2
  simp only[q254 _ _ hl,z1,z2,zAB,zAT,zAF]
  by_cases h1:opI l x.1<0
  ·rw[if_pos h1]
   exact .inr ⟨fun h=>by omega,rfl⟩
  rw[if_neg h1]
  have hrest:(0<i→(m7.getD (i-1) (0,[],[])).1<x.1)→∀F:Option ((List InsP×Int×Cls×Mth)⊕((List InsP×Int×Cls×Mth)⊕(Unit⊕Bool)))→Option ((List InsP×Int×Cls×Mth)⊕(Unit⊕Bool)),F (some (.inr (.inr (.inr false))))=some (.inr (.inr false)) →
    F (some (.inl (l,(i:Int),(c0,c1,c2,c3,c4,c5,c6),m0,m1,m2,m3,m4,m5,m6,m7)))=some (.inl (l,((i+1:Nat):Int),(c0,c1,c2,c3,c4,c5,c6),m0,m1,m2,m3,m4,m5,m6,m7)) →
    ((0≤opI l x.1∧(0<i→(m7.getD (i-1) (0,[],[])).1<x.1)∧(x.2.1.length:Int)=m4∧(x.2.2.length:Int)≤m3∧zBY c0 x.2.1∧zBY c0 x.2.2) ∧
      F (if(x.2.1.length:Int)=m4 then if m3<(x.2.2.length:Int)then some (.inr (.inr (.inr false)))else if zBY c0 x.2.1 then if zBY c0 x.2.2 then some (.inl (l,(i:Int),(c0,c1,c2,c3,c4,c5,c6),m0,m1,m2,m3,m4,m5,m6,m7))else some (.inr (.inr (.inr false)))else some (.inr (.inr (.inr false)))else some (.inr (.inr (.inr false))))=some (.inl (l,((i+1:Nat):Int),(c0,c1,c2,c3,c4,c5,c6),m0,m1,m2,m3,m4,m5,m6,m7))) ∨
    (¬(0≤opI l x.1∧(0<i→(m7.getD (i-1) (0,[],[])).1<x.1)∧(x.2.1.length:Int)=m4∧(x.2.2.length:Int)≤m3∧zBY c0 x.2.1∧zBY c0 x.2.2) ∧
     F (if(x.2.1.length:Int)=m4 then if m3<(x.2.2.length:Int)then some (.inr (.inr (.inr false)))else if zBY c0 x.2.1 then if zBY c0 x.2.2 then some (.inl (l,(i:Int),(c0,c1,c2,c3,c4,c5,c6),m0,m1,m2,m3,m4,m5,m6,m7))else some (.inr (.inr (.inr false)))else some (.inr (.inr (.inr false)))else some (.inr (.inr (.inr false))))=some (.inr (.inr false))):=by
   intro h2 F f1 f2
   by_cases h3:(x.2.1.length:Int)=m4
   ·rw[if_pos h3]
    by_cases h4:m3<(x.2.2.length:Int)
    ·rw[if_pos h4];exact .inr ⟨fun h=>by omega,f1⟩
    ·rw[if_neg h4]
     by_cases h5:zBY c0 x.2.1
     ·rw[if_pos h5]
      by_cases h6:zBY c0 x.2.2
      ·rw[if_pos h6];exact .inl ⟨⟨by omega,h2,h3,by omega,h5,h6⟩,f2⟩
      ·rw[if_neg h6];exact .inr ⟨fun h=>h6 h.2.2.2.2.2,f1⟩
     ·rw[if_neg h5];exact .inr ⟨fun h=>h5 h.2.2.2.2.1,f1⟩
   ·rw[if_neg h3];exact .inr ⟨fun h=>h3 h.2.2.1,f1⟩
  by_cases h2:(0:Int)<i
  ·have j1:((i:Int)-1).toNat=i-1:=by omega
   have j0:(0:Int)≤(i:Int)-1:=by omega
   have jl:i-1<m7.length:=by omega
   rw[if_pos h2]
   simp (discharger:=omega) only[wI,j0,decide_true,zAE,j1]
   rw[zBT (0,[],[]) jl]
   by_cases h3:x.1≤(m7.getD (i-1) (0,[],[])).1
   ·rw[if_pos h3]
    exact .inr ⟨fun h=>by have:=h.2.1 (by omega);omega,rfl⟩
   ·rw[if_neg h3]
    refine hrest (fun _=>by omega) (bindE · _) rfl ?_
    simp only[zAC]
    rw[wI (by omega) (by omega)];rfl
  ·rw[if_neg h2]
   refine hrest (fun h=>absurd h (by omega)) (bindE · _) rfl ?_
   simp only[zAC]
   rw[wI (by omega) (by omega)];rfl
 ·intro h
  exact sd (iff_of_true rfl h)
 ·intro h
  exact sd (iff_of_false (by simp) h)
end Go.Proofs.YtdpapeledldifaaGreat
end
section
namespace Go.Proofs.YtdpapeledldifaaGreat
open Go Go.AM Go.TM Go.Stow
theorem q178 (c:Cls)(m:Mth)(hp:bndP c.1)(hm:0≤m.1∧m.1≤255)(hb:bMth m):F178 (c,m)=some (decide (¬has m.1 8→zCX c.1 m)):=by
 have z245:=q245 c m hp hm
 obtain⟨c0,c1,c2,c3,c4,c5,c6⟩:=c
 obtain⟨m0,m1,m2,m3,m4,m5,m6,m7⟩:=m
 obtain⟨hm0,hm1⟩:=hm
 obtain⟨b1,b2,b3,b4⟩:=hb
 simp only at hp hm0 hm1 b1 b2 b3 b4 z245
 have hlen:=zSD m5
 have hB:zCX c0 (m0,m1,m2,m3,m4,m5,m6,m7)↔((opsV m5).2=true∧m3≤8∧(takes c0 (m0,m1,m2,m3,m4,m5,m6,m7)≤m4∧m4≤8)∧(∀x∈(opsV m5).1,zHF c0 m4 (opsV m5).1 x)∧(∀t∈m6,zDc c0 m5.length (opsV m5).1 t)∧zPU c0 (m0,m1,m2,m3,m4,m5,m6,m7) (opsV m5).1):=Iff.rfl
 simp only[F178,q108 hm0 hm1 (show(1:Int)≤8 by omega),q193 _ b1,zAB,zAF,zAT]
 by_cases h0:has m0 8
 ·rw[if_pos h0]
  exact sd (iff_of_true rfl fun h=>absurd h0 h)
 rw[if_neg h0]
 have hgo:∀b:Bool,(b=true↔zCX c0 (m0,m1,m2,m3,m4,m5,m6,m7))→some b=some (decide (¬has m0 8→zCX c0 (m0,m1,m2,m3,m4,m5,m6,m7))):=fun b hb=>sd (hb.trans ⟨fun h _=>h,fun h=>h h0⟩)
 generalize hv:opsV m5=v at hlen hB
 obtain⟨ops,ok⟩:=v
 simp only at hlen hB ⊢
 have hol:ops.length≤1048576:=by omega
 cases ok with
 | false =>
   rw[zAI,zAH]
   exact hgo false (by rw[hB];exact iff_of_false (by simp) fun h=>by cases h.1)
 | true =>
   rw[zAJ]
   by_cases h1:8<m3
   ·rw[if_pos h1,zAH]
    exact hgo false (by rw[hB];exact iff_of_false (by simp) fun h=>by omega)
   rw[if_neg h1,z245,zAB]
   simp only[eq_self,decide_true,zAE,zAW,q107,zAB,zAF]
   by_cases h2:takes c0 (m0,m1,m2,m3,m4,m5,m6,m7)≤m4∧m4≤8
   ·rw[if_pos h2,zAC]
    simp only
    refine zGJ (fun i=>(ops,(i:Int),(c0,c1,c2,c3,c4,c5,c6),m0,m1,m2,m3,m4,m5,m6,m7)) (ops,(c0,c1,c2,c3,c4,c5,c6),m0,m1,m2,m3,m4,m5,m6,m7) false ops.length (fun i=>zHF c0 m4 ops (ops.getD i (0,0,0))) rfl ?_ ?_ ?_ ?_
    ·simp only[Int.lt_irrefl,if_false]
    ·intro i hi
     have i1:(i:Int)<ops.length:=by omega
     have i0:(0:Int)≤i:=by omega
     simp only[i1,i0,if_true,decide_true,Bool.and_self,zAE,Int.toNat_natCast]
     rw[zBT (0,0,0) hi]
     generalize ops.getD i (0,0,0)=x
     have z:=q246 (c0,c1,c2,c3,c4,c5,c6) (m0,m1,m2,m3,m4,m5,m6,m7) ops x hp hol
     rw[show((x.1,x.2.1,x.2.2):InsP)=x from rfl,z]
     simp only[zAB,zAF]
     by_cases h:zHF c0 m4 ops x
     ·rw[if_pos h,wI (by omega) (by omega)];exact .inl ⟨h,rfl⟩
     ·rw[if_neg h];exact .inr ⟨h,rfl⟩
    ·intro hins
     have hins:=(zAi (P:=fun x=>zHF c0 m4 ops x) (0,0,0)).2 hins
     simp only
     refine zGJ (fun i=>(ops,(i:Int),(c0,c1,c2,c3,c4,c5,c6),m0,m1,m2,m3,m4,m5,m6,m7)) (ops,(c0,c1,c2,c3,c4,c5,c6),m0,m1,m2,m3,m4,m5,m6,m7) false m6.length (fun i=>zDc c0 m5.length ops (m6.getD i (0,0,0,0))) rfl ?_ ?_ ?_ ?_
     ·simp only[Int.lt_irrefl,if_false]
     ·intro i hi
      have i1:(i:Int)<m6.length:=by omega
      have i0:(0:Int)≤i:=by omega
      simp only[i1,i0,if_true,decide_true,Bool.and_self,zAE,Int.toNat_natCast]
      rw[zBT (0,0,0,0) hi]
      generalize m6.getD i (0,0,0,0)=x
      have z:=q247 (c0,c1,c2,c3,c4,c5,c6) (m0,m1,m2,m3,m4,m5,m6,m7) ops x hp hol
      rw[show((x.1,x.2.1,x.2.2.1,x.2.2.2):Trp)=x from rfl,z]
      simp only[zAB,zAF]
      by_cases h:zDc c0 m5.length ops x
      ·rw[if_pos h,wI (by omega) (by omega)];exact .inl ⟨h,rfl⟩
      ·rw[if_neg h];exact .inr ⟨h,rfl⟩
     ·intro htr
      have htr:=(zAi (P:=fun x=>zDc c0 m5.length ops x) (0,0,0,0)).2 htr
      have z:=q248 (c0,c1,c2,c3,c4,c5,c6) (m0,m1,m2,m3,m4,m5,m6,m7) ops hp hol b3 b4
      simp only
      rw[z,zAB]
      refine hgo _ ?_
      rw[hB,decide_eq_true_iff]
      exact⟨fun h=>⟨rfl,by omega,h2,hins,htr,h⟩,fun h=>h.2.2.2.2.2⟩
     ·intro htr
      exact hgo false (by rw[hB];exact iff_of_false (by simp) fun h=>htr ((zAi (P:=fun x=>zDc c0 m5.length ops x) (0,0,0,0)).1 h.2.2.2.2.1))
    ·intro hins
     exact hgo false (by rw[hB];exact iff_of_false (by simp) fun h=>hins ((zAi (P:=fun x=>zHF c0 m4 ops x) (0,0,0)).1 h.2.2.2.1))
   ·rw[if_neg h2,zAH]
    exact hgo false (by rw[hB];exact iff_of_false (by simp) fun h=>h2 h.2.2.1)
theorem q173 (l:List InsP)(a:Int)(hl:l.length≤1048576):F173 (l,a)=some (opI l a):=by
 have e:F242240 (l,a)=some (opI l a,a):=by
  simp only[F242240,zAF]
  refine(zJc (fun i=>(l,(l.length:Int),(i:Int),a)) a l (fun x=>decide (x.1=a)) (fun i=>((i:Int),a)) rfl ?_ ?_).trans ?_
  ·simp only[Int.lt_irrefl,if_false]
  ·intro i hi
   have i1:(i:Int)<l.length:=by omega
   have i0:(0:Int)≤i:=by omega
   simp (discharger:=omega) only[i1,i0,if_true,decide_true,zAE,Int.toNat_natCast,zAN,wI,zDe,F241,zAB,zAF]
   split<;>rfl
  ·unfold opI
   cases l.findIdx? (fun x=>decide (x.1=a))<;>rfl
 simp only[F173,e,zAB]
theorem q171 (op:Int):F171 op=some (want op):=by
 simp only[F171,q89,zAB,zAF,zAJ,zAq,zAC,zAH]
 unfold want
 repeat' split
 all_goals first|rfl|(exfalso;omega)
theorem q174 (c:Cls)(l:List Knd)(hp:bndP c.1)(hok:zFn c.1)(hl:l.length≤1048576)(hk:∀ k∈l,0≤k.1∧k.1≤3):F174 (c,l)=some (decide (zBY c.1 l)):=by
 obtain⟨c0,c1,c2,c3,c4,c5,c6⟩:=c
 simp only at hp hok
 simp only[F174,F244242,F244290]
 have hk':=(zAi (P:=fun k:Knd=>0≤k.1∧k.1≤3) (0,0)).1 hk
 have key:=any_r (f:=(fun(x:List Knd×Int×Int×Cls)=>cndO (decide (x.2.2.1<x.2.1))
    (grdO (decide (0≤x.2.2.1)) (atO x.1 (Int.toNat x.2.2.1) fun y=>zAA (F243 ((y.1,y.2),x.2.2.2.1,x.2.2.2.2.1,x.2.2.2.2.2.1,x.2.2.2.2.2.2.1,x.2.2.2.2.2.2.2.1,x.2.2.2.2.2.2.2.2.1,x.2.2.2.2.2.2.2.2.2)) fun z =>
    cndO z.1 (some (.inr (.inr (x.2.2.1,z.2)))) (some (.inl (x.1,x.2.1,IntKind.wrap .i64 (x.2.2.1+1),z.2)))))
    (some (.inr (.inl (x.2.2.2.1,x.2.2.2.2.1,x.2.2.2.2.2.1,x.2.2.2.2.2.2.1,x.2.2.2.2.2.2.2.1,x.2.2.2.2.2.2.2.2.1,x.2.2.2.2.2.2.2.2.2))))))
  (fun k=>(l,(l.length:Int),(k:Int),c0,c1,c2,c3,c4,c5,c6)) (c0,c1,c2,c3,c4,c5,c6) (fun k=>((k:Int),c0,c1,c2,c3,c4,c5,c6)) l.length (fun k=>¬zJq c0 (l.getD k (0,0))) (x0:=(l,(l.length:Int),0,c0,c1,c2,c3,c4,c5,c6)) (k:=fun x=>some ((-1:Int),x)) rfl ?_ ?_
 ·rcases key with⟨h1,h2⟩|⟨k,h1,h2,h3⟩
  ·rw[zCU h2]
   exact sd (iff_of_true rfl ((zAi (0,0)).2 fun i hi=>Classical.not_not.1 (h1 i hi)))
  ·rw[zCU h3]
   refine sd (iff_of_false ?_ fun h=>h2 ((zAi (0,0)).1 h k h1))
   simp
 ·simp only[Int.lt_irrefl,decide_false,zAI]
 ·intro k hkl
  have k1:(k:Int)<l.length:=by omega
  have k0:(0:Int)≤k:=by omega
  simp only[k1,k0,decide_true,zAJ,zAE,Int.toNat_natCast]
  rw[zBT (0,0) hkl]
  have hr:=hk' k hkl
  generalize l.getD k (0,0)=x at hr
  have hK:zJq c0 x↔((0≤x.1∧x.1≤3)∧(x.1=3→zBR c0 x.2)∧(x.1≠3→x.2=0)):=Iff.rfl
  have z162:F162 ((c0,c1,c2,c3,c4,c5,c6),x.2)=some (decide ((zAU c0 x.2).1=2)):=q162 (c0,c1,c2,c3,c4,c5,c6) x.2 hp
  have z:F243 ((x.1,x.2),c0,c1,c2,c3,c4,c5,c6)=some (decide (¬zJq c0 x),c0,c1,c2,c3,c4,c5,c6):=by
   simp only[F243,z162,zAB,zAT,zAF]
   by_cases h1:x.1=3
   ·rw[if_pos h1]
    by_cases h2:(zAU c0 x.2).1=2
    ·rw[if_pos h2,if_pos h1,decide_eq_false fun h=>h (hK.2 ⟨hr,fun _=>hok.cls.2 h2,fun h=>absurd h1 h⟩)]
    ·rw[if_neg h2,decide_eq_true (p:=¬zJq c0 x) fun h=>h2 ((hK.1 h).2.1 h1).1]
   ·rw[if_neg h1,if_neg h1]
    by_cases h2:x.2=0
    ·rw[decide_eq_true h2,decide_eq_false fun h=>h (hK.2 ⟨hr,fun h=>absurd h h1,fun _=>h2⟩)];rfl
    ·rw[decide_eq_false h2,decide_eq_true (p:=¬zJq c0 x) fun h=>h2 ((hK.1 h).2.2 h1)];rfl
  refine(show ¬zJq c0 x∧_=_∨_ from ?_)
  rw[z]
  simp only[zAB,zAF]
  rw[wI (by omega) (by omega)]
  by_cases e:¬zJq c0 x
  ·rw[if_pos e];exact .inl ⟨e,rfl⟩
  ·rw[if_neg e];exact .inr ⟨e,rfl⟩
theorem q87 (c:Cls)(m:Mth)(hp:bndP c.1)(hok:zFn c.1)(hm:0≤m.1∧m.1≤255)(hb:bMth m)(h120:m.2.2.2.2.2.1.length≤120)(hfr:∀ f∈m.2.2.2.2.2.2.2,fFrm f)(hd:zBC c.1 m.2.2.1 Dsc):F87 (c,m)=some (decide (zCX c.1 m)):=by
 obtain⟨c0,c1,c2,c3,c4,c5,c6⟩:=c
 obtain⟨m0,m1,m2,m3,m4,m5,m6,m7⟩:=m
 obtain⟨hm0,hm1⟩:=hm
 obtain⟨b1,b2,b3,b4⟩:=hb
 simp only at hp hok hm0 hm1 b1 b2 b3 b4 h120 hfr hd
 have hlen:=zSD m5
 have hB:zCX c0 (m0,m1,m2,m3,m4,m5,m6,m7)↔((opsV m5).2=true∧m3≤8∧(takes c0 (m0,m1,m2,m3,m4,m5,m6,m7)≤m4∧m4≤8)∧(∀x∈(opsV m5).1,zHF c0 m4 (opsV m5).1 x)∧(∀t∈m6,zDc c0 m5.length (opsV m5).1 t)∧zPU c0 (m0,m1,m2,m3,m4,m5,m6,m7) (opsV m5).1):=Iff.rfl
 have z111:∀i,F111 ((c0,c1,c2,c3,c4,c5,c6),i)=some (zAl c0 i):=fun i=>q111 (c0,c1,c2,c3,c4,c5,c6) i hp
 have z162:∀i,F162 ((c0,c1,c2,c3,c4,c5,c6),i)=some (decide ((zAU c0 i).1=2)):=fun i=>q162 (c0,c1,c2,c3,c4,c5,c6) i hp
 have z124:∀k,F124 (c0,k)=some (zAU c0 k):=fun k=>q124 c0 k hp.1
 have hdl:=zHX (txt c0 m2)
 have hT:takes c0 (m0,m1,m2,m3,m4,m5,m6,m7)=if has m0 1 then((dsc (txt c0 m2)).1.length:Int)else(dsc (txt c0 m2)).1.length+1:=rfl
 simp only[F87,q31 _ h120,z111,zAu hd.1,n170 _ (zDM hp _),zAB,zAF,zAT,and1p hm0 hm1]
 rw[show(if ¬has m0 1 then some (Sum.inl ((opsV m5).1,(opsV m5).2,IntKind.wrap .i64 (((dsc (txt c0 m2)).1.length:Int)+1),(c0,c1,c2,c3,c4,c5,c6),m0,m1,m2,m3,m4,m5,m6,m7))else some (Sum.inl ((opsV m5).1,(opsV m5).2,((dsc (txt c0 m2)).1.length:Int),(c0,c1,c2,c3,c4,c5,c6),m0,m1,m2,m3,m4,m5,m6,m7)):Option ((List InsP×Bool×Int×Cls×Mth)⊕Bool))=some (Sum.inl ((opsV m5).1,(opsV m5).2,takes c0 (m0,m1,m2,m3,m4,m5,m6,m7),(c0,c1,c2,c3,c4,c5,c6),m0,m1,m2,m3,m4,m5,m6,m7))by
  rw[hT]
  by_cases h:has m0 1
  ·rw[if_neg (by simp[h]),if_pos h]
  ·rw[if_pos h,if_neg h,wI (by omega) (by omega)],zAC]
 generalize takes c0 (m0,m1,m2,m3,m4,m5,m6,m7)=need at hB
 generalize hv:opsV m5=v at hlen hB
 obtain⟨ops,ok⟩:=v
 simp only at hlen hB ⊢
 have hol:ops.length≤1048576:=by omega
 cases ok with
 | false =>
   rw[zAI,zAH]
   exact sd (by rw[hB];exact iff_of_false (by simp) fun h=>by cases h.1)
 | true =>
   rw[zAJ]
   by_cases h1:8<m3
   ·rw[if_pos h1,zAH]
    exact sd (by rw[hB];exact iff_of_false (by simp) fun h=>by omega)
   rw[if_neg h1]
   simp only[q89,zAB,zAF]
   by_cases h2:need≤m4∧m4≤8
   ·rw[if_pos h2,zAC]
    simp only
    refine zGJ (fun i=>((ops.length:Int),(i:Int),(c0,c1,c2,c3,c4,c5,c6),(m0,m1,m2,m3,m4,m5,m6,m7),ops)) (ops,(c0,c1,c2,c3,c4,c5,c6),m0,m1,m2,m3,m4,m5,m6,m7) false ops.length (fun i=>zHF c0 m4 ops (ops.getD i (0,0,0))) rfl ?_ ?_ ?_ ?_
    ·simp only[Int.lt_irrefl,if_false]
    ·intro i hi
     have i1:(i:Int)<ops.length:=by omega
     have i0:(0:Int)≤i:=by omega
     simp only[i1,i0,if_true,decide_true,Bool.and_self,zAE,Int.toNat_natCast]
     rw[zBT (0,0,0) hi]
     generalize ops.getD i (0,0,0)=x
     obtain⟨x0,x1,x2⟩:=x
     have hI:zHF c0 m4 ops (x0,x1,x2)↔((3≤x1∧x1≤6→x2<m4)∧(14≤x1∧x1≤18→0≤opI ops x2)∧(want x1≠0→(zAU c0 x2).1=want x1)):=Iff.rfl
     rw[hI]
     simp only[q171,F172,q89,q173 _ _ hol,z124,zAB,zAF,zAT]
     have hfin:∀F:Option ((Int×Int×Cls×Mth×List InsP)⊕((Int×Int×Cls×Mth×List InsP)⊕((List InsP×Cls×Mth)⊕Bool)))→Option ((Int×Int×Cls×Mth×List InsP)⊕((List InsP×Cls×Mth)⊕Bool)),
       F (some (.inr (.inr (.inr false))))=some (.inr (.inr false))→F (some (.inl ((ops.length:Int),(i:Int),(c0,c1,c2,c3,c4,c5,c6),(m0,m1,m2,m3,m4,m5,m6,m7),ops)))=some (.inl ((ops.length:Int),((i+1:Nat):Int),(c0,c1,c2,c3,c4,c5,c6),(m0,m1,m2,m3,m4,m5,m6,m7),ops)) →
       (3≤x1∧x1≤6→x2<m4)→(14≤x1∧x1≤18→0≤opI ops x2) →
       (((3≤x1∧x1≤6→x2<m4)∧(14≤x1∧x1≤18→0≤opI ops x2)∧(want x1≠0→(zAU c0 x2).1=want x1))∧F (if want x1=0 then some (.inl ((ops.length:Int),(i:Int),(c0,c1,c2,c3,c4,c5,c6),(m0,m1,m2,m3,m4,m5,m6,m7),ops))else if(zAU c0 x2).1=want x1 then some (.inl ((ops.length:Int),(i:Int),(c0,c1,c2,c3,c4,c5,c6),(m0,m1,m2,m3,m4,m5,m6,m7),ops))else some (.inr (.inr (.inr false))))=some (.inl ((ops.length:Int),((i+1:Nat):Int),(c0,c1,c2,c3,c4,c5,c6),(m0,m1,m2,m3,m4,m5,m6,m7),ops))) ∨
       (¬((3≤x1∧x1≤6→x2<m4)∧(14≤x1∧x1≤18→0≤opI ops x2)∧(want x1≠0→(zAU c0 x2).1=want x1))∧F (if want x1=0 then some (.inl ((ops.length:Int),(i:Int),(c0,c1,c2,c3,c4,c5,c6),(m0,m1,m2,m3,m4,m5,m6,m7),ops))else if(zAU c0 x2).1=want x1 then some (.inl ((ops.length:Int),(i:Int),(c0,c1,c2,c3,c4,c5,c6),(m0,m1,m2,m3,m4,m5,m6,m7),ops))else some (.inr (.inr (.inr false))))=some (.inr (.inr false))):=by
      intro F f1 f2 k1 k2
      by_cases h3:want x1=0
      ·rw[if_pos h3];exact .inl ⟨⟨k1,k2,fun h=>absurd h3 h⟩,f2⟩
      ·rw[if_neg h3]
       by_cases h4:(zAU c0 x2).1=want x1
       ·rw[if_pos h4];exact .inl ⟨⟨k1,k2,fun _=>h4⟩,f2⟩
       ·rw[if_neg h4];exact .inr ⟨fun h=>h4 (h.2.2 h3),f1⟩
     have f2:bindE (some (.inl ((ops.length:Int),(i:Int),(c0,c1,c2,c3,c4,c5,c6),(m0,m1,m2,m3,m4,m5,m6,m7),ops)):Option ((Int×Int×Cls×Mth×List InsP)⊕((Int×Int×Cls×Mth×List InsP)⊕((List InsP×Cls×Mth)⊕Bool)))) (fun x=>some (.inl (x.1,IntKind.wrap .i64 (x.2.1+1),x.2.2.1,x.2.2.2.1,x.2.2.2.2)))=some (.inl ((ops.length:Int),((i+1:Nat):Int),(c0,c1,c2,c3,c4,c5,c6),(m0,m1,m2,m3,m4,m5,m6,m7),ops)):=by
      simp only[zAC]
      rw[wI (by omega) (by omega)];rfl
     by_cases k1:3≤x1∧x1≤6
     ·rw[if_pos k1]
      by_cases k2:m4≤x2
      ·rw[if_pos k2]
       exact .inr ⟨fun h=>by have:=h.1 k1;omega,rfl⟩
      ·rw[if_neg k2]
       have k3:¬(14≤x1∧x1≤18):=by omega
       rw[if_neg k3]
       exact hfin (bindE · _) rfl f2 (fun _=>by omega) fun h=>absurd h k3
     ·rw[if_neg k1]
      by_cases k3:14≤x1∧x1≤18
      ·rw[if_pos k3]
       by_cases k4:opI ops x2<0
       ·rw[if_pos k4]
        exact .inr ⟨fun h=>by have:=h.2.1 k3;omega,rfl⟩
       ·rw[if_neg k4]
        exact hfin (bindE · _) rfl f2 (fun h=>absurd h k1) fun _=>by omega
      ·rw[if_neg k3]
       exact hfin (bindE · _) rfl f2 (fun h=>absurd h k1) fun h=>absurd h k3
    ·intro hins
     have hins:=(zAi (P:=fun x=>zHF c0 m4 ops x) (0,0,0)).2 hins
     simp only
     refine zGJ (fun i=>(ops,m6,(m6.length:Int),(i:Int),(c0,c1,c2,c3,c4,c5,c6),m0,m1,m2,m3,m4,m5,m6,m7)) (ops,(c0,c1,c2,c3,c4,c5,c6),m0,m1,m2,m3,m4,m5,m6,m7) false m6.length (fun i=>zDc c0 m5.length ops (m6.getD i (0,0,0,0))) rfl ?_ ?_ ?_ ?_
     ·simp only[Int.lt_irrefl,if_false]
     ·intro i hi
      have i1:(i:Int)<m6.length:=by omega
      have i0:(0:Int)≤i:=by omega
      simp only[i1,i0,if_true,decide_true,Bool.and_self,zAE,Int.toNat_natCast]
      rw[zBT (0,0,0,0) hi]
      generalize m6.getD i (0,0,0,0)=x
      obtain⟨t0,t1,t2,t3⟩:=x
      have hI:zDc c0 m5.length ops (t0,t1,t2,t3)↔(t0<t1∧0≤opI ops t0∧(t1=(m5.length:Int)∨0≤opI ops t1)∧0≤opI ops t2∧(t3=0∨zBR c0 t3)):=Iff.rfl
      rw[hI]
      simp only[q173 _ _ hol,z162,zAB,zAF,zAT]
      have f2:bindE (some (.inl (ops,m6,(m6.length:Int),(i:Int),(c0,c1,c2,c3,c4,c5,c6),m0,m1,m2,m3,m4,m5,m6,m7)):Option ((List InsP×List Trp×Int×Int×Cls×Mth)⊕((List InsP×List Trp×Int×Int×Cls×Mth)⊕((List InsP×Cls×Mth)⊕Bool)))) (fun x=>some (.inl (x.1,x.2.1,x.2.2.1,IntKind.wrap .i64 (x.2.2.2.1+1),x.2.2.2.2.1,x.2.2.2.2.2)))=some (.inl (ops,m6,(m6.length:Int),((i+1:Nat):Int),(c0,c1,c2,c3,c4,c5,c6),m0,m1,m2,m3,m4,m5,m6,m7)):=by
       simp only[zAC]
       rw[wI (by omega) (by omega)];rfl
      by_cases k1:t1≤t0
      ·rw[if_pos k1];exact .inr ⟨fun h=>by omega,rfl⟩
      rw[if_neg k1]
      by_cases k2:opI ops t0<0
      ·rw[if_pos k2];exact .inr ⟨fun h=>by omega,rfl⟩
      rw[if_neg k2]
      by_cases k3:opI ops t2<0
      ·rw[if_pos k3];exact .inr ⟨fun h=>by omega,rfl⟩
      rw[if_neg k3]
      by_cases k4:opI ops t1<0
      ·rw[if_pos k4]
       by_cases k5:t1=(m5.length:Int)
       ·rw[if_pos k5]
        by_cases k6:t3=0
        ·rw[if_pos k6];exact .inl ⟨⟨by omega,by omega,.inl k5,by omega,.inl k6⟩,f2⟩
        ·rw[if_neg k6]
         by_cases k7:(zAU c0 t3).1=2
         ·rw[if_pos k7];exact .inl ⟨⟨by omega,by omega,.inl k5,by omega,.inr (hok.cls.2 k7)⟩,f2⟩
         ·rw[if_neg k7];exact .inr ⟨fun h=>k7 (h.2.2.2.2.resolve_left k6).1,rfl⟩
       ·rw[if_neg k5];exact .inr ⟨fun h=>h.2.2.1.elim k5 fun h=>by omega,rfl⟩
      ·rw[if_neg k4]
       by_cases k6:t3=0
       ·rw[if_pos k6];exact .inl ⟨⟨by omega,by omega,.inr (by omega),by omega,.inl k6⟩,f2⟩
       ·rw[if_neg k6]
        by_cases k7:(zAU c0 t3).1=2
        ·rw[if_pos k7];exact .inl ⟨⟨by omega,by omega,.inr (by omega),by omega,.inr (hok.cls.2 k7)⟩,f2⟩
        ·rw[if_neg k7];exact .inr ⟨fun h=>k7 (h.2.2.2.2.resolve_left k6).1,rfl⟩
     ·intro htr
      have htr:=(zAi (P:=fun x=>zDc c0 m5.length ops x) (0,0,0,0)).2 htr
      simp only
      refine zGJ (fun i=>(ops,(if i=0 then(-1:Int)else(m7.getD (i-1) (0,[],[])).1),m7,(m7.length:Int),(i:Int),(c0,c1,c2,c3,c4,c5,c6),m0,m1,m2,m3,m4,m5,m6,m7)) () false m7.length (zWJ c0 (m0,m1,m2,m3,m4,m5,m6,m7) ops) rfl ?_ ?_ ?_ ?_
      ·simp only[Int.lt_irrefl,if_false]
      ·intro i hi
       have i1:(i:Int)<m7.length:=by omega
       have i0:(0:Int)≤i:=by omega
       have hF:zWJ c0 (m0,m1,m2,m3,m4,m5,m6,m7) ops i↔(0≤opI ops (m7.getD i (0,[],[])).1∧(0<i→(m7.getD (i-1) (0,[],[])).1<(m7.getD i (0,[],[])).1)∧((m7.getD i (0,[],[])).2.1.length:Int)=m4∧((m7.getD i (0,[],[])).2.2.length:Int)≤m3∧zBY c0 (m7.getD i (0,[],[])).2.1∧zBY c0 (m7.getD i (0,[],[])).2.2):=Iff.rfl
       have hff:fFrm (m7.getD i (0,[],[])):=(zAi (P:=fFrm) (0,[],[])).1 hfr i hi
       have hnx:∀y:Int,y=(m7.getD i (0,[],[])).1→y=(if i+1=0 then(-1:Int)else(m7.getD (i+1-1) (0,[],[])).1):=by
        intro y hy;rw[if_neg (by omega),Nat.add_sub_cancel];exact hy
       simp only[i1,i0,if_true,decide_true,zAE,Int.toNat_natCast]
       rw[zBT (0,[],[]) hi]
       rw[hF]
       generalize m7.getD i (0,[],[])=x at hff hnx
       have hpr:(x.1≤(if i=0 then(-1:Int)else(m7.getD (i-1) (0,[],[])).1))↔¬(0<i→(m7.getD (i-1) (0,[],[])).1<x.1):=by
        have:=hff.1.1
        by_cases h0:i=0
        ·rw[if_pos h0]
         exact iff_of_false (by omega) fun h=>h fun h'=>absurd h' (by omega)
        ·rw[if_neg h0]
         exact⟨fun h h'=>by have:=h' (by omega);omega,fun h=>Classical.byContradiction fun h'=>h fun _=>by omega⟩
       generalize (if i=0 then(-1:Int)else(m7.getD (i-1) (0,[],[])).1)=before at hpr
       have z1:F174 ((c0,c1,c2,c3,c4,c5,c6),x.2.1)=some (decide (zBY c0 x.2.1)):=q174 (c0,c1,c2,c3,c4,c5,c6) x.2.1 hp hok (by have:=hff.2.1.1;omega) fun k hk=>(hff.2.1.2 k hk).1
       have z2:F174 ((c0,c1,c2,c3,c4,c5,c6),x.2.2)=some (decide (zBY c0 x.2.2)):=q174 (c0,c1,c2,c3,c4,c5,c6) x.2.2 hp hok (by have:=hff.2.2.1;omega) fun k hk=>(hff.2.2.2 k hk).1
       simp only[q173 _ _ hol,z1,z2,zAB,zAT,zAF]
       by_cases k1:opI ops x.1<0
       ·rw[if_pos k1];exact .inr ⟨fun h=>by omega,rfl⟩
       rw[if_neg k1]
       by_cases k2:x.1≤before
       ·rw[if_pos k2];exact .inr ⟨fun h=>(hpr.1 k2) h.2.1,rfl⟩
       rw[if_neg k2]
       have k2':=Classical.not_not.1 fun h=>k2 (hpr.2 h)
       by_cases k3:(x.2.1.length:Int)=m4
       ·rw[if_pos k3]
        by_cases k4:m3<(x.2.2.length:Int)
        ·rw[if_pos k4];exact .inr ⟨fun h=>by omega,rfl⟩
        rw[if_neg k4]
        by_cases k5:zBY c0 x.2.1
        ·rw[if_pos k5]
         by_cases k6:zBY c0 x.2.2
         ·rw[if_pos k6]
          refine .inl ⟨⟨by omega,k2',k3,by omega,k5,k6⟩,?_⟩
          simp only[zAC]
          rw[wI (by omega) (by omega),←hnx x.1 rfl];rfl
         ·rw[if_neg k6];exact .inr ⟨fun h=>k6 h.2.2.2.2.2,rfl⟩
        ·rw[if_neg k5];exact .inr ⟨fun h=>k5 h.2.2.2.2.1,rfl⟩
       ·rw[if_neg k3];exact .inr ⟨fun h=>k3 h.2.2.1,rfl⟩
      ·intro h
       exact sd (by rw[hB];exact iff_of_true rfl ⟨rfl,by omega,h2,hins,htr,h⟩)
      ·intro h
       exact sd (by rw[hB];exact iff_of_false (by simp) fun h'=>h h'.2.2.2.2.2)
     ·intro htr
      exact sd (by rw[hB];exact iff_of_false (by simp) fun h=>htr ((zAi (P:=fun x=>zDc c0 m5.length ops x) (0,0,0,0)).1 h.2.2.2.2.1))
    ·intro hins
     exact sd (by rw[hB];exact iff_of_false (by simp) fun h=>hins ((zAi (P:=fun x=>zHF c0 m4 ops x) (0,0,0)).1 h.2.2.2.1))
   ·rw[if_neg h2,zAH]
    exact sd (by rw[hB];exact iff_of_false (by simp) fun h=>h2 h.2.2.1)
end Go.Proofs.YtdpapeledldifaaGreat
end
section
namespace Go.Stow
theorem chkV_2 {c:ClsP}(h:¬ zCv c.1 c.1.length 0=0):chkV c=2:=by unfold chkV;rw[if_pos h]
theorem chkV_3 {c:ClsP}(h1:zCv c.1 c.1.length 0=0)(h2:¬ zBx c):chkV c=3:=by
 unfold chkV;rw[if_neg (show ¬zCv c.1 c.1.length 0≠0 from fun h=>h h1),if_pos h2]
theorem chkV_4 {c:ClsP}(h1:zCv c.1 c.1.length 0=0)(h2:zBx c)(h3:¬ zEu c):chkV c=4:=by
 unfold chkV;rw[if_neg (show ¬zCv c.1 c.1.length 0≠0 from fun h=>h h1),if_neg (show ¬ ¬zBx c from fun h=>h h2),if_pos h3]
theorem chkV_5 {c:ClsP}(h1:zCv c.1 c.1.length 0=0)(h2:zBx c)(h3:zEu c)(h4:¬ zFo c):chkV c=5:=by
 unfold chkV;rw[if_neg (show ¬zCv c.1 c.1.length 0≠0 from fun h=>h h1),if_neg (show ¬ ¬zBx c from fun h=>h h2),if_neg (show ¬ ¬zEu c from fun h=>h h3),if_pos h4]
theorem chkV_6 {c:ClsP}(h1:zCv c.1 c.1.length 0=0)(h2:zBx c)(h3:zEu c)(h4:zFo c)(h5:¬ zJr c):chkV c=6:=by
 unfold chkV;rw[if_neg (show ¬zCv c.1 c.1.length 0≠0 from fun h=>h h1),if_neg (show ¬ ¬zBx c from fun h=>h h2),if_neg (show ¬ ¬zEu c from fun h=>h h3),if_neg (show ¬ ¬zFo c from fun h=>h h4),if_pos h5]
theorem chkV_0 {c:ClsP}(h1:zCv c.1 c.1.length 0=0)(h2:zBx c)(h3:zEu c)(h4:zFo c)(h5:zJr c):chkV c=0:=by
 unfold chkV;rw[if_neg (show ¬zCv c.1 c.1.length 0≠0 from fun h=>h h1),if_neg (show ¬ ¬zBx c from fun h=>h h2),if_neg (show ¬ ¬zEu c from fun h=>h h3),if_neg (show ¬ ¬zFo c from fun h=>h h4),if_neg (show ¬ ¬zJr c from fun h=>h h5)]
end Go.Stow
namespace Go.Proofs.YtdpapeledldifaaGreat
open Go Go.AM Go.TM Go.Stow
theorem zVs {c:Cls}(h:fCls c):bndP c.1:=by
 obtain⟨⟨f1,_⟩,h1,_⟩:=h
 exact⟨by omega,fun x hx=>by have:=(h1 x hx).2.1;omega⟩
theorem chk88 (c:Cls)(h:fCls c):F88 c=some (chkV c):=by
 have hp:=zVs h
 have hb:=fit_b h
 obtain⟨⟨f1,f2,f3,f4⟩,_,hfl,_,_,_,_,hms⟩:=h
 have hmf:∀m∈c.2.2.2.2.2.2,0≤m.1∧m.1≤255:=fun m hm=>(hms m hm).1
 have z15:=q15 c.1 hp f1
 have z175:=q175 c hp hfl (by omega)
 have z176:=q176 c hp hfl (by omega)
 have z177:=q177 c hp hfl (by omega) hmf
 have hbm:=hb.2.2.2.2
 obtain⟨c0,c1,c2,c3,c4,c5,c6⟩:=c
 simp only at f1 f2 f3 f4 hfl hmf hp z15 hbm
 simp only[F88,z15,z175,z176,z177,zAB,zAT,zAF]
 by_cases h1:zCv c0 c0.length 0=0
 ·rw[if_pos h1]
  by_cases h2:zBx (c0,c1,c2,c3,c4,c5,c6)
  ·rw[if_pos h2]
   by_cases h3:zEu (c0,c1,c2,c3,c4,c5,c6)
   ·rw[if_pos h3]
    by_cases h4:zFo (c0,c1,c2,c3,c4,c5,c6)
    ·rw[if_pos h4]
     refine zGJ (fun i=>((i:Int),c0,c1,c2,c3,c4,c5,c6)) () 6 c6.length (fun i=>¬has (c6.getD i mth0).1 8→zCX c0 (c6.getD i mth0)) rfl ?_ ?_ ?_ ?_
     ·simp only[Int.lt_irrefl,if_false]
     ·intro i hi
      have i1:(i:Int)<c6.length:=by omega
      have i0:(0:Int)≤i:=by omega
      simp only[i1,i0,if_true,decide_true,zAE,Int.toNat_natCast]
      rw[zBT mth0 hi]
      have hm1:=(zAi (P:=fun m:Mth=>0≤m.1∧m.1≤255) mth0).1 hmf i hi
      have hm2:=(zAi (P:=bMth) mth0).1 hbm i hi
      generalize c6.getD i mth0=x at hm1 hm2
      have z:F178 ((c0,c1,c2,c3,c4,c5,c6),x.1,x.2.1,x.2.2.1,x.2.2.2.1,x.2.2.2.2.1,x.2.2.2.2.2.1,x.2.2.2.2.2.2.1,x.2.2.2.2.2.2.2)=some (decide (¬has x.1 8→zCX c0 x)):=q178 (c0,c1,c2,c3,c4,c5,c6) x hp hm1 hm2
      rw[z]
      simp only[zAB,zAF]
      by_cases e:¬has x.1 8→zCX c0 x
      ·rw[if_pos e,wI (by omega) (by omega)];exact .inl ⟨e,rfl⟩
      ·rw[if_neg e];exact .inr ⟨e,rfl⟩
     ·intro hall
      rw[chkV_0 h1 h2 h3 h4 ((zAi (P:=fun m:Mth=>¬has m.1 8→zCX c0 m) mth0).2 hall)]
     ·intro hall
      rw[chkV_6 h1 h2 h3 h4 fun h:zJr _=>hall ((zAi (P:=fun m:Mth=>¬has m.1 8→zCX c0 m) mth0).1 h)]
    ·rw[if_neg h4,chkV_5 h1 h2 h3 h4]
   ·rw[if_neg h3,chkV_4 h1 h2 h3]
  ·rw[if_neg h2,chkV_3 h1 h2]
 ·rw[if_neg h1,chkV_2 h1]
theorem zMT {c:Cls}(h:put c≠[]):fCls c:=by
 refine Classical.byContradiction fun hn=>h (zFE fun hh=>hn hh.1)
theorem chk30 (c:Cls)(h:bCls c):F30 c=some (if put c=[]then 1 else chkV c):=by
 have z:=put22 c h
 have z88:=fun hp:put c≠[]=>chk88 c (zMT hp)
 obtain⟨c0,c1,c2,c3,c4,c5,c6⟩:=c
 simp only[F30,z,zAB,zAF]
 by_cases hp:put (c0,c1,c2,c3,c4,c5,c6)=[]
 ·rw[if_pos hp,if_pos hp]
 ·rw[if_neg hp,if_neg hp,z88 hp,zAB]
theorem chk29 (c:Cls)(h:bCls c):F29 c=some (if put c=[]then 1 else chkV c):=by
 have z:=put20 c h
 by_cases hpu:put c=[]
 ·obtain⟨c0,c1,c2,c3,c4,c5,c6⟩:=c
  simp only[F29,z,zAB,zAF]
  rw[if_pos hpu,if_pos hpu]
 have hf:=zMT hpu
 have hp:=zVs hf
 have hb:=h
 obtain⟨⟨f1,f2,f3,f4⟩,_,hfl,_,_,_,_,hms⟩:=hf
 have hmf:∀m∈c.2.2.2.2.2.2,0≤m.1∧m.1≤255:=fun m hm=>(hms m hm).1
 have z14:=q14 c.1 hp f1
 have z83:=fun hok=>q83 c hp hfl (by omega) hok
 have z84:=fun i hi=>q84 c i hp hfl (by omega) hi
 have z85:=fun i hi=>q85 c i hp hfl (by omega) hmf hi
 have hfi:=flds_iff c
 have hmi:=mths_iff c
 have hbm:=hb.2.2.2.2
 obtain⟨c0,c1,c2,c3,c4,c5,c6⟩:=c
 simp only at f1 f2 f3 f4 hfl hmf hp z14 hbm z84 z85 hfi hmi hms z83
 simp only[F29,z,z14,zAB,zAT,zAF]
 rw[if_neg hpu,if_neg hpu]
 by_cases h1:zCv c0 c0.length 0=0
 ·rw[if_pos h1]
  have hok:=zUo.1 h1
  rw[z83 hok,zAB,zAF]
  by_cases h2:zBx (c0,c1,c2,c3,c4,c5,c6)
  ·rw[if_pos h2]
   refine zGJ (fun i=>((c5.length:Int),(i:Int),c0,c1,c2,c3,c4,c5,c6)) (c0,c1,c2,c3,c4,c5,c6) 4 c5.length (zKq (c0,c1,c2,c3,c4,c5,c6)) rfl ?_ ?_ ?_ ?_
   ·simp only[Int.lt_irrefl,if_false]
   ·intro i hi
    have i1:(i:Int)<c5.length:=by omega
    simp only[i1,if_true,z84 i hi,zAB,zAF]
    by_cases e:zKq (c0,c1,c2,c3,c4,c5,c6) i
    ·rw[if_pos e,wI (by omega) (by omega)];exact .inl ⟨e,rfl⟩
    ·rw[if_neg e];exact .inr ⟨e,rfl⟩
   ·intro hall0
    simp only
    refine zGJ (fun i=>((c6.length:Int),(i:Int),c0,c1,c2,c3,c4,c5,c6)) (c0,c1,c2,c3,c4,c5,c6) 5 c6.length (zKp (c0,c1,c2,c3,c4,c5,c6)) rfl ?_ ?_ ?_ ?_
    ·simp only[Int.lt_irrefl,if_false]
    ·intro i hi
     have i1:(i:Int)<c6.length:=by omega
     simp only[i1,if_true,z85 i hi,zAB,zAF]
     by_cases e:zKp (c0,c1,c2,c3,c4,c5,c6) i
     ·rw[if_pos e,wI (by omega) (by omega)];exact .inl ⟨e,rfl⟩
     ·rw[if_neg e];exact .inr ⟨e,rfl⟩
    ·intro hall2
     simp only
     refine zGJ (fun i=>(c6,(c6.length:Int),(i:Int),c0,c1,c2,c3,c4,c5,c6)) () 6 c6.length (fun i=>¬has (c6.getD i mth0).1 8→zCX c0 (c6.getD i mth0)) rfl ?_ ?_ ?_ ?_
     ·simp only[Int.lt_irrefl,if_false]
     ·intro i hi
      have i1:(i:Int)<c6.length:=by omega
      have i0:(0:Int)≤i:=by omega
      simp only[i1,i0,if_true,decide_true,zAE,Int.toNat_natCast]
      rw[zBT mth0 hi]
      have hm1:=(zAi (P:=fun m:Mth=>0≤m.1∧m.1≤255) mth0).1 hmf i hi
      have hm2:=(zAi (P:=bMth) mth0).1 hbm i hi
      have hm3:=(zAi (P:=fMth) mth0).1 hms i hi
      have hm4:zBC c0 (c6.getD i mth0).2.2.1 Dsc:=(hall2 i hi).2.1
      generalize c6.getD i mth0=x at hm1 hm2 hm3 hm4
      have z87:F87 ((c0,c1,c2,c3,c4,c5,c6),x.1,x.2.1,x.2.2.1,x.2.2.2.1,x.2.2.2.2.1,x.2.2.2.2.2.1,x.2.2.2.2.2.2.1,x.2.2.2.2.2.2.2)=some (decide (zCX c0 x)):=q87 (c0,c1,c2,c3,c4,c5,c6) x hp hok hm1 hm2 hm3.2.2.2.2.2.1 hm3.2.2.2.2.2.2.2.2 hm4
      rw[q86 _ hm1.1 hm1.2,zAB,zAF]
      by_cases e1:has x.1 8
      ·rw[if_pos e1]
       simp only[zAC]
       rw[wI (by omega) (by omega)];exact .inl ⟨fun h=>absurd e1 h,rfl⟩
      ·rw[if_neg e1,z87,zAB,zAF]
       by_cases e:zCX c0 x
       ·rw[if_pos e]
        simp only[zAC]
        rw[wI (by omega) (by omega)];exact .inl ⟨fun _=>e,rfl⟩
       ·rw[if_neg e];exact .inr ⟨fun h=>e (h e1),rfl⟩
     ·intro hall
      rw[chkV_0 h1 h2 (hfi.1 hall0) (hmi.1 hall2) ((zAi (P:=fun m:Mth=>¬has m.1 8→zCX c0 m) mth0).2 hall)]
     ·intro hall
      rw[chkV_6 h1 h2 (hfi.1 hall0) (hmi.1 hall2) fun h:zJr _=>hall ((zAi (P:=fun m:Mth=>¬has m.1 8→zCX c0 m) mth0).1 h)]
    ·intro hall2
     rw[chkV_5 h1 h2 (hfi.1 hall0) fun h=>hall2 (hmi.2 h)]
   ·intro hall
    rw[chkV_4 h1 h2 fun h=>hall (hfi.2 h)]
  ·rw[if_neg h2,chkV_3 h1 h2]
 ·rw[if_neg h1,chkV_2 h1]
end Go.Proofs.YtdpapeledldifaaGreat
end
