/- Part 33 of the proof that the law FnRefs holds of every input; no condition. -/
import Derived.Test.YtdpapeledldifaaGreatX31
set_option autoImplicit true
set_option relaxedAutoImplicit true
set_option linter.all false
section
namespace Go.Stow
def cut (c:UInt8):List UInt8→Option (List UInt8×List UInt8)
 |[]=>none
 |x::l=>if x=c then some ([],l)else(cut c l).map fun p=>(x::p.1,p.2)
theorem zGu {c:UInt8}:∀{l a b:List UInt8},cut c l=some (a,b)→l=a++c::b∧c ∉ a
 |[],a,b,h=>by cases h
 | x::l,a,b,h=>by
   unfold cut at h
   by_cases hx:x=c
   ·rw[if_pos hx]at h
    simp only[zSe,Prod.mk.injEq]at h
    obtain⟨rfl,rfl⟩:=h
    exact⟨by rw[hx];rfl,by simp⟩
   ·rw[if_neg hx]at h
    cases hc:cut c l with
    |none=>rw[hc]at h;cases h
    | some p =>
      obtain⟨a',b'⟩:=p
      rw[hc]at h
      simp only[Option.map_some,zSe,Prod.mk.injEq]at h
      obtain⟨rfl,rfl⟩:=h
      obtain⟨h1,h2⟩:=zGu hc
      exact⟨by rw[h1];rfl,by simp only[List.mem_cons,not_or];exact⟨fun h=>hx h.symm,h2⟩⟩
theorem zIW {c:UInt8}:∀{l:List UInt8},cut c l=none↔c ∉ l
 |[]=>by simp[cut]
 | x::l=>by
   unfold cut
   by_cases hx:x=c
   ·rw[if_pos hx];simp[hx]
   ·rw[if_neg hx]
    simp only[Option.map_eq_none_iff,zIW,List.mem_cons,not_or]
    exact⟨fun h=>⟨fun h=>hx h.symm,h⟩,fun h=>h.2⟩
theorem cut_at {c:UInt8}:∀{a b:List UInt8},c ∉ a→cut c (a++c::b)=some (a,b)
 |[],b,_=>by simp[cut]
 | x::a,b,h=>by
   simp only[List.mem_cons,not_or]at h
   rw[List.cons_append]
   unfold cut
   rw[if_neg fun e=>h.1 e.symm,cut_at h.2]
   rfl
def let1 (b:UInt8):Prop:=(97≤b.toNat∧b.toNat≤122)∨(65≤b.toNat∧b.toNat≤90)
def dig1 (b:UInt8):Prop:=48≤b.toNat∧b.toNat≤57
def Nm (s:List UInt8):Prop:=(1≤s.length∧s.length≤8)∧∀i (h:i<s.length),let1 s[i]∨(i≠0∧dig1 s[i])
noncomputable instance (s:List UInt8):Decidable (Nm s):=Classical.propDecidable _
theorem Nm.mem {s:List UInt8}(h:Nm s){b:UInt8}(hb:b∈s):let1 b∨dig1 b:=by
 obtain⟨i,hi,rfl⟩:=List.mem_iff_getElem.1 hb
 rcases h.2 i hi with h|h
 ·exact .inl h
 ·exact .inr h.2
theorem Nm.no {s:List UInt8}(h:Nm s)(b:UInt8)(hb:¬ (let1 b∨dig1 b)):b ∉ s:=fun hm=>hb (h.mem hm)
theorem no41:¬(let1 41∨dig1 41):=by simp[let1,dig1]
theorem no59:¬(let1 59∨dig1 59):=by simp[let1,dig1]
theorem Nm.ne {s:List UInt8}(h:Nm s):s≠[]:=by rintro rfl;exact absurd h.1.1 (by simp)
theorem zHQ:¬Nm []:=fun h=>h.ne rfl
def Tok (t:List UInt8):Prop:=t=[73]∨∃n,Nm n∧t=76::(n++[59])
noncomputable instance (s:List UInt8):Decidable (Tok s):=Classical.propDecidable _
theorem Tok.no41 {t:List UInt8}(h:Tok t):(41:UInt8) ∉ t:=by
 rcases h with rfl|⟨n,hn,rfl⟩
 ·simp
 ·have:=hn.no 41 Stow.no41
  simp[this]
theorem zCC:¬Tok []:=by
 rintro(h|⟨n,_,h⟩)<;>cases h
noncomputable def one:List UInt8→Option (List UInt8×List UInt8)
 |[]=>none
 |x::r=>if x=73 then some ([73],r)else if x=76 then(cut 59 r).bind fun p=>if Nm p.1 then some (76::(p.1++[59]),p.2)else none else none
theorem zMc (x:UInt8)(r:List UInt8):one (x::r)=if x=73 then some ([73],r)else if x=76 then(cut 59 r).bind fun p=>if Nm p.1 then some (76::(p.1++[59]),p.2)else none else none:=rfl
theorem zCA {l t r:List UInt8}(h:one l=some (t,r)):l=t++r∧Tok t:=by
 cases l with
 |nil=>cases h
 | cons x l =>
   rw[zMc]at h
   by_cases h1:x=73
   ·rw[if_pos h1]at h
    simp only[zSe,Prod.mk.injEq]at h
    obtain⟨rfl,rfl⟩:=h
    exact⟨by rw[h1];rfl,.inl rfl⟩
   ·rw[if_neg h1]at h
    by_cases h2:x=76
    ·rw[if_pos h2]at h
     cases hc:cut 59 l with
     |none=>rw[hc]at h;cases h
     | some p =>
       obtain⟨n,b⟩:=p
       rw[hc,Option.bind_some]at h
       by_cases hn:Nm n
       ·rw[if_pos hn]at h
        simp only[zSe,Prod.mk.injEq]at h
        obtain⟨rfl,rfl⟩:=h
        obtain⟨e,_⟩:=zGu hc
        exact⟨by rw[h2,e];simp,.inr ⟨n,hn,rfl⟩⟩
       ·rw[if_neg hn]at h;cases h
    ·rw[if_neg h2]at h;cases h
theorem zMa {t:List UInt8}(h:Tok t)(r:List UInt8):one (t++r)=some (t,r):=by
 rcases h with rfl|⟨n,hn,rfl⟩
 ·rfl
 ·rw[List.cons_append,zMc,if_neg (by decide),if_pos rfl]
  have:(n++[59])++r=n++59::r:=by simp
  rw[this,cut_at (hn.no 59 no59),Option.bind_some,if_pos hn]
theorem zMb {l:List UInt8}:one l=none↔∀t r,l=t++r→¬Tok t:=by
 constructor
 ·intro h t r e ht
  rw[e,zMa ht]at h
  cases h
 ·intro h
  cases ho:one l with
  |none=>rfl
  | some p =>
    obtain⟨t,r⟩:=p
    obtain⟨h1,h2⟩:=zCA ho
    exact absurd h2 (h t r h1)
theorem zUG {s:List UInt8}:Tok s↔one s=some (s,[]):=by
 constructor
 ·intro h
  have:=zMa h []
  rwa[List.append_nil]at this
 ·intro h
  exact(zCA h).2
noncomputable def more:Nat→List UInt8→Option (List (List UInt8)×List UInt8)
 |_,[]=>none
 |0,x::l=>if x=41 then some ([],l)else none
 |k+1,x::l=>if x=41 then some ([],l)else(one (x::l)).bind fun p=>(more k p.2).map fun q=>(p.1::q.1,q.2)
noncomputable def mr:Nat→List UInt8→Option (List (List UInt8))
 |_,[]=>some []
 |0,_::_=>none
 |k+1,x::l=>(one (x::l)).bind fun p=>(mr k p.2).map fun q=>p.1::q
theorem zFI (k:Nat)(x:UInt8)(l:List UInt8):more (k+1) (x::l)=if x=41 then some ([],l)else(one (x::l)).bind fun p=>(more k p.2).map fun q=>(p.1::q.1,q.2):=rfl
theorem zVJ (k:Nat)(x:UInt8)(l:List UInt8):mr (k+1) (x::l)=(one (x::l)).bind fun p=>(mr k p.2).map fun q=>p.1::q:=rfl
theorem one_app {l b:List UInt8}(h:(41:UInt8) ∉ l)(hl:l≠[]):one (l++41::b)=(one l).map fun p=>(p.1,p.2++41::b):=by
 cases ho:one l with
 | some p =>
   obtain⟨t,r⟩:=p
   obtain⟨h1,h2⟩:=zCA ho
   rw[h1,List.append_assoc,zMa h2]
   rfl
 | none =>
   rw[Option.map_none,zMb]
   intro t r e ht
   have h41:=ht.no41
   rw[zMb]at ho
   have hle:t.length≤l.length:=by
    refine Nat.le_of_not_lt fun hlt=>h41 ?_
    have e2:(l++41::b)[l.length]? = (t++r)[l.length]?:=by rw[e]
    rw[List.getElem?_append_right (Nat.le_refl _),Nat.sub_self,List.getElem?_append_left hlt]at e2
    exact List.mem_of_getElem? e2.symm
   have e3:l=t++l.drop t.length:=by
    have e4:=congrArg (List.take t.length) e
    rw[List.take_append_of_le_length hle,List.take_append_of_le_length (Nat.le_refl _),List.take_length]at e4
    rw[←e4,List.length_take,Nat.min_eq_left hle,List.take_append_drop]
   exact ho t _ e3 ht
theorem zSI:∀(k:Nat) (l b:List UInt8),(41:UInt8) ∉ l→more k (l++41::b)=(mr k l).map fun q=>(q,b)
 |0,[],b,_=>by simp[more,mr]
 |_+1,[],b,_=>by simp[more,mr]
 | 0,x::l,b,h=>by
   have:x≠41:=fun e=>h (by simp[e])
   simp[more,mr,this]
 | k+1,x::l,b,h=>by
   have hx:x≠41:=fun e=>h (by simp[e])
   have:=one_app (b:=b) h (by simp)
   rw[List.cons_append]at this ⊢
   rw[zFI,zVJ,if_neg hx,this]
   cases ho:one (x::l)with
   |none=>rfl
   | some p =>
     obtain⟨t,r⟩:=p
     obtain⟨h1,h2⟩:=zCA ho
     have hr:(41:UInt8) ∉ r:=fun hm=>h (by rw[h1];simp[hm])
     show(more k (r++41::b)).map _=((mr k r).map _).map _
     rw[zSI k r b hr]
     cases mr k r<;>rfl
theorem zOg:∀(k:Nat) (l:List UInt8),(41:UInt8) ∉ l→more k l=none
 |0,[],_=>by simp[more]
 |_+1,[],_=>by simp[more]
 | 0,x::l,h=>by
   have:x≠41:=fun e=>h (by simp[e])
   simp[more,this]
 | k+1,x::l,h=>by
   have hx:x≠41:=fun e=>h (by simp[e])
   rw[zFI,if_neg hx]
   cases ho:one (x::l)with
   |none=>rfl
   | some p =>
     obtain⟨t,r⟩:=p
     obtain⟨h1,h2⟩:=zCA ho
     have hr:(41:UInt8) ∉ r:=fun hm=>h (by rw[h1];simp[hm])
     simp only[Option.bind_some,zOg k r hr,Option.map_none]
noncomputable def dsc (s:List UInt8):List (List UInt8)×List UInt8×Bool :=
 match s with
 |[]=>([],[],false)
 | x::l=>if x=40 then
   match more 4 l with
   |none=>([],[],false)
   |some (ts,back)=>if back=[86]∨Tok back then(ts,back,true)else([],[],false)
   else([],[],false)
def Dsc (s:List UInt8):Prop:=(dsc s).2.2=true
noncomputable instance (s:List UInt8):Decidable (Dsc s):=Classical.propDecidable _
theorem zEc:¬Dsc []:=by simp[Dsc,dsc]
abbrev Ent:=Int×List UInt8×Int×Int
def zAU (p:List Ent)(i:Int):Ent:=if 1≤i∧i≤p.length then p[(i-1).toNat]?.getD (0,[],0,0)else(0,[],0,0)
def zBC (p:List Ent)(i:Int)(Q:List UInt8→Prop):Prop:=(zAU p i).1=1∧Q (zAU p i).2.1
noncomputable instance (p:List Ent)(i:Int)(Q:List UInt8→Prop):Decidable (zBC p i Q):=Classical.propDecidable _
def zBR (p:List Ent)(i:Int):Prop:=(zAU p i).1=2∧zBC p (zAU p i).2.2.1 Nm
noncomputable instance (p:List Ent)(i:Int):Decidable (zBR p i):=Classical.propDecidable _
noncomputable def clsN (p:List Ent)(i:Int):List UInt8:=if zBR p i then(zAU p (zAU p i).2.2.1).2.1 else []
def txt (p:List Ent)(i:Int):List UInt8:=if(zAU p i).1=1 then(zAU p i).2.1 else []
theorem zDZ {p:List Ent}{i:Int}:clsN p i≠[]↔zBR p i:=by
 unfold clsN
 constructor
 ·intro h
  by_cases hc:zBR p i
  ·exact hc
  ·rw[if_neg hc]at h;exact absurd rfl h
 ·intro h
  rw[if_pos h]
  exact h.2.2.ne
theorem zHc {p:List Ent}{i:Int}{Q:List UInt8→Prop}(h0:¬ Q []):Q (txt p i)↔zBC p i Q:=by
 unfold txt zBC
 by_cases h:(zAU p i).1=1
 ·rw[if_pos h];simp[h]
 ·rw[if_neg h];simp[h,h0]
def zNO (s:List UInt8):Prop:=Tok s∨Dsc s
theorem zMe:¬zNO []:=by
 rintro(h|h)
 ·exact zCC h
 ·exact zEc h
def zEA (p:List Ent)(x:Ent):Prop :=
 if x.1=1 then x.2.2.1=0∧x.2.2.2=0∧(Nm x.2.1∨zNO x.2.1)
 else if x.1=2 then x.2.1=[]∧x.2.2.2=0∧zBC p x.2.2.1 Nm
 else if x.1=3 then x.2.1=[]∧zBC p x.2.2.1 Nm∧zBC p x.2.2.2 zNO
 else if x.1=4 then x.2.1=[]∧zBR p x.2.2.1∧(zAU p x.2.2.2).1=3∧zBC p (zAU p x.2.2.2).2.2.2 Tok
 else if x.1=5∨x.1=6 then x.2.1=[]∧zBR p x.2.2.1∧(zAU p x.2.2.2).1=3∧zBC p (zAU p x.2.2.2).2.2.2 Dsc
 else False
noncomputable instance (p:List Ent)(x:Ent):Decidable (zEA p x):=Classical.propDecidable _
theorem zFO {p:List Ent}{i:Nat}(h:i<p.length):zAU p ((i:Int)+1)=p[i]:=by
 unfold zAU
 rw[if_pos ⟨by omega,by omega⟩,show((i:Int)+1-1).toNat=i by omega,List.getElem?_eq_getElem h]
 rfl
theorem zVv {p:List Ent}{i:Int}(h:(zAU p i).1≠0):∃k,∃_:k<p.length,zAU p i=p[k]:=by
 unfold zAU at h ⊢
 by_cases hi:1≤i∧i≤p.length
 ·rw[if_pos hi]at h ⊢
  exact⟨(i-1).toNat,by omega,by rw[List.getElem?_eq_getElem (by omega)];rfl⟩
 ·rw[if_neg hi]at h;exact absurd rfl h
def zFn (p:List Ent):Prop:=∀i (h:i<p.length),zEA p p[i]
noncomputable def zCv (p:List Ent):Nat→Nat→Int
 |0,_=>0
 |m+1,i=>if h:i<p.length then if zEA p p[i]then zCv p m (i+1)else(i:Int)+1 else 0
theorem zRz {p:List Ent}:∀(m i:Nat),i+m=p.length→(zCv p m i=0↔∀j,i≤j→∀h:j<p.length,zEA p p[j])
 | 0,i,hi=>by
   constructor
   ·intro _ j h1 h2;omega
   ·intro _;rfl
 | m+1,i,hi=>by
   have h:i<p.length:=by omega
   unfold zCv
   rw[dif_pos h]
   by_cases he:zEA p p[i]
   ·rw[if_pos he,zRz m (i+1) (by omega)]
    constructor
    ·intro hh j h1 h2
     by_cases hj:j=i
     ·subst hj;exact he
     ·exact hh j (by omega) h2
    ·intro hh j h1 h2;exact hh j (by omega) h2
   ·rw[if_neg he]
    constructor
    ·intro hh;omega
    ·intro hh;exact absurd (hh i (Nat.le_refl _) h) he
theorem zUo {p:List Ent}:zCv p p.length 0=0↔zFn p:=by
 rw[zRz p.length 0 (by omega)]
 exact⟨fun h j hj=>h j (by omega) hj,fun h j _ hj=>h j hj⟩
theorem zFn.cls {p:List Ent}(h:zFn p){i:Int}:zBR p i↔(zAU p i).1=2:=by
 constructor
 ·exact fun h=>h.1
 ·intro h2
  obtain⟨k,hk,e⟩:=zVv (p:=p) (i:=i) (by omega)
  have:=h k hk
  rw[←e]at this
  unfold zEA at this
  rw[if_neg (by omega),if_pos h2]at this
  exact⟨h2,this.2.2⟩
def zAl (p:List Ent)(i:Int):List UInt8:=if(zAU p i).1=2 then(zAU p (zAU p i).2.2.1).2.1 else(zAU p i).2.1
theorem zCO {p:List Ent}{i:Int}(h:zBR p i):zAl p i=clsN p i:=by
 unfold zAl clsN
 rw[if_pos h.1,if_pos h]
theorem zAu {p:List Ent}{i:Int}(h:(zAU p i).1=1):zAl p i=txt p i:=by
 unfold zAl txt
 rw[if_neg (by omega),if_pos h]
abbrev KndP:=Int×Int
abbrev TrpP:=Int×Int×Int×Int
abbrev FrmP:=Int×List KndP×List KndP
abbrev FldP:=Int×Int×Int
abbrev MthP:=Int×Int×Int×Int×Int×List UInt8×List TrpP×List FrmP
abbrev ClsP:=List Ent×Int×Int×Int×List Int×List FldP×List MthP
def has (f k:Int):Prop:=f / k % 2=1
instance (f k:Int):Decidable (has f k):=inferInstanceAs (Decidable (_=_))
def zBx (c:ClsP):Prop :=
 zBR c.1 c.2.2.1∧zBR c.1 c.2.2.2.1∧clsN c.1 c.2.2.2.1≠clsN c.1 c.2.2.1∧(0≤c.2.1∧c.2.1≤7) ∧
 (∀i,i<c.2.2.2.2.1.length→zBR c.1 (c.2.2.2.2.1.getD i 0)∧∀k,k<i→clsN c.1 (c.2.2.2.2.1.getD k 0)≠clsN c.1 (c.2.2.2.2.1.getD i 0)) ∧
 ¬(has c.2.1 2∧has c.2.1 4)∧(has c.2.1 1→has c.2.1 4∧clsN c.1 c.2.2.2.1=[79,98,106])
noncomputable instance (c:ClsP):Decidable (zBx c):=Classical.propDecidable _
def FldOk (c:ClsP)(i:Nat):Prop :=
 let f:=c.2.2.2.2.2.1.getD i (0,0,0)
 zBC c.1 f.2.1 Nm∧zBC c.1 f.2.2 Tok∧(0≤f.1∧f.1≤3)∧(has c.2.1 1→f.1=1)∧∀k,k<i→txt c.1 (c.2.2.2.2.2.1.getD k (0,0,0)).2.1≠txt c.1 f.2.1
def zEu (c:ClsP):Prop:=∀i,i<c.2.2.2.2.2.1.length→FldOk c i
noncomputable instance (c:ClsP):Decidable (zEu c):=Classical.propDecidable _
def mth0:MthP:=(0,0,0,0,0,[],[],[])
def zEp (c:ClsP)(m:MthP):Prop :=
 (0≤m.1∧m.1≤15)∧(txt c.1 m.2.1=[98,101,103,105,110]→m.1=1∧txt c.1 m.2.2.1=[40,41,86]) ∧
 (has m.1 8→m.1=8∧has c.2.1 4)∧(¬has m.1 8→has c.2.1 1→m.1=1)
noncomputable instance (c:ClsP)(m:MthP):Decidable (zEp c m):=Classical.propDecidable _
def MthOk (c:ClsP)(i:Nat):Prop :=
 let m:=c.2.2.2.2.2.2.getD i mth0
 zBC c.1 m.2.1 Nm∧zBC c.1 m.2.2.1 Dsc∧zEp c m ∧
 ∀k,k<i→¬(txt c.1 (c.2.2.2.2.2.2.getD k mth0).2.1=txt c.1 m.2.1∧txt c.1 (c.2.2.2.2.2.2.getD k mth0).2.2.1=txt c.1 m.2.2.1)
def zFo (c:ClsP):Prop:=∀i,i<c.2.2.2.2.2.2.length→MthOk c i
noncomputable instance (c:ClsP):Decidable (zFo c):=Classical.propDecidable _
def argN (op:Int):Int:=if op=1 then 2 else if 3≤op∧op≤6 then 1 else if 14≤op∧op≤29 then 2 else if 0≤op∧op≤34 then 0 else -1
def numB (op:Int):List UInt8→Int
 |[]=>0
 |[a]=>a.toNat
 |a::b::_=>if op=1∧32768≤(a.toNat:Int)*256+b.toNat then(a.toNat:Int)*256+b.toNat-65536 else(a.toNat:Int)*256+b.toNat
abbrev InsP:=Int×Int×Int
def opsN:Nat→Int→List UInt8→Option (List InsP)
 |_,_,[]=>some []
 |0,_,_::_=>none
 | k+1,a,x::l=>if argN x.toNat<0∨(l.length:Int)<argN x.toNat then none
   else(opsN k (a+1+argN x.toNat) (l.drop (argN x.toNat).toNat)).map fun r=>(a,(x.toNat:Int),numB x.toNat (l.take (argN x.toNat).toNat))::r
def opsV (s:List UInt8):List InsP×Bool:=match opsN s.length 0 s with
 |some (x::r)=>(x::r,true)
 |_=>([],false)
def opI (l:List InsP)(a:Int):Int:=match l.findIdx? (fun x=>decide (x.1=a))with
 |some j=>j
 |none=>-1
def want (op:Int):Int:=if op=19∨op=28∨op=29 then 2 else if 20≤op∧op≤23 then 4 else if 24≤op∧op≤26 then 5 else if op=27 then 6 else 0
def zHF (p:List Ent)(locals:Int)(l:List InsP)(x:InsP):Prop :=
 (3≤x.2.1∧x.2.1≤6→x.2.2<locals)∧(14≤x.2.1∧x.2.1≤18→0≤opI l x.2.2)∧(want x.2.1≠0→(zAU p x.2.2).1=want x.2.1)
noncomputable instance (p:List Ent)(locals:Int)(l:List InsP)(x:InsP):Decidable (zHF p locals l x):=Classical.propDecidable _
def zDc (p:List Ent)(n:Int)(l:List InsP)(t:TrpP):Prop :=
 t.1<t.2.1∧0≤opI l t.1∧(t.2.1=n∨0≤opI l t.2.1)∧0≤opI l t.2.2.1∧(t.2.2.2=0∨zBR p t.2.2.2)
noncomputable instance (p:List Ent)(n:Int)(l:List InsP)(t:TrpP):Decidable (zDc p n l t):=Classical.propDecidable _
def zJq (p:List Ent)(k:KndP):Prop:=(0≤k.1∧k.1≤3)∧(k.1=3→zBR p k.2)∧(k.1≠3→k.2=0)
noncomputable instance (p:List Ent)(k:KndP):Decidable (zJq p k):=Classical.propDecidable _
def zBY (p:List Ent)(l:List KndP):Prop:=∀k∈l,zJq p k
noncomputable instance (p:List Ent)(l:List KndP):Decidable (zBY p l):=Classical.propDecidable _
def zWJ (p:List Ent)(m:MthP)(l:List InsP)(i:Nat):Prop :=
 let f:=m.2.2.2.2.2.2.2.getD i (0,[],[])
 0≤opI l f.1∧(0<i→(m.2.2.2.2.2.2.2.getD (i-1) (0,[],[])).1<f.1)∧(f.2.1.length:Int)=m.2.2.2.2.1∧(f.2.2.length:Int)≤m.2.2.2.1∧zBY p f.2.1∧zBY p f.2.2
def zPU (p:List Ent)(m:MthP)(l:List InsP):Prop:=∀i,i<m.2.2.2.2.2.2.2.length→zWJ p m l i
noncomputable instance (p:List Ent)(m:MthP)(l:List InsP):Decidable (zPU p m l):=Classical.propDecidable _
noncomputable def takes (p:List Ent)(m:MthP):Int:=if has m.1 1 then((dsc (txt p m.2.2.1)).1.length:Int)else(dsc (txt p m.2.2.1)).1.length+1
def zCX (p:List Ent)(m:MthP):Prop :=
 (opsV m.2.2.2.2.2.1).2=true∧m.2.2.2.1≤8∧(takes p m≤m.2.2.2.2.1∧m.2.2.2.2.1≤8) ∧
 (∀x∈(opsV m.2.2.2.2.2.1).1,zHF p m.2.2.2.2.1 (opsV m.2.2.2.2.2.1).1 x)∧(∀t∈m.2.2.2.2.2.2.1,zDc p m.2.2.2.2.2.1.length (opsV m.2.2.2.2.2.1).1 t)∧zPU p m (opsV m.2.2.2.2.2.1).1
noncomputable instance (p:List Ent)(m:MthP):Decidable (zCX p m):=Classical.propDecidable _
def zJr (c:ClsP):Prop:=∀m∈c.2.2.2.2.2.2,¬has m.1 8→zCX c.1 m
noncomputable instance (c:ClsP):Decidable (zJr c):=Classical.propDecidable _
noncomputable def chkV (c:ClsP):Int:=if zCv c.1 c.1.length 0≠0 then 2 else if ¬zBx c then 3 else if ¬zEu c then 4 else if ¬zFo c then 5 else if ¬zJr c then 6 else 0
end Go.Stow
end
section
namespace Go.TM
open Go.AM
section
variable {α X Y R:Type}
theorem zHD {f:X→Option (X⊕(Y⊕R))}(mk:Nat→X)(fin:Y)(no:R)(n:Nat)(p:Nat→Prop){x0:X}(hx:x0=mk 0){k:Y→Option R}{r:Option R}
  (hend:f (mk n)=some (.inr (.inl fin)))
  (hy:∀i,i<n→p i→f (mk i)=some (.inl (mk (i+1))))
  (hn:∀i,i<n→¬p i→f (mk i)=some (.inr (.inr no)))
  (hk:(∀i,i<n→p i)→k fin=r) (hno:¬(∀i,i<n→p i)→some no=r):bindE (zAG f x0) k=r:=by
 have key:∀(m i:Nat),i+m=n→((∀j,i≤j→j<n→p j)→zAG f (mk i)=some (.inl fin))∧(¬(∀j,i≤j→j<n→p j)→zAG f (mk i)=some (.inr no)):=by
  intro m
  induction m with
  | zero =>
    intro i hi
    have:i=n:=by omega
    subst this
    rw[zAf,hend]
    exact⟨fun _=>rfl,fun h=>absurd (fun j h1 h2=>absurd h2 (by omega)) h⟩
  | succ m ih =>
    intro i hi
    obtain⟨i1,i2⟩:=ih (i+1) (by omega)
    rw[zAf]
    by_cases hp:p i
    ·rw[hy i (by omega) hp]
     refine⟨fun h=>i1 fun j h1 h2=>h j (by omega) h2,fun h=>i2 fun h'=>h fun j h1 h2=>?_⟩
     by_cases hj:j=i
     ·rw[hj];exact hp
     ·exact h' j (by omega) h2
    ·rw[hn i (by omega) hp]
     exact⟨fun h=>absurd (h i (Nat.le_refl _) (by omega)) hp,fun _=>rfl⟩
 obtain⟨k1,k2⟩:=key n 0 (by omega)
 rw[hx]
 by_cases h:∀i,i<n→p i
 ·rw[k1 fun j _ h2=>h j h2,zAC,hk h]
 ·rw[k2 fun h'=>h fun i hi=>h' i (by omega) hi,zAH,hno h]
theorem zJc {f:X→Option (X⊕(Y⊕R))}(mk:Nat→X)(fin:Y)(l:List α)(p:α→Bool)(g:Nat→R){x0:X}(hx:x0=mk 0){k:Y→Option R}
  (hend:f (mk l.length)=some (.inr (.inl fin)))
  (hstep:∀i (h:i<l.length),f (mk i)=if p l[i]=true then some (.inr (.inr (g i)))else some (.inl (mk (i+1)))) :
  bindE (zAG f x0) k=match l.findIdx? p with|some j=>some (g j)|none=>k fin:=by
 have key:∀(m i:Nat),i+m=l.length→zAG f (mk i)=some (match(l.drop i).findIdx? p with|some j=>.inr (g (i+j))|none=>.inl fin):=by
  intro m
  induction m with
  | zero =>
    intro i hi
    have:i=l.length:=by omega
    subst this
    rw[zAf,hend,List.drop_eq_nil_of_le (Nat.le_refl _)]
    rfl
  | succ m ih =>
    intro i hi
    have h:i<l.length:=by omega
    rw[zAf,hstep i h,zBX h,List.findIdx?_cons]
    by_cases hp:p l[i]=true
    ·rw[if_pos hp,if_pos hp]
     rfl
    ·rw[if_neg hp,if_neg hp]
     simp only
     rw[ih (i+1) (by omega)]
     cases (l.drop (i+1)).findIdx? p with
     |none=>rfl
     |some j=>simp only[Option.map_some,zSe];rw[show i+1+j=i+(j+1)by omega]
 rw[hx,key l.length 0 (by omega),List.drop_zero]
 cases l.findIdx? p with
 |none=>rfl
 |some j=>simp only[zAH,Nat.zero_add]
end
end Go.TM
end
section
namespace Go.Stow
instance (b:UInt8):Decidable (let1 b):=inferInstanceAs (Decidable (_∨_))
instance (b:UInt8):Decidable (dig1 b):=inferInstanceAs (Decidable (_∧_))
theorem zSb {c:UInt8}:∀l:List UInt8,cut c l=match l.findIdx? (fun x=>decide (x=c))with|some j=>some (l.take j,l.drop (j+1))|none=>none
 |[]=>rfl
 | x::l=>by
   rw[List.findIdx?_cons]
   unfold cut
   by_cases hx:x=c
   ·simp[hx]
   ·rw[if_neg hx,if_neg (by simpa using hx),zSb l]
    cases l.findIdx? (fun x=>decide (x=c))<;>rfl
theorem zIS {c:UInt8}:∀{a b:List UInt8},c ∉ a→Lib.indexByte (a++c::b) c=a.length
 |[],b,_=>by simp[Lib.indexByte]
 | x::a,b,h=>by
   simp only[List.mem_cons,not_or]at h
   have:=zIS (b:=b) h.2
   have hx:(x==c)=false:=by simpa using fun e:x=c=>h.1 e.symm
   have h1:(((a.length:Int)) == -1)=false:=by simp<;>omega
   simp only[List.cons_append,Lib.indexByte,hx,Bool.false_eq_true,if_false,this,List.length_cons,h1]
   omega
theorem zMp {c:UInt8}:∀{l:List UInt8},c ∉ l→Lib.indexByte l c = -1
 |[],_=>rfl
 | x::l,h=>by
   simp only[List.mem_cons,not_or]at h
   have hx:(x==c)=false:=by simpa using fun e:x=c=>h.1 e.symm
   simp only[Lib.indexByte,hx,Bool.false_eq_true,if_false,zMp h.2,beq_self_eq_true,if_true]
end Go.Stow
namespace Go.TM
open Go.AM
section
variable {X Y R:Type}
theorem zDd {f:X→Option (X⊕Y)}{x x':X}(h:f x=some (.inl x')):zAG f x=zAG f x':=by rw[zAf,h]
theorem zAy {f:X→Option (X⊕Y)}{x:X}{y:Y}(h:f x=some (.inr y)):zAG f x=some y:=by rw[zAf,h]
end
end Go.TM
namespace Go.Proofs.YtdpapeledldifaaGreat
open Go Go.AM Go.TM Go.Stow
theorem q107 (n a b:Int):F107 (n,a,b)=some (decide (a≤n∧n≤b)):=by
 simp only[F107,zAF]
 by_cases h:a≤n<;>simp[h]
theorem q89 (n a b:Int):F89 (n,a,b)=some (decide (a≤n∧n≤b)):=q107 n a b
theorem q212 (b:UInt8):F212 (b.toNat:Int)=some (decide (let1 b)):=by
 simp only[F212,zAF]
 repeat' split
 all_goals
  rw[zSe,Bool.eq_iff_iff,decide_eq_true_iff (p:=let1 b)]
  simp only[let1,zDe,true_iff,Bool.false_eq_true,false_iff]
  omega
theorem n127 (s:List UInt8)(hl:s.length≤1048576):F127 s=some (decide (Nm s)):=by
 simp only[F127]
 refine zHD (fun i=>(s,(i:Int))) s false s.length (fun i=>∀h:i<s.length,let1 s[i]∨(i≠0∧dig1 s[i])) rfl ?_ ?_ ?_ ?_ ?_
 ·simp only[Int.lt_irrefl,decide_false,zAI]
 ·intro i h hp
  have hp:=hp h
  have hi:(i:Int)<s.length:=by omega
  have h0:(0:Int)≤i:=by omega
  simp (discharger:=omega) only[hi,h0,decide_true,zAJ,zAE,Int.toNat_natCast,zAN,q212,zAB,zAT,zAF]
  by_cases hq:let1 s[i]
  ·simp (discharger:=omega) only[hq,if_true,zAC,wI];rfl
  ·have hd:=hp.resolve_left hq
   have hi0:¬(i:Int)=0:=by omega
   have hd1:¬(s[i].toNat:Int)<48:=by have:=hd.2.1;omega
   have hd2:¬(57:Int)<s[i].toNat:=by have:=hd.2.2;omega
   simp (discharger:=omega) only[hq,if_false,hi0,hd1,hd2,zAC,wI];rfl
 ·intro i h hp
  have hp:¬(let1 s[i]∨(i≠0∧dig1 s[i])):=fun e=>hp fun _=>e
  have hi:(i:Int)<s.length:=by omega
  have h0:(0:Int)≤i:=by omega
  simp (discharger:=omega) only[hi,h0,decide_true,zAJ,zAE,Int.toNat_natCast,zAN,q212,zAB,zAT,zAF]
  have hq:¬let1 s[i]:=fun e=>hp (.inl e)
  simp only[hq,if_false]
  by_cases hi0:(i:Int)=0
  ·simp only[hi0,if_true,zAH]
  ·by_cases hd1:(s[i].toNat:Int)<48
   ·simp only[hi0,hd1,if_true,if_false,zAH]
   ·by_cases hd2:(57:Int)<s[i].toNat
    ·simp only[hi0,hd1,hd2,if_true,if_false,zAH]
    ·exact absurd (.inr ⟨by omega,by omega,by omega⟩) hp
 ·intro h
  rw[q107,zAB]
  congr 1
  rw[decide_eq_decide]
  exact⟨fun⟨h1,h2⟩=>⟨⟨by omega,by omega⟩,fun i hi=>h i hi hi⟩,fun hn=>⟨by have:=hn.1;omega,by have:=hn.1;omega⟩⟩
 ·intro h
  rw[eq_comm]
  simp only[zSe,decide_eq_false_iff_not]
  exact fun hn=>h fun i _ hi=>hn.2 i hi
theorem n48 (s:List UInt8)(hl:s.length≤1048576):F48 s=some (decide (Nm s)):=by
 simp only[F48,q89,zAB,zAT,zAF]
 by_cases hr:(1:Int)≤s.length∧(s.length:Int)≤8
 ·rw[if_pos hr]
  have h0:0<s.length:=by omega
  simp (discharger:=omega) only[zAN]
  by_cases hd:(48:Int)≤s[0].toNat∧(s[0].toNat:Int)≤57
  ·simp only[hd.1,hd.2,if_true,zAH,zSe,eq_comm (a:=false),decide_eq_false_iff_not]
   intro hn
   have:=hn.2 0 h0
   simp only[let1,dig1]at this
   omega
  ·rw[show(if(48:Int)≤s[0].toNat then if(s[0].toNat:Int)≤57 then some (Sum.inr false)else some (Sum.inl s)else some (Sum.inl s):Option (List UInt8⊕Bool))=some (Sum.inl s)by
    split
    ·split
     ·rename_i a b;exact absurd ⟨a,b⟩ hd
     ·rfl
    ·rfl]
   rw[zAC]
   refine zHD (fun i=>(s,(s.length:Int),(i:Int))) () false s.length (fun i=>∀h:i<s.length,let1 s[i]∨dig1 s[i]) rfl ?_ ?_ ?_ ?_ ?_
   ·simp only[Int.lt_irrefl,if_false]
   ·intro i h hp
    have hp:=hp h
    have hi:(i:Int)<s.length:=by omega
    have hi0:(0:Int)≤i:=by omega
    have hw:IntKind.wrap .i64 ((i:Int)+1)=((i+1:Nat):Int):=by rw[wI (by omega) (by omega)];omega
    simp (discharger:=omega) only[hi,hi0,decide_true,if_true,zAE,Int.toNat_natCast,zAN,zAq,zAC,zAH,hw]
    generalize s[i]=b at hp
    simp only[let1,dig1]at hp
    repeat' split
    all_goals first|rfl|(exfalso;omega)
   ·intro i h hp
    have hp:¬(let1 s[i]∨dig1 s[i]):=fun e=>hp fun _=>e
    have hi:(i:Int)<s.length:=by omega
    have hi0:(0:Int)≤i:=by omega
    simp (discharger:=omega) only[hi,hi0,decide_true,if_true,zAE,Int.toNat_natCast,zAN,zAq,zAC,zAH]
    generalize s[i]=b at hp
    simp only[let1,dig1]at hp
    repeat' split
    all_goals first|rfl|(exfalso;omega)
   ·intro h
    rw[eq_comm]
    simp only[zSe,zDe]
    refine⟨⟨by omega,by omega⟩,fun i hi=>?_⟩
    rcases h i hi hi with hq|hq
    ·exact .inl hq
    ·by_cases h00:i=0
     ·subst h00;exact absurd ⟨by have:=hq.1;omega,by have:=hq.2;omega⟩ hd
     ·exact .inr ⟨h00,hq⟩
   ·intro h
    rw[eq_comm]
    simp only[zSe,decide_eq_false_iff_not]
    exact fun hn=>h fun i _ hi=>(hn.2 i hi).imp id fun hq=>hq.2
 ·rw[if_neg hr,zAH,eq_comm]
  simp only[zSe,decide_eq_false_iff_not]
  exact fun hn=>hr ⟨by have:=hn.1;omega,by have:=hn.1;omega⟩
end Go.Proofs.YtdpapeledldifaaGreat
end
section
namespace Go.Proofs.YtdpapeledldifaaGreat
open Go Go.AM Go.TM Go.Stow
theorem zTd (b:UInt8)(n:Nat)(h:n<256):((b.toNat:Int)=(n:Int))=(b=UInt8.ofNat n):=by
 apply propext
 constructor
 ·intro e
  have e:b.toNat=n:=by omega
  rw[←e,UInt8.ofNat_toNat]
 ·intro e
  subst e
  rw[UInt8.toNat_ofNat_of_lt' h]
theorem u41 (b:UInt8):((b.toNat:Int)=41)=(b=41):=zTd b 41 (by omega)
theorem u40 (b:UInt8):((b.toNat:Int)=40)=(b=40):=zTd b 40 (by omega)
theorem u59 (b:UInt8):((b.toNat:Int)=59)=(b=59):=zTd b 59 (by omega)
theorem u73 (b:UInt8):((b.toNat:Int)=73)=(b=73):=zTd b 73 (by omega)
theorem u76 (b:UInt8):((b.toNat:Int)=76)=(b=76):=zTd b 76 (by omega)
theorem zKe {α:Type}{s t r:List α}{n:Nat}(h:s.drop n=t++r):(s.take (n+t.length)).drop n=t∧s.drop (n+t.length)=r:=by
 constructor
 ·rw[List.drop_take,h,show n+t.length-n=t.length by omega,List.take_left']
  rfl
 ·rw[←List.drop_drop,h,List.drop_left']
  rfl
theorem zSa {α:Type}{s t r:List α}{n:Nat}(hn:n≤s.length)(h:s.drop n=t++r):n+t.length+r.length=s.length:=by
 have:=congrArg List.length h
 simp only[List.length_drop,List.length_append]at this
 omega
theorem n213 (s:List UInt8)(a:Nat)(hl:s.length≤1048576)(ha:a≤s.length):F213 (s,(a:Int))=some (match Stow.one (s.drop a)with|some (t,_)=>((a+t.length:Nat):Int)|none=>-1):=by
 have h0:(0:Int)≤a:=by omega
 by_cases hlt:(a:Int)<s.length
 ·have hn:a<s.length:=by omega
  have hle:¬((s.length:Int)≤a):=by omega
  simp (discharger:=omega) only[F213,hlt,hle,decide_true,decide_false,zAJ,zAI,zAE,h0,Int.toNat_natCast,zAN,zAT,zAF,u73,u76,wI]
  rw[zBX hn,zMc]
  by_cases h73:s[a]=73
  ·rw[if_pos h73,if_pos h73,zAH]
   simp only[List.length_singleton]
   rfl
  ·rw[if_neg h73,if_neg h73,zAC]
   simp (discharger:=omega) only[hle,if_false,h0,decide_true,zAE,Int.toNat_natCast,zAN]
   by_cases h76:s[a]=76
   ·rw[if_pos h76,if_pos h76]
    simp only[zAC]
    refine(zJc (fun j=>(s,(a:Int),((a+1+j:Nat):Int))) () (s.drop (a+1)) (fun x=>decide (x=59)) (fun j=>if Nm ((s.drop (a+1)).take j)then((a+1+j+1:Nat):Int)else -1) ?_ ?_ ?_).trans ?_
    ·rw[wI (by omega) (by omega)];rfl
    ·have:¬(((a+1+(s.drop (a+1)).length:Nat):Int)<s.length):=by simp only[List.length_drop];omega
     simp only[this,if_false]
    ·intro j hj
     have hj':a+1+j<s.length:=by simp only[List.length_drop]at hj;omega
     have hi:((a+1+j:Nat):Int)<s.length:=by omega
     have hi0:(0:Int)≤((a+1+j:Nat):Int):=by omega
     have hg1:(0:Int)≤(a:Int)+1:=by omega
     have hg2:(a:Int)+1≤((a+1+j:Nat):Int):=by omega
     have hg3:((a+1+j:Nat):Int)≤s.length:=by omega
     have ht:((a:Int)+1).toNat=a+1:=by omega
     have hd:(s.take (a+1+j)).drop (a+1)=(s.drop (a+1)).take j:=by rw[List.drop_take];congr 1;omega
     have hb:((s.drop (a+1)).take j).length≤1048576:=by simp only[List.length_take,List.length_drop];omega
     have hg:(s.drop (a+1))[j]=s[a+1+j]:=by simp
     simp (discharger:=omega) only[hi,hi0,hg1,hg2,hg3,if_true,decide_true,Bool.and_self,zAJ,zAE,ht,Int.toNat_natCast,zAN,u59,zAF,hd,n127 _ hb,zAB,wI,zDe,hg]
     by_cases hx:s[a+1+j]=59
     ·rw[if_pos hx,if_pos hx]
      by_cases hm:Nm ((s.drop (a+1)).take j)
      ·rw[if_pos hm,if_pos hm];rfl
      ·rw[if_neg hm,if_neg hm]
     ·rw[if_neg hx,if_neg hx]
      rfl
    ·rw[zSb]
     cases hf:(s.drop (a+1)).findIdx? (fun x=>decide (x=59))with
     |none=>rfl
     | some j =>
       simp only[Option.bind_some]
       have hj:=(List.findIdx?_eq_some_iff_getElem.1 hf).1
       by_cases hm:Nm ((s.drop (a+1)).take j)
       ·rw[if_pos hm,if_pos hm]
        simp only[List.length_cons,List.length_append,List.length_take,List.length_nil]
        rw[Nat.min_eq_left (by omega)]
        congr 1
        omega
       ·rw[if_neg hm,if_neg hm]
   ·rw[if_neg h76,if_neg h76]
    rfl
 ·have hle:(s.length:Int)≤a:=by omega
  simp only[F213,hlt,hle,decide_true,decide_false,zAJ,zAI,zAC,zAH]
  rw[List.drop_eq_nil_of_le (by omega)]
  rfl
theorem n128 (s:List UInt8)(hl:s.length≤1048576):F128 s=some (decide (Tok s)):=by
 simp only[F128,zAF]
 by_cases h:(0:Int)<s.length
 ·have e:=n213 s 0 hl (by omega)
  rw[if_pos h]
  rw[show((0:Int))=((0:Nat):Int)from rfl,e,zAB,List.drop_zero]
  congr 1
  rw[decide_eq_decide]
  cases ho:Stow.one s with
  | none =>
    simp only
    constructor
    ·intro h;omega
    ·intro ht;rw[zUG,ho]at ht;cases ht
  | some p =>
    obtain⟨t,r⟩:=p
    obtain⟨h1,h2⟩:=zCA ho
    simp only[Nat.zero_add]
    constructor
    ·intro hh
     have:r=[]:=by
      have:=congrArg List.length h1
      rw[List.length_append]at this
      exact List.length_eq_zero_iff.1 (by omega)
     rw[this,List.append_nil]at h1
     rw[h1];exact h2
    ·intro ht
     rw[zUG,ho]at ht
     simp only[zSe,Prod.mk.injEq]at ht
     rw[ht.1]
 ·rw[if_neg h,eq_comm]
  have:s=[]:=List.length_eq_zero_iff.1 (by omega)
  subst this
  simp only[zSe,decide_eq_false_iff_not]
  exact zCC
theorem zSl {X Y R:Type}{f:X→Option (X⊕(Y⊕R))}{k:Y→Option R}(s:List UInt8)(mk:List (List UInt8)→Nat→X)(bad:R)(good:List (List UInt8)→List UInt8→R)
  (hend:∀out a,s.length≤a→bindE (zAG f (mk out a)) k=some bad)
  (h41:∀out a (h:a<s.length),s[a]=41→bindE (zAG f (mk out a)) k=some (good out (s.drop (a+1))))
  (hbad:∀out a (h:a<s.length),s[a]≠41→(Stow.one (s.drop a)=none∨4≤out.length)→bindE (zAG f (mk out a)) k=some bad)
  (hstep:∀out a t r (h:a<s.length),s[a]≠41→Stow.one (s.drop a)=some (t,r)→out.length<4→f (mk out a)=some (.inl (mk (out++[t]) (a+t.length)))) :
  ∀(n a:Nat) (out:List (List UInt8)),out.length+n=4→a≤s.length→bindE (zAG f (mk out a)) k=some (match more n (s.drop a)with|some (ts,b)=>good (out++ts) b|none=>bad):=by
 intro n
 induction n with
 | zero =>
   intro a out ho ha
   by_cases h:a<s.length
   ·rw[zBX h]
    simp only[more]
    by_cases hx:s[a]=41
    ·rw[if_pos hx,h41 out a h hx];simp only[List.append_nil]
    ·rw[if_neg hx,hbad out a h hx (.inr (by omega))]
   ·rw[hend out a (by omega),List.drop_eq_nil_of_le (by omega)]
    rfl
 | succ n ih =>
   intro a out ho ha
   by_cases h:a<s.length
   ·rw[zBX h,zFI]
    by_cases hx:s[a]=41
    ·rw[if_pos hx,h41 out a h hx];simp only[List.append_nil]
    ·rw[if_neg hx,←zBX h]
     cases hone:Stow.one (s.drop a)with
     |none=>rw[hbad out a h hx (.inl hone)];rfl
     | some p =>
       obtain⟨t,r⟩:=p
       have hds:=zKe (zCA hone).1
       have hdl:=zSa ha (zCA hone).1
       rw[zDd (hstep out a t r h hx hone (by omega)),ih (a+t.length) (out++[t]) (by simp;omega) (by omega),hds.2]
       simp only[Option.bind_some]
       cases more n r with
       |none=>rfl
       |some q=>simp only[Option.map_some,List.append_assoc,List.singleton_append]
   ·rw[hend out a (by omega),List.drop_eq_nil_of_le (by omega)]
    rfl
noncomputable def fin3 (ts:List (List UInt8))(back:List UInt8):List (List UInt8)×List UInt8×Bool:=if back=[86]∨Tok back then(ts,back,true)else([],[],false)
theorem zIV (x:UInt8)(l:List UInt8):dsc (x::l)=if x=40 then(match more 4 l with|some (ts,b)=>fin3 ts b|none=>([],[],false))else([],[],false):=by
 simp only[dsc]
 split
 ·cases more 4 l with
  |none=>rfl
  |some p=>rfl
 ·rfl
theorem n214 (s:List UInt8)(hl:s.length≤1048576):F214 s=some (dsc s):=by
 cases hs:s with
 |nil=>rfl
 | cons x l =>
   have hne:¬(((x::l).length:Int)=0):=by simp only[List.length_cons];omega
   have hpos:0<(x::l).length:=by simp
   rw[zIV]
   simp (discharger:=assumption) only[F214,hne,decide_false,zAI,zAN,zAT,zAF,u40,u41,List.getElem_cons_zero]
   by_cases h40:x=40
   ·rw[if_pos h40,if_pos h40,zAC]
    rw[←hs]
    have hd1:s.drop 1=l:=by rw[hs];rfl
    rw[←hd1]
    refine zSl s (fun out a=>(s,out,(a:Int))) ([],[],false) fin3 ?_ ?_ ?_ ?_ 4 1 [] rfl (by rw[hs];simp)
    ·intro out a ha
     have h1:¬((a:Int)<s.length):=by omega
     have h2:(s.length:Int)≤a:=by omega
     rw[zAy (y:=.inl (s,out,(a:Int))) (by simp only[h1,if_false,zAH])]
     simp only[zAC,h2,if_true]
    ·intro out a h hx
     have h1:(a:Int)<s.length:=by omega
     have h2:¬(s.length:Int)≤a:=by omega
     have h0:(0:Int)≤a:=by omega
     rw[zAy (y:=.inl (s,out,(a:Int))) (by simp (discharger:=omega) only[h1,if_true,h0,decide_true,zAE,Int.toNat_natCast,zAN,hx,zAH])]
     have ht:((a:Int)+1).toNat=a+1:=by omega
     have hg1:(0:Int)≤(a:Int)+1:=by omega
     have hg2:(a:Int)+1≤s.length:=by omega
     have hb:(s.drop (a+1)).length≤1048576:=by simp only[List.length_drop];omega
     simp (discharger:=omega) only[zAC,h2,if_false,wI,ht,hg1,hg2,Int.le_refl,decide_true,Bool.and_self,zAE,Int.toNat_natCast,List.take_length,n128 _ hb,zAB,zAF,fin3]
     by_cases hv:s.drop (a+1)=[86]
     ·simp only[hv,if_true,true_or]
     ·by_cases htk:Tok (s.drop (a+1))<;>simp only[hv,htk,if_true,if_false,false_or]
    ·intro out a h hx hh
     have h1:(a:Int)<s.length:=by omega
     have h0:(0:Int)≤a:=by omega
     rw[zAy (y:=.inr ([],[],false))]
     ·rfl
     ·simp (discharger:=omega) only[h1,if_true,h0,decide_true,zAE,Int.toNat_natCast,zAN,hx,if_false,zAC,n213 s a hl (by omega),zAB]
      cases ho:Stow.one (s.drop a)with
      |none=>rfl
      | some p =>
        obtain⟨t,r⟩:=p
        rcases hh with hh|hh
        ·rw[ho]at hh;cases hh
        ·have q1:¬(((a+t.length:Nat):Int)<0):=by omega
         have q2:(4:Int)≤out.length:=by omega
         simp only[q1,q2,if_true,if_false,zAH]
    ·intro out a t r h hx ho hlt
     have h1:(a:Int)<s.length:=by omega
     have h0:(0:Int)≤a:=by omega
     have hds:=zKe (zCA ho).1
     have hdl:=zSa (by omega) (zCA ho).1
     have q1:¬(((a+t.length:Nat):Int)<0):=by omega
     have q2:¬(4:Int)≤out.length:=by omega
     have q3:(a:Int)≤((a+t.length:Nat):Int):=by omega
     have q4:((a+t.length:Nat):Int)≤s.length:=by omega
     have q5:out.length+1≤9223372036854775807:=by omega
     have q6:(out.length+1)*16≤140737488355328:=by omega
     simp (discharger:=omega) only[h1,if_true,h0,decide_true,zAE,Int.toNat_natCast,zAN,hx,if_false,zAC,n213 s a hl (by omega),zAB,ho,q1,q2,q3,q4,q5,q6,Bool.and_self,hds.1]
   ·rw[if_neg h40,if_neg h40,zAH]
theorem n129 (s:List UInt8)(hl:s.length≤1048576):F129 s=some (decide (Dsc s)):=by
 simp only[F129,n214 s hl,zAB]
 congr 1
 rw[Bool.eq_iff_iff,decide_eq_true_iff]
 exact Iff.rfl
theorem n204 (s:List UInt8)(c:UInt8)(hl:s.length≤1048576):F204 (s,[c])=some (match s with|x::l=>if x=c then(l,true)else(s,false) | []=>(s,false)):=by
 cases s with
 |nil=>rfl
 | cons x l =>
   have h1:(([c]:List UInt8).length:Int)≤(x::l).length:=by simp only[List.length_cons,List.length_nil];omega
   have h0:(0:Int)≤(([c]:List UInt8).length:Int):=by simp
   have ht:Int.toNat (([c]:List UInt8).length:Int)=1:=rfl
   simp only[F204,F259,F293,h1,h0,Int.le_refl,decide_true,zAJ,Bool.and_self,zAE,ht,zAB,zAT,zAF,Int.toNat_natCast,List.take_length,List.drop_zero,List.take_succ_cons,List.take_zero,List.drop_succ_cons]
   by_cases hx:x=c
   ·rw[if_pos (by rw[hx]),if_pos hx,zAB]
   ·rw[if_neg (by simpa using hx),if_neg hx,zAB]
theorem n205 (s:List UInt8)(c:UInt8)(hl:s.length≤1048576):∃t b,F205 (s,[c])=some (t,b)∧(b=true→s=t++[c])∧(b=false→∀u,s≠u++[c]):=by
 by_cases hs:s=[]
 ·subst hs
  exact⟨[],false,rfl,(fun h=>by cases h),fun _ u h=>by simp at h⟩
 ·have hpos:0<s.length:=List.length_pos_iff.2 hs
  have h1:(([c]:List UInt8).length:Int)≤s.length:=by simp;omega
  have e1:(([c]:List UInt8).length:Int)=1:=rfl
  have g1:(0:Int)≤(s.length:Int)-1:=by omega
  have g2:(s.length:Int)-1≤s.length:=by omega
  have ht:((s.length:Int)-1).toNat=s.length-1:=by omega
  have hsp:s.take (s.length-1)++s.drop (s.length-1)=s:=List.take_append_drop _ _
  rw[e1]at h1
  simp (discharger:=omega) only[F205,F260,F294,e1,h1,decide_true,zAJ,wI,g1,g2,Int.le_refl,Bool.and_self,zAE,ht,Int.toNat_natCast,List.take_length,zAB,zAT,zAF,List.drop_zero]
  by_cases hx:s.drop (s.length-1)=[c]
  ·rw[if_pos hx,zAB]
   refine⟨_,_,rfl,fun _=>?_,fun h=>by cases h⟩
   rw[←hx,hsp]
  ·rw[if_neg hx,zAB]
   refine⟨_,_,rfl,(fun h=>by cases h),fun _ u hu=>hx ?_⟩
   rw[hu]
   simp
theorem n122 (s:List UInt8)(hl:s.length≤1048576):F122 s=some (decide (Tok s)):=by
 simp only[F122,F115,n204 s 76 hl,zAB]
 cases s with
 | nil =>
   obtain⟨t,b,e,h1,h2⟩:=n205 [] 59 (by simp)
   rw[e]
   simp[zCC]
 | cons x l =>
   by_cases hx:x=76
   ·simp only[hx,if_true]
    have hll:l.length≤1048576:=by simp only[List.length_cons]at hl;omega
    obtain⟨t,b,e,h1,h2⟩:=n205 l 59 hll
    rw[e]
    cases b with
    | true =>
      have h1:=h1 rfl
      have htl:t.length≤1048576:=by rw[h1,List.length_append]at hll;omega
      simp only[zAB,zAJ,n48 t htl,zAF]
      by_cases hn:Nm t
      ·rw[if_pos hn,eq_comm]
       simp only[zSe,zDe]
       exact .inr ⟨t,hn,by rw[h1]⟩
      ·rw[if_neg hn]
       congr 1
       rw[decide_eq_decide]
       refine⟨fun h=>.inl h,fun h=>?_⟩
       rcases h with h|⟨n,hm,h⟩
       ·exact h
       ·simp only[List.cons.injEq,true_and]at h
        rw[h1]at h
        have:=List.append_cancel_right h
        rw[this]at hn
        exact absurd hm hn
    | false =>
      have h2:=h2 rfl
      simp only[zAB,zAJ,zAI]
      congr 1
      rw[decide_eq_decide]
      refine⟨fun h=>.inl h,fun h=>?_⟩
      rcases h with h|⟨n,hm,h⟩
      ·exact h
      ·simp only[List.cons.injEq,true_and]at h
       exact absurd h (h2 n)
   ·simp only[hx,if_false]
    obtain⟨t,b,e,h1,h2⟩:=n205 (x::l) 59 hl
    rw[e]
    simp only[zAB,zAI]
    congr 1
    rw[decide_eq_decide]
    refine⟨fun h=>.inl h,fun h=>?_⟩
    rcases h with h|⟨n,hm,h⟩
    ·exact h
    ·simp only[List.cons.injEq]at h
     exact absurd h.1 hx
theorem n289 (s:List UInt8)(c:UInt8):F289 (s,(c.toNat:Int))=some (Lib.indexByte s c):=by
 simp only[F289,F322,zAB,Int.toNat_natCast]
 rw[show c.toNat.toUInt8=c from UInt8.ofNat_toNat]
theorem n239 (s:List UInt8):F239 (s,59)=some (Lib.indexByte s 59):=by
 simp only[F239]
 rw[show((59:Int))=(((59:UInt8).toNat:Nat):Int)from rfl,n289,zAB]
theorem n238 (s:List UInt8)(hl:s.length≤1048576):F238 s=some (match cut 41 s with|some (a,b)=>(a,b,true)|none=>(s,[],false)):=by
 have e321:F321 s=some (Lib.indexByte s 41):=by
  simp only[F321,zAC,zAF,decide_true,zAJ]
  have hat:∀k:UInt8→Option Int,atO [41] 0 k=k 41:=fun k=>rfl
  rw[hat,n289 s 41,zAB]
  by_cases h:([41]:List UInt8)=s
  ·rw[if_pos h,←h];rfl
  ·rw[if_neg h];rfl
 simp only[F238,F288,e321,zAB,zAF]
 cases hc:cut 41 s with
 | none =>
   rw[zMp (zIW.1 hc),if_neg (by omega)]
   rfl
 | some p =>
   obtain⟨a,b⟩:=p
   obtain⟨h1,h2⟩:=zGu hc
   have hlen:s.length=a.length+(b.length+1):=by rw[h1];simp
   rw[show Lib.indexByte s 41=(a.length:Int)by rw[h1];exact zIS h2]
   have g0:(0:Int)≤a.length:=by omega
   have g1:(a.length:Int)≤s.length:=by omega
   have g2:(0:Int)≤(a.length:Int)+1:=by omega
   have g3:(a.length:Int)+1≤s.length:=by omega
   have ht:((a.length:Int)+1).toNat=a.length+1:=by omega
   have hta:s.take a.length=a:=by rw[h1];simp
   have hda:s.drop (a.length+1)=b:=by rw[h1];simp
   simp (discharger:=omega) only[g0,g1,g2,g3,wI,if_true,decide_true,Bool.and_self,zAE,zAW,Int.le_refl,Int.toNat_natCast,ht,List.take_length,hta,hda,List.drop_zero,zAB]
theorem zUf {X Y R:Type}{f:X→Option (X⊕(Y⊕R))}{k:Y→Option R}(mk:List (List UInt8)→List UInt8→X)(bad:R)(good:List (List UInt8)→R)
  (hend:∀out,bindE (zAG f (mk out [])) k=some (good out))
  (hbad:∀out x l,(x::l).length≤1048576→(Stow.one (x::l)=none∨out.length=4)→bindE (zAG f (mk out (x::l))) k=some bad)
  (hstep:∀out x l t r,(x::l).length≤1048576→Stow.one (x::l)=some (t,r)→out.length<4→f (mk out (x::l))=some (.inl (mk (out++[t]) r))) :
  ∀(n:Nat) (s:List UInt8) (out:List (List UInt8)),s.length≤1048576→out.length+n=4→bindE (zAG f (mk out s)) k=some (match mr n s with|some ts=>good (out++ts)|none=>bad):=by
 intro n
 induction n with
 | zero =>
   intro s out hs ho
   cases s with
   |nil=>rw[hend];simp only[mr,List.append_nil]
   |cons x l=>rw[hbad out x l hs (.inr (by omega))];rfl
 | succ n ih =>
   intro s out hs ho
   cases s with
   |nil=>rw[hend];simp only[mr,List.append_nil]
   | cons x l =>
     rw[zVJ]
     cases hone:Stow.one (x::l)with
     |none=>rw[hbad out x l hs (.inl hone)];rfl
     | some p =>
       obtain⟨t,r⟩:=p
       have hle:r.length≤1048576:=by
        have:=congrArg List.length (zCA hone).1
        rw[List.length_append]at this
        omega
       rw[zDd (hstep out x l t r hs hone (by omega)),ih r (out++[t]) hle (by simp;omega)]
       simp only[Option.bind_some]
       cases mr n r with
       |none=>rfl
       |some q=>simp only[Option.map_some,List.append_assoc,List.singleton_append]
noncomputable def stop (x:UInt8)(l:List UInt8):Nat:=if x=73 then 1 else(Lib.indexByte (x::l) 59+1).toNat
theorem zUS (x:UInt8)(l:List UInt8):stop x l≤(x::l).length∧((Lib.indexByte (x::l) 59+1:Int)=((Lib.indexByte (x::l) 59+1).toNat:Int))∧(Lib.indexByte (x::l) 59+1).toNat≤(x::l).length:=by
 have h:(Lib.indexByte (x::l) 59+1).toNat≤(x::l).length:=by
  cases hc:cut 59 (x::l)with
  |none=>rw[zMp (zIW.1 hc)];simp
  | some p =>
    obtain⟨a,b⟩:=p
    obtain⟨h1,h2⟩:=zGu hc
    rw[h1,zIS h2]
    simp
 have:=Lib.indexByte_ge (x::l) 59
 refine⟨?_,by omega,h⟩
 unfold stop
 split
 ·simp
 ·exact h
theorem zRl (x:UInt8)(l:List UInt8):(Tok ((x::l).take (stop x l))→Stow.one (x::l)=some ((x::l).take (stop x l),(x::l).drop (stop x l)))∧(¬Tok ((x::l).take (stop x l))→Stow.one (x::l)=none):=by
 constructor
 ·intro h
  have:=zMa h ((x::l).drop (stop x l))
  rwa[List.take_append_drop]at this
 ·intro h
  rw[zMb]
  intro t r e ht
  have h0:=ht
  rcases ht with rfl|⟨n,hn,rfl⟩
  ·have hx:x=73:=by simp at e;exact e.1
   rw[show stop x l=1 by unfold stop;rw[if_pos hx]]at h
   apply h
   rw[e]
   exact h0
  ·have e2:x::l=(76::n)++59::r:=by rw[e];simp
   have hx:x=76:=by simp at e;exact e.1
   have hno:(59:UInt8) ∉ 76::n:=by
    have:=hn.no 59 no59
    simp[this]
   apply h
   have hs:stop x l=(76::n).length+1:=by
    unfold stop
    rw[if_neg (by rw[hx];decide),e2,zIS hno]
    omega
   rw[hs,e2]
   have:((76::n)++59::r).take ((76::n).length+1)=76::(n++[59]):=by
    rw[show(76::n)++59::r=(76::(n++[59]))++r by simp,show(76::n).length+1=(76::(n++[59])).length by simp]
    exact List.take_left' rfl
   rw[this]
   exact h0
theorem n170 (s:List UInt8)(hl:s.length≤1048576):F170 s=some (dsc s):=by
 simp only[F170,n238 s hl,zAB]
 cases hc:cut 41 s with
 | none =>
   simp only[zAT,zAI,n204 s 40 hl]
   have:dsc s=([],[],false):=by
    cases s with
    |nil=>rfl
    | cons x l =>
      rw[zIV]
      have h41:=zIW.1 hc
      simp only[List.mem_cons,not_or]at h41
      rw[zOg 4 l h41.2]
      split<;>rfl
   rw[this]
   cases s with
   |nil=>rfl
   |cons x l=>by_cases hx:x=40<;>simp only[hx,if_true,if_false,zAB,zAH]
 | some p =>
   obtain⟨a,b⟩:=p
   obtain⟨h1,h2⟩:=zGu hc
   have hal:a.length≤1048576:=by rw[h1,List.length_append]at hl;omega
   have hbl:b.length≤1048576:=by rw[h1,List.length_append,List.length_cons]at hl;omega
   simp only[n204 a 40 hal,zAB]
   cases a with
   | nil =>
     simp only[zAT,zAJ,zAI,zAH]
     rw[h1,List.nil_append,zIV,if_neg (by decide)]
   | cons x l =>
     rw[h1,List.cons_append,zIV]
     by_cases hx:x=40
     ·have hno:(41:UInt8) ∉ l:=fun hm=>h2 (by simp[hm])
      have hll:l.length≤1048576:=by simp only[List.length_cons]at hal;omega
      rw[if_pos hx,zSI 4 l b hno]
      simp only[hx,if_true,zAT,zAJ,zAF,n122 b hbl,zAB]
      by_cases hb:b=[86]∨Tok b
      ·have hgo:∀A B:Option ((List UInt8×List UInt8)⊕(List (List UInt8)×List UInt8×Bool)),(if b=[86]then A else(if Tok b then A else B))=A:=by
        intro A B
        rcases hb with hb|hb
        ·rw[if_pos hb]
        ·rw[if_pos hb];split<;>rfl
       rw[hgo,zAC]
       simp only
       refine(zUf (fun out rest=>(b,rest,out)) ([],[],false) (fun ts=>(ts,b,true)) ?_ ?_ ?_ 4 l [] hll rfl).trans ?_
       ·intro out
        rw[zAy (y:=.inl (b,out)) (by simp only[if_true])]
        rfl
       ·intro out x l hs hh
        have hne:¬(x::l=[]):=by simp
        obtain⟨s1,s2,s3⟩:=zUS x l
        obtain⟨k1,k2⟩:=zRl x l
        rw[zAy (y:=.inr ([],[],false))]
        ·rfl
        ·simp only[hne,if_false,atO,List.getElem?_cons_zero,u73,n239,zAB]
         rw[show IntKind.wrap .i64 (Lib.indexByte (x::l) 59+1)=((Lib.indexByte (x::l) 59+1).toNat:Int)by rw[wI (by omega) (by omega)];exact s2]
         rw[show(if x=73 then some (Sum.inl (b,x::l,out,(1:Int)))else some (Sum.inl (b,x::l,out,((Lib.indexByte (x::l) 59+1).toNat:Int))):Option ((List UInt8×List UInt8×List (List UInt8)×Int)⊕((List UInt8×List UInt8×List (List UInt8))⊕((List UInt8×List (List UInt8))⊕(List (List UInt8)×List UInt8×Bool)))))=some (Sum.inl (b,x::l,out,(stop x l:Int)))by unfold stop;split<;>rfl]
         have g0:(0:Int)≤(stop x l:Int):=by omega
         have g1:(stop x l:Int)≤((x::l).length:Int):=by omega
         have hb1:((x::l).take (stop x l)).length≤1048576:=by simp only[List.length_take];omega
         simp only[zAC,g0,g1,decide_true,Bool.and_self,zAE,Int.toNat_natCast,List.drop_zero,n122 _ hb1,zAB,zAF]
         by_cases htk:Tok ((x::l).take (stop x l))
         ·rw[if_pos htk]
          have h4:(out.length:Int)=4:=by
           rcases hh with hh|hh
           ·rw[k1 htk]at hh;cases hh
           ·omega
          rw[if_pos h4,zAH]
         ·rw[if_neg htk,zAH]
       ·intro out x l t r hs ho hlt
        have hne:¬(x::l=[]):=by simp
        obtain⟨s1,s2,s3⟩:=zUS x l
        obtain⟨k1,k2⟩:=zRl x l
        simp only[hne,if_false,atO,List.getElem?_cons_zero,u73,n239,zAB]
        rw[show IntKind.wrap .i64 (Lib.indexByte (x::l) 59+1)=((Lib.indexByte (x::l) 59+1).toNat:Int)by rw[wI (by omega) (by omega)];exact s2]
        rw[show(if x=73 then some (Sum.inl (b,x::l,out,(1:Int)))else some (Sum.inl (b,x::l,out,((Lib.indexByte (x::l) 59+1).toNat:Int))):Option ((List UInt8×List UInt8×List (List UInt8)×Int)⊕((List UInt8×List UInt8×List (List UInt8))⊕((List UInt8×List (List UInt8))⊕(List (List UInt8)×List UInt8×Bool)))))=some (Sum.inl (b,x::l,out,(stop x l:Int)))by unfold stop;split<;>rfl]
        have g0:(0:Int)≤(stop x l:Int):=by omega
        have g1:(stop x l:Int)≤((x::l).length:Int):=by omega
        have hb1:((x::l).take (stop x l)).length≤1048576:=by simp only[List.length_take];omega
        simp only[zAC,g0,g1,decide_true,Bool.and_self,zAE,Int.toNat_natCast,List.drop_zero,n122 _ hb1,zAB,zAF]
        have htk:Tok ((x::l).take (stop x l)):=Classical.byContradiction fun hn=>by rw[k2 hn]at ho;cases ho
        have h4:¬(out.length:Int)=4:=by omega
        have q5:out.length+1≤9223372036854775807:=by omega
        have q6:(out.length+1)*16≤140737488355328:=by omega
        rw[if_pos htk,if_neg h4,zAC]
        rw[k1 htk]at ho
        simp only[zSe,Prod.mk.injEq]at ho
        simp only[g0,g1,q5,q6,Int.le_refl,decide_true,Bool.and_self,zAE,Int.toNat_natCast,List.take_length,List.drop_zero,ho.1,ho.2]
       ·cases mr 4 l with
        |none=>rfl
        |some ts=>simp only[List.nil_append,Option.map_some,fin3,if_pos hb]
      ·have hb1:¬b=[86]:=fun h=>hb (.inl h)
       have hb2:¬Tok b:=fun h=>hb (.inr h)
       simp only[hb1,hb2,if_false,zAH]
       cases mr 4 l with
       |none=>rfl
       |some ts=>simp only[Option.map_some,fin3,if_neg hb]
     ·rw[if_neg hx]
      simp only[hx,if_false,zAT,zAJ,zAI,zAH]
end Go.Proofs.YtdpapeledldifaaGreat
end
section
namespace Go.Stow
def bndP (p:List Ent):Prop:=p.length≤1048576∧∀x∈p,x.2.1.length≤1048576
theorem bndP.at {p:List Ent}(h:bndP p)(i:Int):(zAU p i).2.1.length≤1048576:=by
 unfold zAU
 split
 ·rename_i hi
  rw[List.getElem?_eq_getElem (by omega)]
  exact h.2 _ (List.getElem_mem _)
 ·simp
end Go.Stow
namespace Go.Proofs.YtdpapeledldifaaGreat
open Go Go.AM Go.TM Go.Stow
theorem n113 (s:List UInt8)(hl:s.length≤1048576):F113 s=some (decide (Dsc s)):=by
 simp only[F113,n170 s hl,zAB]
 congr 1
 rw[Bool.eq_iff_iff,decide_eq_true_iff]
 exact Iff.rfl
noncomputable instance (s:List UInt8):Decidable (zNO s):=Classical.propDecidable _
theorem n121 (s:List UInt8)(hl:s.length≤1048576):F121 s=some (decide (zNO s)):=by
 simp only[F121,n122 s hl,n113 s hl,zAB,zAF]
 by_cases h:Tok s
 ·rw[if_pos h,eq_comm];simp only[zSe,zDe];exact .inl h
 ·rw[if_neg h];congr 1;rw[decide_eq_decide]
  exact⟨fun h=>.inr h,fun h'=>h'.resolve_left h⟩
theorem q215 (p:List Cst)(i:Int)(hp:p.length≤1048576):F215 (p,i)=some (zAU p i):=by
 simp only[F215,q107,zAB,zAF]
 unfold zAU
 by_cases h:1≤i∧i≤p.length
 ·rw[if_pos h,if_pos h]
  have h1:(0:Int)≤i-1:=by omega
  rw[wI (by omega) (by omega),zAX h1,zAN (by omega),List.getElem?_eq_getElem (by omega)]
  rfl
 ·rw[if_neg h,if_neg h]
theorem q124 (p:List Cst)(i:Int)(hp:p.length≤1048576):F124 (p,i)=some (zAU p i):=by
 simp only[F124,q89,zAB,zAT,zAF]
 unfold zAU
 by_cases h:1≤i∧i≤p.length
 ·rw[if_pos h,if_pos h]
  have h1:(0:Int)≤i-1:=by omega
  rw[wI (by omega) (by omega),zAX h1,zAN (by omega),List.getElem?_eq_getElem (by omega)]
  rfl
 ·rw[if_neg h,if_neg h]
theorem zBq {R:Type}{r:Option Cst}{e:Cst}(h:r=some e)(k:Cst→Option R):zAA r k=k (e.1,e.2.1,e.2.2.1,e.2.2.2):=by rw[h];rfl
theorem q131 (p:List Cst)(i:Int)(hp:bndP p):F131 (p,i)=some (txt p i):=by
 simp only[F131]
 rw[zBq (q215 p i hp.1)]
 simp only[zAT,zAF,txt]
 split<;>rfl
theorem zDM {p:List Cst}(h:bndP p)(i:Int):(txt p i).length≤1048576:=by
 unfold txt
 split
 ·exact h.at i
 ·simp
theorem q130 (p:List Cst)(i:Int)(hp:bndP p):F130 (p,i)=some (clsN p i):=by
 simp only[F130]
 rw[zBq (q215 p i hp.1)]
 simp only
 rw[zBq (q215 p _ hp.1)]
 simp only[zAT,zAF,n127 _ (hp.at _),zAB,clsN]
 by_cases h1:(zAU p i).1=2
 ·by_cases h2:(zAU p (zAU p i).2.2.1).1=1
  ·by_cases h3:Nm (zAU p (zAU p i).2.2.1).2.1
   ·rw[if_pos h1,if_pos h2,if_pos h3,if_pos ⟨h1,h2,h3⟩]
   ·rw[if_pos h1,if_pos h2,if_neg h3,if_neg fun h=>h3 h.2.2]
  ·rw[if_pos h1,if_neg h2,if_neg fun h=>h2 h.2.1]
 ·rw[if_neg h1,if_neg fun h=>h1 h.1]
theorem q132 (p:List Cst)(i:Int)(hp:bndP p):F132 (p,i)=some (clsN p (zAU p i).2.2.1,txt p (zAU p (zAU p i).2.2.2).2.2.1,txt p (zAU p (zAU p i).2.2.2).2.2.2):=by
 simp only[F132]
 rw[zBq (q215 p i hp.1)]
 simp only
 rw[zBq (q215 p _ hp.1)]
 simp only[q130 p _ hp,q131 p _ hp,zAB,eq_self,decide_true,zAE,zAW]
theorem q133 (p:List Cst)(i k:Int)(hp:bndP p):F133 (p,i,k)=some (decide ((zAU p i).1=k)):=by
 simp only[F133]
 rw[zBq (q215 p i hp.1)]
theorem zNL {p:List Cst}{i:Int}{Q:List UInt8→Prop}[Decidable (Q (zAU p i).2.1)]:(if(zAU p i).1=1 then some (decide (Q (zAU p i).2.1))else some false:Option Bool)=some (decide (zBC p i Q)):=by
 by_cases h:(zAU p i).1=1
 ·rw[if_pos h];congr 1;rw[decide_eq_decide];exact⟨fun h'=>⟨h,h'⟩,fun h'=>h'.2⟩
 ·rw[if_neg h,eq_comm];simp only[zSe,decide_eq_false_iff_not];exact fun h'=>h h'.1
theorem zRy (p:List Cst)(i:Int)(hp:bndP p):F49126 (p,i)=some (decide (zBC p i Nm)):=by
 simp only[F49126]
 rw[zBq (q124 p i hp.1)]
 simp only[n48 _ (hp.at i),zAB,zAF]
 exact zNL
theorem q122126 (p:List Cst)(i:Int)(hp:bndP p):F122126 (p,i)=some (decide (zBC p i zNO)):=by
 simp only[F122126]
 rw[zBq (q124 p i hp.1)]
 simp only[n121 _ (hp.at i),zAB,zAF]
 exact zNL
theorem zUk (p:List Cst)(i:Int)(hp:bndP p):F123126 (p,i)=some (decide (zBC p i Tok)):=by
 simp only[F123126]
 rw[zBq (q124 p i hp.1)]
 simp only[n122 _ (hp.at i),zAB,zAF]
 exact zNL
theorem zUl (p:List Cst)(i:Int)(hp:bndP p):F114126 (p,i)=some (decide (zBC p i Dsc)):=by
 simp only[F114126]
 rw[zBq (q124 p i hp.1)]
 simp only[n113 _ (hp.at i),zAB,zAF]
 exact zNL
theorem q125 (p:List Cst)(i:Int)(hp:bndP p):F125 (p,i)=some (decide (zBR p i)):=by
 simp only[F125]
 rw[zBq (q124 p i hp.1)]
 simp only[zRy p _ hp,zAB,zAF]
 by_cases h:(zAU p i).1=2
 ·rw[if_pos h];congr 1;rw[decide_eq_decide];exact⟨fun h'=>⟨h,h'⟩,fun h'=>h'.2⟩
 ·rw[if_neg h,eq_comm];simp only[zSe,decide_eq_false_iff_not];exact fun h'=>h h'.1
theorem sd {P:Prop}[Decidable P]:∀{b:Bool},(b=true↔P)→some b=some (decide P):=by
 intro b h
 congr 1
 rw[Bool.eq_iff_iff,h,decide_eq_true_iff]
theorem q123123 (p:List Cst)(x:Cst)(hp:bndP p):F123123 (p,x)=some (decide (x.2.1=[]∧zBR p x.2.2.1∧(zAU p x.2.2.2).1=3∧zBC p (zAU p x.2.2.2).2.2.2 Tok),p,x):=by
 obtain⟨x0,x1,x2,x3⟩:=x
 simp only[F123123]
 rw[zBq (q124 p x3 hp.1)]
 simp only[q125 p _ hp,zUk p _ hp,zAB,zAF]
 by_cases h1:x1=[]<;>by_cases h2:zBR p x2<;>by_cases h3:(zAU p x3).1=3<;>simp[h1,h2,h3]
theorem q114123 (p:List Cst)(x:Cst)(hp:bndP p):F114123 (p,x)=some (decide (x.2.1=[]∧zBR p x.2.2.1∧(zAU p x.2.2.2).1=3∧zBC p (zAU p x.2.2.2).2.2.2 Dsc),p,x):=by
 obtain⟨x0,x1,x2,x3⟩:=x
 simp only[F114123]
 rw[zBq (q124 p x3 hp.1)]
 simp only[q125 p _ hp,zUl p _ hp,zAB,zAF]
 by_cases h1:x1=[]<;>by_cases h2:zBR p x2<;>by_cases h3:(zAU p x3).1=3<;>simp[h1,h2,h3]
theorem q52 (p:List Cst)(x:Cst)(hp:bndP p)(hx:x.2.1.length≤1048576):F52 (p,x)=some (decide (zEA p x)):=by
 obtain⟨x0,x1,x2,x3⟩:=x
 simp only at hx
 simp only[F52,q123123 p _ hp,q114123 p _ hp,zRy p _ hp,q122126 p _ hp,n48 _ hx,n121 _ hx,zAB,zAF]
 unfold zEA
 simp only
 by_cases h1:x0=1
 ·by_cases h2:x2=0
  ·by_cases h3:x3=0
   ·by_cases h4:Nm x1
    ·simp[h1,h2,h3,h4]
    ·simp[h1,h2,h3,h4]
   ·simp[h1,h2,h3]
  ·simp[h1,h2]
 ·by_cases h2:x0=2
  ·by_cases h3:x1=[]
   ·by_cases h4:x3=0<;>simp[h2,h3,h4]
   ·simp[h2,h3]
  ·by_cases h3:x0=3
   ·by_cases h4:x1=[]
    ·by_cases h5:zBC p x2 Nm<;>simp[h3,h4,h5]
    ·simp[h3,h4]
   ·by_cases h4:x0=4
    ·simp[h4]
    ·by_cases h5:x0=5
     ·simp[h5]
     ·by_cases h6:x0=6
      ·simp[h6]
      ·simp[h1,h2,h3,h4,h5,h6]
theorem q53 (p:List Cst)(i:Nat)(hp:bndP p)(hi:i<p.length):F53 (p,(i:Int))=some (decide (zEA p p[i])):=by
 have h0:(0:Int)≤i:=by omega
 have hw:IntKind.wrap .i64 ((i:Int)+1)=(i:Int)+1:=by have:=hp.1;exact wI (by omega) (by omega)
 have hx:p[i].2.1.length≤1048576:=hp.2 _ (List.getElem_mem hi)
 have he:=zFO hi
 simp only[F53,h0,decide_true,zAE,Int.toNat_natCast,hw]
 rw[zAN hi]
 simp only[q130 p _ hp,q131 p _ hp,q132 p _ hp,q133 p _ _ hp,q107,he,n127 _ hx,n128 _ hx,n129 _ hx,n127 _ (zDM hp _),n128 _ (zDM hp _),n129 _ (zDM hp _),zAB,zAT,zAF]
 generalize hxe:p[i]=x at he
 obtain⟨x0,x1,x2,x3⟩:=x
 rw[hxe]at hx
 simp only at hx ⊢
 by_cases e1:x0=1
 ·subst e1
  by_cases h2:x2=0<;>by_cases h3:x3=0<;>by_cases h4:Nm x1<;>by_cases h5:Tok x1<;>simp only[h2,h3,h4,h5,if_true,if_false]<;>exact sd (by unfold zEA;simp[*,zNO])
 rw[if_neg e1]
 by_cases e2:x0=2
 ·have hc:clsN p ((i:Int)+1)=[]↔¬zBC p x2 Nm:=by
   rw[←Classical.not_not (a:=clsN p ((i:Int)+1)=[]),not_congr]
   show clsN p ((i:Int)+1)≠[]↔_
   rw[zDZ];unfold zBR;rw[he];simp[e2]
  subst e2
  by_cases h3:x1=[]<;>by_cases h4:x3=0<;>by_cases h5:zBC p x2 Nm<;>simp only[h3,h4,if_true,if_false]<;>exact sd (by unfold zEA;simp[*])
 rw[if_neg e2]
 by_cases e3:x0=3
 ·have h6:Nm (txt p x2)↔zBC p x2 Nm:=zHc zHQ
  have h7:Tok (txt p x3)∨Dsc (txt p x3)↔zBC p x3 zNO:=zHc (Q:=zNO) zMe
  subst e3
  by_cases h3:x1=[]<;>by_cases h4:Nm (txt p x2)<;>by_cases h5:Tok (txt p x3)<;>by_cases h8:Dsc (txt p x3)<;>simp only[h3,h4,h5,h8,if_true,if_false]<;>exact sd (by unfold zEA;rw[←h6,←h7];clear h6 h7 he hxe;simp[*])
 rw[if_neg e3]
 have hc:clsN p x2=[]↔¬zBR p x2:=by
  rw[←Classical.not_not (a:=clsN p x2=[]),not_congr]
  exact zDZ
 by_cases e4:4≤x0∧x0≤6
 ·rw[if_pos e4]
  by_cases h3:x1=[]
  ·rw[if_pos h3]
   by_cases h4:clsN p x2=[]
   ·rw[if_pos h4,zAH]
    have:=hc.1 h4
    exact sd (by unfold zEA;simp[*])
   ·rw[if_neg h4]
    have hcl:zBR p x2:=Classical.byContradiction fun h=>h4 (hc.2 h)
    by_cases h5:(zAU p x3).1=3
    ·rw[if_pos h5,zAC]
     simp only[n128 _ (zDM hp _),n129 _ (zDM hp _),zAB]
     have h6:Tok (txt p (zAU p x3).2.2.2)↔zBC p (zAU p x3).2.2.2 Tok:=zHc zCC
     have h7:Dsc (txt p (zAU p x3).2.2.2)↔zBC p (zAU p x3).2.2.2 Dsc:=zHc zEc
     by_cases h8:x0=4
     ·rw[if_pos h8]
      exact sd (by unfold zEA;rw[decide_eq_true_iff,h6];simp[*])
     ·rw[if_neg h8]
      have h9:x0=5∨x0=6:=by omega
      exact sd (by unfold zEA;rw[decide_eq_true_iff,h7];simp[*])
    ·rw[if_neg h5,zAH]
     exact sd (by unfold zEA;simp[*])
  ·rw[if_neg h3,zAH]
   exact sd (by unfold zEA;simp[*])
 ·rw[if_neg e4,zAH]
  have h8:¬x0=4:=by omega
  have h9:¬x0=5:=by omega
  have h10:¬x0=6:=by omega
  exact sd (by unfold zEA;simp[*])
theorem q15 (p:List Cst)(hp:bndP p)(h60:p.length≤60):F15 p=some (zCv p p.length 0):=by
 simp only[F15,zAF,zAT]
 have h61:¬(60:Int)<p.length:=by omega
 suffices h:∀(m i:Nat),i+m=p.length→∀k:List Cst→Option Int,k p=some 0→bindE (zAG (fun(x:List Cst×Int) =>
   bindE (if x.2<(x.1.length:Int)then if x.2<60 then some (Sum.inl (x.1,x.2))else some (Sum.inr (Sum.inr (Sum.inl x.1)))else some (Sum.inr (Sum.inr (Sum.inl x.1)))) fun(pool2,i1) =>
   zAA (F53 (pool2,i1)) fun y =>
   cndO y (some (Sum.inl (pool2,IntKind.wrap .i64 (i1+1)))) (some (Sum.inr (Sum.inr (IntKind.wrap .i64 (i1+1)))))) (p,(i:Int))) k=some (zCv p m i)by
  refine h p.length 0 (by omega) _ ?_
  rw[if_neg h61]
 intro m
 induction m with
 | zero =>
   intro i hi k hk
   have h1:¬(i:Int)<p.length:=by omega
   rw[zAy (y:=.inl p) (by simp only[h1,if_false,zAH]),zAC,hk]
   rfl
 | succ m ih =>
   intro i hi k hk
   have h1:(i:Int)<p.length:=by omega
   have h2:(i:Int)<60:=by omega
   have hlt:i<p.length:=by omega
   unfold zCv
   rw[dif_pos hlt]
   by_cases he:zEA p p[i]
   ·rw[if_pos he,←ih (i+1) (by omega) k hk,zDd]
    simp only[h1,h2,if_true,zAC,q53 p i hp hlt,zAB,he,decide_true,zAJ]
    rw[wI (by omega) (by omega)]
    rfl
   ·rw[if_neg he,zAy (y:=.inr ((i:Int)+1)),zAH]
    simp only[h1,h2,if_true,zAC,q53 p i hp hlt,zAB,he,decide_false,zAI]
    rw[wI (by omega) (by omega)]
theorem q14 (p:List Cst)(hp:bndP p)(h60:p.length≤60):F14 p=some (zCv p p.length 0):=by
 simp only[F14,zAF,zAT]
 suffices h:∀(m i:Nat),i+m=p.length→bindE (zAG (fun(x:List Cst×List Cst×Int×Int) =>
   if x.2.2.2<x.2.2.1 then
    grdO (decide ((0:Int)≤x.2.2.2)) (atO x.2.1 (Int.toNat x.2.2.2) fun y=>if x.2.2.2=60 then some (Sum.inr (Sum.inr (61:Int)))else
     zAA (F52 (x.1,y.1,y.2.1,y.2.2.1,y.2.2.2)) fun z =>
     cndO z (some (Sum.inl (x.1,x.2.1,x.2.2.1,IntKind.wrap .i64 (x.2.2.2+1)))) (some (Sum.inr (Sum.inr (IntKind.wrap .i64 (x.2.2.2+1))))))
   else some (Sum.inr (Sum.inl ()))) (p,p,(p.length:Int),(i:Int))) (fun _:Unit=>some (0:Int))=some (zCv p m i)by
  exact h p.length 0 (by omega)
 intro m
 induction m with
 | zero =>
   intro i hi
   have h1:¬(i:Int)<p.length:=by omega
   rw[zAy (y:=.inl ()) (by simp only[h1,if_false]),zAC]
   rfl
 | succ m ih =>
   intro i hi
   have h1:(i:Int)<p.length:=by omega
   have h0:(0:Int)≤i:=by omega
   have h2:¬(i:Int)=60:=by omega
   have hlt:i<p.length:=by omega
   have hq:=q52 p p[i] hp (hp.2 _ (List.getElem_mem hlt))
   unfold zCv
   rw[dif_pos hlt]
   by_cases he:zEA p p[i]
   ·rw[if_pos he,←ih (i+1) (by omega),zDd]
    simp (discharger:=assumption) only[h1,h2,h0,if_true,if_false,decide_true,zAE,Int.toNat_natCast,zAN,hq,zAB,he,zAJ]
    rw[wI (by omega) (by omega)]
    rfl
   ·rw[if_neg he,zAy (y:=.inr ((i:Int)+1)),zAH]
    simp (discharger:=assumption) only[h1,h2,h0,if_true,if_false,decide_true,zAE,Int.toNat_natCast,zAN,hq,zAB,he,decide_false,zAI]
    rw[wI (by omega) (by omega)]
end Go.Proofs.YtdpapeledldifaaGreat
end
section
namespace Go.TM
open Go.AM
section
variable {α X Y R S:Type}
theorem zBT {l:List α}{n:Nat}{k:α→Option R}(d:α)(h:n<l.length):atO l n k=k (l.getD n d):=by
 rw[zAN h,List.getD_eq_getElem?_getD,List.getElem?_eq_getElem h];rfl
theorem zWC {f:X→Option (X⊕(Y⊕R))}(F:Option R→Option S)(mk:Nat→X)(fin:Y)(no:R)(n:Nat)(q:Nat→Prop){x0:X}{k:Y→Option R}{P:Prop}{A B:Option S}(hx:x0=mk 0)
  (hend:f (mk n)=some (.inr (.inl fin)))
  (hstep:∀i,i<n→(q i∧f (mk i)=some (.inl (mk (i+1))))∨(¬q i∧f (mk i)=some (.inr (.inr no))))
  (hP:P↔∀i,i<n→q i) (hA:F (k fin)=A) (hB:F (some no)=B) :
  (P∧F (bindE (zAG f x0) k)=A)∨(¬P∧F (bindE (zAG f x0) k)=B):=by
 have key:∀r,((∀i,i<n→q i)→k fin=r)→(¬(∀i,i<n→q i)→some no=r)→bindE (zAG f x0) k=r:=fun r h1 h2 =>
  zHD mk fin no n q hx hend (fun i h hq=>(hstep i h).elim (fun h=>h.2) fun h=>absurd hq h.1) (fun i h hq=>(hstep i h).elim (fun h=>absurd h.1 hq) fun h=>h.2) h1 h2
 by_cases h:∀i,i<n→q i
 ·exact .inl ⟨hP.2 h,by rw[key (k fin) (fun _=>rfl) (fun h'=>absurd h h'),hA]⟩
 ·exact .inr ⟨fun hp=>h (hP.1 hp),by rw[key (some no) (fun h'=>absurd h' h) (fun _=>rfl),hB]⟩
theorem zGJ {f:X→Option (X⊕(Y⊕R))}(mk:Nat→X)(fin:Y)(no:R)(n:Nat)(q:Nat→Prop){x0:X}{k:Y→Option R}{r:Option R}(hx:x0=mk 0)
  (hend:f (mk n)=some (.inr (.inl fin)))
  (hstep:∀i,i<n→(q i∧f (mk i)=some (.inl (mk (i+1))))∨(¬q i∧f (mk i)=some (.inr (.inr no))))
  (hk:(∀i,i<n→q i)→k fin=r) (hno:¬(∀i,i<n→q i)→some no=r):bindE (zAG f x0) k=r :=
 zHD mk fin no n q hx hend (fun i h hq=>(hstep i h).elim (fun h=>h.2) fun h=>absurd hq h.1) (fun i h hq=>(hstep i h).elim (fun h=>absurd h.1 hq) fun h=>h.2) hk hno
theorem any_r {f:X→Option (X⊕(Y⊕R))}(mk:Nat→X)(fin:Y)(g:Nat→R)(n:Nat)(q:Nat→Prop){x0:X}{k:Y→Option R}(hx:x0=mk 0)
  (hend:f (mk n)=some (.inr (.inl fin)))
  (hstep:∀i,i<n→(q i∧f (mk i)=some (.inr (.inr (g i))))∨(¬q i∧f (mk i)=some (.inl (mk (i+1))))) :
  ((∀i,i<n→¬q i)∧bindE (zAG f x0) k=k fin)∨(∃i,i<n∧q i∧bindE (zAG f x0) k=some (g i)):=by
 have key:∀(m i:Nat),i+m=n→((∀j,i≤j→j<n→¬q j)∧zAG f (mk i)=some (.inl fin))∨(∃j,j<n∧q j∧zAG f (mk i)=some (.inr (g j))):=by
  intro m
  induction m with
  | zero =>
    intro i hi
    have:i=n:=by omega
    subst this
    rw[zAf,hend]
    exact .inl ⟨fun j h1 h2=>absurd h2 (by omega),rfl⟩
  | succ m ih =>
    intro i hi
    rw[zAf]
    rcases hstep i (by omega)with⟨hq,e⟩|⟨hq,e⟩
    ·rw[e];exact .inr ⟨i,by omega,hq,rfl⟩
    ·rw[e]
     rcases ih (i+1) (by omega)with⟨h1,h2⟩|h
     ·refine .inl ⟨fun j h3 h4=>?_,h2⟩
      by_cases hj:j=i
      ·rw[hj];exact hq
      ·exact h1 j (by omega) h4
     ·exact .inr h
 rw[hx]
 rcases key n 0 (by omega)with⟨h1,h2⟩|⟨j,h1,h2,h3⟩
 ·exact .inl ⟨fun i hi=>h1 i (by omega) hi,by rw[h2,zAC]⟩
 ·exact .inr ⟨j,h1,h2,by rw[h3,zAH]⟩
end
end Go.TM
end
section
namespace Go.Stow
theorem zSc {p:List Ent}{i:Int}:clsN p i=[]↔¬zBR p i:=by
 constructor
 ·intro h hc;exact zDZ.2 hc h
 ·intro h;exact Classical.byContradiction fun hn=>h (zDZ.1 hn)
end Go.Stow
namespace Go.Proofs.YtdpapeledldifaaGreat
open Go Go.AM Go.TM Go.Stow
theorem has_fin1 (n:Fin 256):decide (andI .i64 (n.val:Int) 1=0) = !decide (has (n.val:Int) 1):=by revert n;decide +kernel
theorem has_fin2 (n:Fin 256):decide (andI .i64 (n.val:Int) 2=0) = !decide (has (n.val:Int) 2):=by revert n;decide +kernel
theorem has_fin4 (n:Fin 256):decide (andI .i64 (n.val:Int) 4=0) = !decide (has (n.val:Int) 4):=by revert n;decide +kernel
theorem has_fin8 (n:Fin 256):decide (andI .i64 (n.val:Int) 8=0) = !decide (has (n.val:Int) 8):=by revert n;decide +kernel
theorem and1 {f:Int}(h0:0≤f)(h1:f≤255):decide (andI .i64 f 1=0) = !decide (has f 1):=by
 have:=has_fin1 ⟨f.toNat,by omega⟩;rwa[show((f.toNat:Nat):Int)=f by omega]at this
theorem and2 {f:Int}(h0:0≤f)(h1:f≤255):decide (andI .i64 f 2=0) = !decide (has f 2):=by
 have:=has_fin2 ⟨f.toNat,by omega⟩;rwa[show((f.toNat:Nat):Int)=f by omega]at this
theorem and4 {f:Int}(h0:0≤f)(h1:f≤255):decide (andI .i64 f 4=0) = !decide (has f 4):=by
 have:=has_fin4 ⟨f.toNat,by omega⟩;rwa[show((f.toNat:Nat):Int)=f by omega]at this
theorem and8 {f:Int}(h0:0≤f)(h1:f≤255):decide (andI .i64 f 8=0) = !decide (has f 8):=by
 have:=has_fin8 ⟨f.toNat,by omega⟩;rwa[show((f.toNat:Nat):Int)=f by omega]at this
theorem and1p {f:Int}(h0:0≤f)(h1:f≤255):(andI .i64 f 1=0)=¬has f 1:=by
 have:=and1 h0 h1;apply propext;rw[←decide_not,decide_eq_decide]at this;exact this
theorem and2p {f:Int}(h0:0≤f)(h1:f≤255):(andI .i64 f 2=0)=¬has f 2:=by
 have:=and2 h0 h1;apply propext;rw[←decide_not,decide_eq_decide]at this;exact this
theorem and4p {f:Int}(h0:0≤f)(h1:f≤255):(andI .i64 f 4=0)=¬has f 4:=by
 have:=and4 h0 h1;apply propext;rw[←decide_not,decide_eq_decide]at this;exact this
theorem q108 {f k:Int}(h0:0≤f)(h1:f≤255)(hk:1≤k):F108 (f,k)=some (decide (has f k)):=by
 have hk0:¬k=0:=by omega
 have hd:0≤f / k:=Int.ediv_nonneg h0 (by omega)
 have hd2:f / k≤f:=Int.ediv_le_self k h0
 simp only[F108,hk0,decide_false,Bool.not_false,zAE]
 rw[Int.tdiv_eq_ediv_of_nonneg h0,wI (by omega) (by omega),Int.tmod_eq_emod_of_nonneg hd]
 rfl
theorem zCU {α R:Type}{r:Option α}{a:α}(h:r=some a)(k:α→Option R):zAA r k=k a:=by rw[h];rfl
theorem q175 (c:Cls)(hp:bndP c.1)(hf:0≤c.2.1∧c.2.1≤255)(hl:c.2.2.2.2.1.length≤1048576):F175 c=some (decide (zBx c)):=by
 obtain⟨c0,c1,c2,c3,c4,c5,c6⟩:=c
 obtain⟨hf0,hf1⟩:=hf
 simp only at hp hf0 hf1 hl
 have hH:zBx (c0,c1,c2,c3,c4,c5,c6)↔(zBR c0 c2∧zBR c0 c3∧clsN c0 c3≠clsN c0 c2∧(0≤c1∧c1≤7)∧(∀i,i<c4.length→zBR c0 (c4.getD i 0)∧∀k,k<i→clsN c0 (c4.getD k 0)≠clsN c0 (c4.getD i 0))∧¬(has c1 2∧has c1 4)∧(has c1 1→has c1 4∧clsN c0 c3=[79,98,106])):=Iff.rfl
 simp only[F175,q130 _ _ hp,zAB,q107,zAT,zAF]
 by_cases a1:clsN c0 c2=[]
 ·rw[if_pos a1,zAH]
  exact sd (by rw[hH];simp[zSc.1 a1])
 rw[if_neg a1]
 have a1:=zDZ.1 a1
 by_cases a2:clsN c0 c3=[]
 ·rw[if_pos a2,zAH]
  exact sd (by rw[hH];simp[zSc.1 a2])
 rw[if_neg a2]
 have a2:=zDZ.1 a2
 by_cases a3:clsN c0 c3=clsN c0 c2
 ·rw[if_pos a3,zAH]
  exact sd (by rw[hH];simp[a3])
 rw[if_neg a3]
 by_cases a4:0≤c1∧c1≤7
 ·rw[if_pos a4,zAC]
  simp only
  refine zGJ (fun i=>(clsN c0 c3,(i:Int),c0,c1,c2,c3,c4,c5,c6)) (clsN c0 c3,c0,c1,c2,c3,c4,c5,c6) false c4.length (fun i=>zBR c0 (c4.getD i 0)∧∀k,k<i→clsN c0 (c4.getD k 0)≠clsN c0 (c4.getD i 0)) rfl ?_ ?_ ?_ ?_
  ·simp only[Int.lt_irrefl,if_false]
  ·intro i hi
   have h1:(i:Int)<c4.length:=by omega
   have h0:(0:Int)≤i:=by omega
   simp only[h1,h0,if_true,decide_true,zAE,Int.toNat_natCast]
   rw[zBT 0 hi]
   simp only[q130 _ _ hp,zAB]
   by_cases b1:clsN c0 (c4.getD i 0)=[]
   ·rw[if_pos b1,zAH]
    exact .inr ⟨fun h=>zDZ.2 h.1 b1,rfl⟩
   ·rw[if_neg b1]
    have b1:=zDZ.1 b1
    refine zWC (F:=(bindE · _)) (fun k=>(clsN c0 c3,(i:Int),(k:Int),c0,c1,c2,c3,c4,c5,c6)) (clsN c0 c3,(i:Int),c0,c1,c2,c3,c4,c5,c6) (.inr (.inr (.inr false))) i (fun k=>clsN c0 (c4.getD k 0)≠clsN c0 (c4.getD i 0)) rfl ?_ ?_ ?_ ?_ ?_
    ·simp only[Int.lt_irrefl,if_false]
    ·intro k hk
     have k1:(k:Int)<i:=by omega
     have k0:(0:Int)≤k:=by omega
     have hkl:k<c4.length:=by omega
     simp only[k1,k0,h0,if_true,decide_true,zAE,Int.toNat_natCast]
     rw[zBT 0 hkl,zBT 0 hi]
     simp only[zBT 0 hi,q130 _ _ hp,zAB,eq_self,decide_true,Bool.and_true,zAE,zAW]
     by_cases e:clsN c0 (c4.getD k 0)=clsN c0 (c4.getD i 0)
     ·rw[if_pos e];exact .inr ⟨fun h=>h e,rfl⟩
     ·rw[if_neg e,wI (by omega) (by omega)];exact .inl ⟨e,rfl⟩
    ·exact⟨fun h=>h.2,fun h=>⟨b1,h⟩⟩
    ·simp only[zAC]
     rw[wI (by omega) (by omega)]
     rfl
    ·rfl
  ·intro hall
   have hH':zBx (c0,c1,c2,c3,c4,c5,c6)↔(¬(has c1 2∧has c1 4)∧(has c1 1→has c1 4∧clsN c0 c3=[79,98,106])):=by
    rw[hH]
    exact⟨fun h=>h.2.2.2.2.2,fun h=>⟨a1,a2,a3,a4,hall,h⟩⟩
   simp only[q108 hf0 hf1 (show(1:Int)≤2 by omega),q108 hf0 hf1 (show(1:Int)≤4 by omega),q108 hf0 hf1 (show(1:Int)≤1 by omega),zAB,zAF]
   by_cases b2:has c1 2<;>by_cases b4:has c1 4<;>by_cases b1:has c1 1<;>simp only[q108 hf0 hf1 (show(1:Int)≤4 by omega),q108 hf0 hf1 (show(1:Int)≤1 by omega),zAB,zAF,b1,b2,b4,if_true,if_false,zAC,zAH]<;>refine sd ?_<;>rw[hH']<;>simp[b1,b2,b4]
  ·intro hall
   exact sd (by rw[hH];simp only[Bool.false_eq_true,false_iff];exact fun h=>hall h.2.2.2.2.1)
 ·rw[if_neg a4,zAH]
  exact sd (by rw[hH];simp only[Bool.false_eq_true,false_iff];exact fun h=>a4 h.2.2.2.1)
theorem q162 (c:Cls)(i:Int)(hp:bndP c.1):F162 (c,i)=some (decide ((zAU c.1 i).1=2)):=by
 obtain⟨c0,c1,c2,c3,c4,c5,c6⟩:=c
 simp only[F162]
 rw[zBq (q124 c0 i hp.1)]
theorem q111 (c:Cls)(i:Int)(hp:bndP c.1):F111 (c,i)=some (zAl c.1 i):=by
 obtain⟨c0,c1,c2,c3,c4,c5,c6⟩:=c
 simp only[F111]
 rw[zBq (q124 c0 i hp.1)]
 simp only
 rw[zBq (q124 c0 _ hp.1),zAF]
 unfold zAl
 simp only
 split<;>rfl
theorem q165 (c:Cls)(hf:0≤c.2.1∧c.2.1≤255):F165 c=some (decide (has c.2.1 1)):=by
 obtain⟨c0,c1,c2,c3,c4,c5,c6⟩:=c
 obtain⟨hf0,hf1⟩:=hf
 simp only at hf0 hf1
 simp only[F165,and1 hf0 hf1,Bool.not_not]
theorem q164 (c:Cls)(g i:Int)(hp:bndP c.1):F164 (g,c,i)=some (decide (zAl c.1 g=zAl c.1 i),c,i):=by
 obtain⟨c0,c1,c2,c3,c4,c5,c6⟩:=c
 simp only[F164,q111 _ _ hp,zAB,eq_self,decide_true,Bool.and_true,Bool.and_self,zAE,zAW]
theorem q165163 (c:Cls)(s:List Int)(i:Int)(hp:bndP c.1)(hl:s.length≤1048576):∃b,F165163 (s,c,i)=some (b,c,i)∧(b=false↔∀k,k<s.length→zAl c.1 (s.getD k 0)≠zAl c.1 i):=by
 obtain⟨c0,c1,c2,c3,c4,c5,c6⟩:=c
 simp only[F165163,F165235]
 have key:=any_r (f:=(fun(x:List Int×Int×Int×Cls×Int)=>cndO (decide (x.2.2.1<x.2.1))
    (grdO (decide (0≤x.2.2.1)) (atO x.1 (Int.toNat x.2.2.1) fun y=>zAA (F164 (y,(x.2.2.2.1.1,x.2.2.2.1.2.1,x.2.2.2.1.2.2.1,x.2.2.2.1.2.2.2.1,x.2.2.2.1.2.2.2.2.1,x.2.2.2.1.2.2.2.2.2.1,x.2.2.2.1.2.2.2.2.2.2),x.2.2.2.2)) fun z =>
    cndO z.1 (some (.inr (.inr (x.2.2.1,z.2.1,z.2.2)))) (some (.inl (x.1,x.2.1,IntKind.wrap .i64 (x.2.2.1+1),z.2.1,z.2.2)))))
    (some (.inr (.inl ((x.2.2.2.1.1,x.2.2.2.1.2.1,x.2.2.2.1.2.2.1,x.2.2.2.1.2.2.2.1,x.2.2.2.1.2.2.2.2.1,x.2.2.2.1.2.2.2.2.2.1,x.2.2.2.1.2.2.2.2.2.2),x.2.2.2.2))))))
  (fun k=>(s,(s.length:Int),(k:Int),(c0,c1,c2,c3,c4,c5,c6),i)) ((c0,c1,c2,c3,c4,c5,c6),i) (fun k=>((k:Int),(c0,c1,c2,c3,c4,c5,c6),i)) s.length (fun k=>zAl c0 (s.getD k 0)=zAl c0 i) (x0:=(s,(s.length:Int),0,(c0,c1,c2,c3,c4,c5,c6),i)) (k:=fun x=>some ((-1:Int),x.1,x.2)) rfl ?_ ?_
 ·rcases key with⟨h1,h2⟩|⟨k,h1,h2,h3⟩
  ·refine⟨false,?_,iff_of_true rfl h1⟩
   rw[zCU h2]
   rfl
  ·refine⟨true,?_,iff_of_false (by simp) fun h=>h k h1 h2⟩
   rw[zCU h3]
   simp
 ·simp only[Int.lt_irrefl,decide_false,zAI]
 ·intro k hk
  have k1:(k:Int)<s.length:=by omega
  have k0:(0:Int)≤k:=by omega
  simp only[k1,k0,decide_true,zAJ,zAE,Int.toNat_natCast]
  rw[zBT 0 hk]
  have hq:=q164 (c0,c1,c2,c3,c4,c5,c6) (s.getD k 0) i hp
  simp only at hq
  rw[hq]
  simp only[zAB,zAF]
  rw[wI (by omega) (by omega)]
  by_cases e:zAl c0 (s.getD k 0)=zAl c0 i
  ·rw[if_pos e];exact .inl ⟨e,rfl⟩
  ·rw[if_neg e];exact .inr ⟨e,rfl⟩
end Go.Proofs.YtdpapeledldifaaGreat
end
section
namespace Go.Stow
theorem zEH {α:Type}{l:List α}{i k:Nat}{d:α}(h:k<i):(l.take i).getD k d=l.getD k d:=by
 rw[List.getD_eq_getElem?_getD,List.getD_eq_getElem?_getD,List.getElem?_take,if_pos h]
end Go.Stow
namespace Go.Proofs.YtdpapeledldifaaGreat
open Go Go.AM Go.TM Go.Stow
theorem q83 (c:Cls)(hp:bndP c.1)(hf:0≤c.2.1∧c.2.1≤255)(hl:c.2.2.2.2.1.length≤1048576)(hok:zFn c.1):F83 c=some (decide (zBx c)):=by
 obtain⟨c0,c1,c2,c3,c4,c5,c6⟩:=c
 obtain⟨hf0,hf1⟩:=hf
 simp only at hp hf0 hf1 hl hok
 have hH:zBx (c0,c1,c2,c3,c4,c5,c6)↔(zBR c0 c2∧zBR c0 c3∧clsN c0 c3≠clsN c0 c2∧(0≤c1∧c1≤7)∧(∀i,i<c4.length→zBR c0 (c4.getD i 0)∧∀k,k<i→clsN c0 (c4.getD k 0)≠clsN c0 (c4.getD i 0))∧¬(has c1 2∧has c1 4)∧(has c1 1→has c1 4∧clsN c0 c3=[79,98,106])):=Iff.rfl
 have z162:∀i,F162 ((c0,c1,c2,c3,c4,c5,c6),i)=some (decide ((zAU c0 i).1=2)):=fun i=>q162 (c0,c1,c2,c3,c4,c5,c6) i hp
 have z111:∀i,F111 ((c0,c1,c2,c3,c4,c5,c6),i)=some (zAl c0 i):=fun i=>q111 (c0,c1,c2,c3,c4,c5,c6) i hp
 simp only[F83,z162,z111,zAB,zAT,zAF,eq_self,decide_true,Bool.and_true,Bool.and_self,zAE,zAW]
 by_cases a1:(zAU c0 c2).1=2
 ·rw[if_pos a1]
  have a1:=hok.cls.2 a1
  by_cases a2:(zAU c0 c3).1=2
  ·rw[if_pos a2]
   have a2:=hok.cls.2 a2
   rw[zCO a1,zCO a2]
   by_cases a3:clsN c0 c3=clsN c0 c2
   ·rw[if_pos a3,zAH]
    exact sd (by rw[hH];simp[a3])
   ·rw[if_neg a3,zAC]
    simp only
    refine zGJ (fun i=>(c4,(c4.length:Int),(i:Int),c0,c1,c2,c3,c4,c5,c6)) (c0,c1,c2,c3,c4,c5,c6) false c4.length (fun i=>(zAU c0 (c4.getD i 0)).1=2∧∀k,k<i→zAl c0 (c4.getD k 0)≠zAl c0 (c4.getD i 0)) rfl ?_ ?_ ?_ ?_
    ·simp only[Int.lt_irrefl,if_false]
    ·intro i hi
     have h1:(i:Int)<c4.length:=by omega
     have h0:(0:Int)≤i:=by omega
     have h2:(i:Int)≤c4.length:=by omega
     simp only[h1,h0,h2,if_true,decide_true,Bool.and_self,zAE,Int.toNat_natCast,List.drop_zero]
     rw[zBT 0 hi]
     simp only[z162,zAB,zAF,zAT]
     by_cases b1:(zAU c0 (c4.getD i 0)).1=2
     ·rw[if_pos b1]
      obtain⟨b,e,hb⟩:=q165163 (c0,c1,c2,c3,c4,c5,c6) (c4.take i) (c4.getD i 0) hp (by simp only[List.length_take];omega)
      rw[e]
      simp only[zAB]
      have hbi:b=false↔∀k,k<i→zAl c0 (c4.getD k 0)≠zAl c0 (c4.getD i 0):=by
       rw[hb]
       simp only[List.length_take,Nat.min_eq_left (Nat.le_of_lt hi)]
       exact⟨fun h k hk=>by have:=h k hk;rwa[zEH hk]at this,fun h k hk=>by rw[zEH hk];exact h k hk⟩
      cases b with
      | true =>
        exact .inr ⟨fun h=>(by cases hbi.2 h.2),rfl⟩
      | false =>
        refine .inl ⟨⟨b1,hbi.1 rfl⟩,?_⟩
        simp only[zAI,zAC]
        rw[wI (by omega) (by omega)]
        rfl
     ·rw[if_neg b1]
      exact .inr ⟨fun h=>b1 h.1,rfl⟩
    ·intro hall
     have hall':∀i,i<c4.length→zBR c0 (c4.getD i 0)∧∀k,k<i→clsN c0 (c4.getD k 0)≠clsN c0 (c4.getD i 0):=fun i hi =>
      ⟨hok.cls.2 (hall i hi).1,fun k hk=>by
       have:=(hall i hi).2 k hk
       rwa[zCO (hok.cls.2 (hall i hi).1),zCO (hok.cls.2 (hall k (by omega)).1)]at this⟩
     have hH':zBx (c0,c1,c2,c3,c4,c5,c6)↔((0≤c1∧c1≤7)∧¬(has c1 2∧has c1 4)∧(has c1 1→has c1 4∧clsN c0 c3=[79,98,106])):=by
      rw[hH]
      exact⟨fun h=>⟨h.2.2.2.1,h.2.2.2.2.2⟩,fun h=>⟨a1,a2,a3,h.1,hall',h.2⟩⟩
     simp only[eq_self,decide_true,zAE,zAW,q89,zAB,and2p hf0 hf1,and4p hf0 hf1,q165 (c0,c1,c2,c3,c4,c5,c6) ⟨hf0,hf1⟩,z111,Bool.not_not,zAT,zAF,zCO a2]
     by_cases b0:0≤c1∧c1≤7
     ·rw[if_pos b0]
      by_cases b2:has c1 2<;>by_cases b4:has c1 4<;>by_cases b1:has c1 1<;>simp only[b1,b2,b4,not_true,not_false_iff,if_true,if_false]<;>refine sd ?_<;>rw[hH']<;>simp[b0,b1,b2,b4]
     ·rw[if_neg b0]
      refine sd ?_
      rw[hH']
      simp[b0]
    ·intro hall
     refine sd ?_
     rw[hH];simp only[Bool.false_eq_true,false_iff]
     refine fun h=>hall fun i hi=>⟨(h.2.2.2.2.1 i hi).1.1,fun k hk=>?_⟩
     rw[zCO (h.2.2.2.2.1 i hi).1,zCO (h.2.2.2.2.1 k (by omega)).1]
     exact(h.2.2.2.2.1 i hi).2 k hk
  ·rw[if_neg a2,zAH]
   exact sd (by rw[hH];simp only[Bool.false_eq_true,false_iff];exact fun h=>a2 h.2.1.1)
 ·rw[if_neg a1,zAH]
  exact sd (by rw[hH];simp only[Bool.false_eq_true,false_iff];exact fun h=>a1 h.1.1)
theorem q176 (c:Cls)(hp:bndP c.1)(hf:0≤c.2.1∧c.2.1≤255)(hl:c.2.2.2.2.2.1.length≤1048576):F176 c=some (decide (zEu c)):=by
 obtain⟨c0,c1,c2,c3,c4,c5,c6⟩:=c
 obtain⟨hf0,hf1⟩:=hf
 simp only at hp hf0 hf1 hl
 simp only[F176,zAF]
 refine zGJ (fun i=>((i:Int),c0,c1,c2,c3,c4,c5,c6)) () false c5.length (FldOk (c0,c1,c2,c3,c4,c5,c6)) rfl ?_ ?_ ?_ ?_
 ·simp only[Int.lt_irrefl,if_false]
 ·intro i hi
  have h1:(i:Int)<c5.length:=by omega
  have h0:(0:Int)≤i:=by omega
  simp only[h1,h0,if_true,decide_true,zAE,Int.toNat_natCast]
  rw[zBT (0,0,0) hi]
  have hF:FldOk (c0,c1,c2,c3,c4,c5,c6) i↔(zBC c0 (c5.getD i (0,0,0)).2.1 Nm∧zBC c0 (c5.getD i (0,0,0)).2.2 Tok∧(0≤(c5.getD i (0,0,0)).1∧(c5.getD i (0,0,0)).1≤3)∧(has c1 1→(c5.getD i (0,0,0)).1=1)∧∀k,k<i→txt c0 (c5.getD k (0,0,0)).2.1≠txt c0 (c5.getD i (0,0,0)).2.1):=Iff.rfl
  rw[hF]
  generalize c5.getD i (0,0,0)=x
  simp only[q131 _ _ hp,n127 _ (zDM hp _),n128 _ (zDM hp _),q107,zAB,zAT,zAF]
  have t1:Nm (txt c0 x.2.1)↔zBC c0 x.2.1 Nm:=zHc zHQ
  have t2:Tok (txt c0 x.2.2)↔zBC c0 x.2.2 Tok:=zHc zCC
  by_cases b1:Nm (txt c0 x.2.1)
  ·rw[if_pos b1]
   by_cases b2:Tok (txt c0 x.2.2)
   ·rw[if_pos b2]
    by_cases b3:0≤x.1∧x.1≤3
    ·rw[if_pos b3,zAC]
     simp only[q108 hf0 hf1 (show(1:Int)≤1 by omega),zAB,zAF]
     by_cases b4:has c1 1→x.1=1
     ·rw[show(if has c1 1 then if x.1=1 then some (Sum.inl ((i:Int),(c0,c1,c2,c3,c4,c5,c6),x.1,x.2.1,x.2.2))else some (Sum.inr (Sum.inr (Sum.inr (Sum.inr false))))else some (Sum.inl ((i:Int),(c0,c1,c2,c3,c4,c5,c6),x.1,x.2.1,x.2.2)):Option ((Int×Cls×Int×Int×Int)⊕((Int×Cls)⊕((Int×Cls)⊕(Unit⊕Bool)))))=some (Sum.inl ((i:Int),(c0,c1,c2,c3,c4,c5,c6),x.1,x.2.1,x.2.2))by
       by_cases g:has c1 1
       ·rw[if_pos g,if_pos (b4 g)]
       ·rw[if_neg g],zAC]
      simp only
      refine zWC (F:=(bindE · _)) (fun k=>((i:Int),(k:Int),(c0,c1,c2,c3,c4,c5,c6),x.1,x.2.1,x.2.2)) ((i:Int),c0,c1,c2,c3,c4,c5,c6) (.inr (.inr (.inr false))) i (fun k=>txt c0 (c5.getD k (0,0,0)).2.1≠txt c0 x.2.1) rfl ?_ ?_ ?_ ?_ ?_
      ·simp only[Int.lt_irrefl,if_false]
      ·intro k hk
       have k1:(k:Int)<i:=by omega
       have k0:(0:Int)≤k:=by omega
       have hkl:k<c5.length:=by omega
       simp only[k1,k0,if_true,decide_true,zAE,Int.toNat_natCast]
       rw[zBT (0,0,0) hkl]
       simp only[q131 _ _ hp,zAB,eq_self,decide_true,zAE,zAW]
       by_cases e:txt c0 (c5.getD k (0,0,0)).2.1=txt c0 x.2.1
       ·rw[if_pos e];exact .inr ⟨fun h=>h e,rfl⟩
       ·rw[if_neg e,wI (by omega) (by omega)];exact .inl ⟨e,rfl⟩
      ·exact⟨fun h=>h.2.2.2.2,fun h=>⟨t1.1 b1,t2.1 b2,b3,b4,h⟩⟩
      ·simp only[zAC]
       rw[wI (by omega) (by omega)]
       rfl
      ·rfl
     ·have g:has c1 1:=Classical.byContradiction fun h=>b4 fun h'=>absurd h' h
      have g2:¬x.1=1:=fun h=>b4 fun _=>h
      rw[if_pos g,if_neg g2]
      exact .inr ⟨fun h=>g2 (h.2.2.2.1 g),rfl⟩
    ·rw[if_neg b3]
     exact .inr ⟨fun h=>b3 h.2.2.1,rfl⟩
   ·rw[if_neg b2]
    exact .inr ⟨fun h=>b2 (t2.2 h.2.1),rfl⟩
  ·rw[if_neg b1]
   exact .inr ⟨fun h=>b1 (t1.2 h.1),rfl⟩
 ·intro hall
  exact sd (iff_of_true rfl hall)
 ·intro hall
  exact sd (iff_of_false (by simp) hall)
end Go.Proofs.YtdpapeledldifaaGreat
end
section
namespace Go.Stow
def zKq (c:ClsP)(i:Nat):Prop :=
 let f:=c.2.2.2.2.2.1.getD i (0,0,0)
 zBC c.1 f.2.1 Nm∧zBC c.1 f.2.2 Tok∧(0≤f.1∧f.1≤3)∧(has c.2.1 1→f.1=1)∧∀k,k<i→zAl c.1 (c.2.2.2.2.2.1.getD k (0,0,0)).2.1≠zAl c.1 f.2.1
noncomputable instance (c:ClsP)(i:Nat):Decidable (zKq c i):=Classical.propDecidable _
theorem flds_iff (c:ClsP):(∀i,i<c.2.2.2.2.2.1.length→zKq c i)↔zEu c:=by
 constructor
 ·intro h i hi
  obtain⟨h1,h2,h3,h4,h5⟩:=h i hi
  refine⟨h1,h2,h3,h4,fun k hk=>?_⟩
  have hk':=h k (by omega)
  have:=h5 k hk
  rwa[zAu h1.1,zAu hk'.1.1]at this
 ·intro h i hi
  obtain⟨h1,h2,h3,h4,h5⟩:=h i hi
  refine⟨h1,h2,h3,h4,fun k hk=>?_⟩
  have hk':=h k (by omega)
  have:=h5 k hk
  rwa[zAu h1.1,zAu hk'.1.1]
def zKp (c:ClsP)(i:Nat):Prop :=
 let m:=c.2.2.2.2.2.2.getD i mth0
 zBC c.1 m.2.1 Nm∧zBC c.1 m.2.2.1 Dsc∧zEp c m ∧
 ∀k,k<i→¬(zAl c.1 (c.2.2.2.2.2.2.getD k mth0).2.1=zAl c.1 m.2.1∧zAl c.1 (c.2.2.2.2.2.2.getD k mth0).2.2.1=zAl c.1 m.2.2.1)
noncomputable instance (c:ClsP)(i:Nat):Decidable (zKp c i):=Classical.propDecidable _
theorem mths_iff (c:ClsP):(∀i,i<c.2.2.2.2.2.2.length→zKp c i)↔zFo c:=by
 constructor
 ·intro h i hi
  obtain⟨h1,h2,h3,h5⟩:=h i hi
  refine⟨h1,h2,h3,fun k hk=>?_⟩
  have hk':=h k (by omega)
  have:=h5 k hk
  rwa[zAu h1.1,zAu hk'.1.1,zAu h2.1,zAu hk'.2.1.1]at this
 ·intro h i hi
  obtain⟨h1,h2,h3,h5⟩:=h i hi
  refine⟨h1,h2,h3,fun k hk=>?_⟩
  have hk':=h k (by omega)
  have:=h5 k hk
  rwa[zAu h1.1,zAu hk'.1.1,zAu h2.1,zAu hk'.2.1.1]
end Go.Stow
namespace Go.Proofs.YtdpapeledldifaaGreat
open Go Go.AM Go.TM Go.Stow
theorem q167 (c:Cls)(g f:Fld)(hp:bndP c.1):F167 (g,c,f)=some (decide (zAl c.1 g.2.1=zAl c.1 f.2.1),c,f):=by
 obtain⟨c0,c1,c2,c3,c4,c5,c6⟩:=c
 obtain⟨g0,g1,g2⟩:=g
 obtain⟨f0,f1,f2⟩:=f
 have z111:∀i,F111 ((c0,c1,c2,c3,c4,c5,c6),i)=some (zAl c0 i):=fun i=>q111 (c0,c1,c2,c3,c4,c5,c6) i hp
 simp only[F167,z111,zAB,eq_self,decide_true,Bool.and_true,Bool.and_self,zAE,zAW]
theorem q168166 (c:Cls)(s:List Fld)(f:Fld)(hp:bndP c.1)(hl:s.length≤1048576):∃b,F168166 (s,c,f)=some (b,c,f)∧(b=false↔∀k,k<s.length→zAl c.1 (s.getD k (0,0,0)).2.1≠zAl c.1 f.2.1):=by
 obtain⟨c0,c1,c2,c3,c4,c5,c6⟩:=c
 obtain⟨f0,f1,f2⟩:=f
 simp only[F168166,F168236]
 have key:=any_r (f:=(fun(x:List Fld×Int×Int×Cls×Fld)=>cndO (decide (x.2.2.1<x.2.1))
    (grdO (decide (0≤x.2.2.1)) (atO x.1 (Int.toNat x.2.2.1) fun y=>zAA (F167 ((y.1,y.2.1,y.2.2),(x.2.2.2.1.1,x.2.2.2.1.2.1,x.2.2.2.1.2.2.1,x.2.2.2.1.2.2.2.1,x.2.2.2.1.2.2.2.2.1,x.2.2.2.1.2.2.2.2.2.1,x.2.2.2.1.2.2.2.2.2.2),x.2.2.2.2.1,x.2.2.2.2.2.1,x.2.2.2.2.2.2)) fun z =>
    cndO z.1 (some (.inr (.inr (x.2.2.1,z.2.1,z.2.2)))) (some (.inl (x.1,x.2.1,IntKind.wrap .i64 (x.2.2.1+1),z.2.1,z.2.2)))))
    (some (.inr (.inl ((x.2.2.2.1.1,x.2.2.2.1.2.1,x.2.2.2.1.2.2.1,x.2.2.2.1.2.2.2.1,x.2.2.2.1.2.2.2.2.1,x.2.2.2.1.2.2.2.2.2.1,x.2.2.2.1.2.2.2.2.2.2),x.2.2.2.2.1,x.2.2.2.2.2.1,x.2.2.2.2.2.2))))))
  (fun k=>(s,(s.length:Int),(k:Int),(c0,c1,c2,c3,c4,c5,c6),f0,f1,f2)) ((c0,c1,c2,c3,c4,c5,c6),f0,f1,f2) (fun k=>((k:Int),(c0,c1,c2,c3,c4,c5,c6),f0,f1,f2)) s.length (fun k=>zAl c0 (s.getD k (0,0,0)).2.1=zAl c0 f1) (x0:=(s,(s.length:Int),0,(c0,c1,c2,c3,c4,c5,c6),f0,f1,f2)) (k:=fun x=>some ((-1:Int),x.1,x.2)) rfl ?_ ?_
 ·rcases key with⟨h1,h2⟩|⟨k,h1,h2,h3⟩
  ·refine⟨false,?_,iff_of_true rfl h1⟩
   rw[zCU h2]
   rfl
  ·refine⟨true,?_,iff_of_false (by simp) fun h=>h k h1 h2⟩
   rw[zCU h3]
   simp
 ·simp only[Int.lt_irrefl,decide_false,zAI]
 ·intro k hk
  have k1:(k:Int)<s.length:=by omega
  have k0:(0:Int)≤k:=by omega
  simp only[k1,k0,decide_true,zAJ,zAE,Int.toNat_natCast]
  rw[zBT (0,0,0) hk]
  have hq:=q167 (c0,c1,c2,c3,c4,c5,c6) (s.getD k (0,0,0)) (f0,f1,f2) hp
  simp only at hq
  refine(show _=_∧_∨_ from ?_)
  rw[hq]
  simp only[zAB,zAF]
  rw[wI (by omega) (by omega)]
  by_cases e:zAl c0 (s.getD k (0,0,0)).2.1=zAl c0 f1
  ·rw[if_pos e];exact .inl ⟨e,rfl⟩
  ·rw[if_neg e];exact .inr ⟨e,rfl⟩
theorem q84 (c:Cls)(i:Nat)(hp:bndP c.1)(hf:0≤c.2.1∧c.2.1≤255)(hl:c.2.2.2.2.2.1.length≤1048576)(hi:i<c.2.2.2.2.2.1.length):F84 (c,(i:Int))=some (decide (zKq c i)):=by
 obtain⟨c0,c1,c2,c3,c4,c5,c6⟩:=c
 obtain⟨hf0,hf1⟩:=hf
 simp only at hp hf0 hf1 hl hi
 have h0:(0:Int)≤i:=by omega
 have h2:(i:Int)≤c5.length:=by omega
 have hF:zKq (c0,c1,c2,c3,c4,c5,c6) i↔(zBC c0 (c5.getD i (0,0,0)).2.1 Nm∧zBC c0 (c5.getD i (0,0,0)).2.2 Tok∧(0≤(c5.getD i (0,0,0)).1∧(c5.getD i (0,0,0)).1≤3)∧(has c1 1→(c5.getD i (0,0,0)).1=1)∧∀k,k<i→zAl c0 (c5.getD k (0,0,0)).2.1≠zAl c0 (c5.getD i (0,0,0)).2.1):=Iff.rfl
 simp only[F84,h0,h2,decide_true,Bool.and_self,zAE,Int.toNat_natCast]
 rw[zBT (0,0,0) hi]
 generalize c5.getD i (0,0,0)=x at hF ⊢
 simp only[zRy _ _ hp,zUk _ _ hp,q89,q165 (c0,c1,c2,c3,c4,c5,c6) ⟨hf0,hf1⟩,zAB,zAT,zAF]
 by_cases b1:zBC c0 x.2.1 Nm
 ·rw[if_pos b1]
  by_cases b2:zBC c0 x.2.2 Tok
  ·rw[if_pos b2]
   by_cases b3:0≤x.1∧x.1≤3
   ·rw[if_pos b3]
    by_cases b4:has c1 1→x.1=1
    ·rw[show(if has c1 1 then if x.1=1 then some (Sum.inl ((i:Int),(c0,c1,c2,c3,c4,c5,c6),x.1,x.2.1,x.2.2))else some (Sum.inr false)else some (Sum.inl ((i:Int),(c0,c1,c2,c3,c4,c5,c6),x.1,x.2.1,x.2.2)):Option ((Int×Cls×Int×Int×Int)⊕Bool))=some (Sum.inl ((i:Int),(c0,c1,c2,c3,c4,c5,c6),x.1,x.2.1,x.2.2))by
      by_cases g:has c1 1
      ·rw[if_pos g,if_pos (b4 g)]
      ·rw[if_neg g],zAC]
     obtain⟨b,e,hb⟩:=q168166 (c0,c1,c2,c3,c4,c5,c6) (c5.take i) x hp (by simp only[List.length_take];omega)
     obtain⟨x0,x1,x2⟩:=x
     simp only[h0,h2,decide_true,Bool.and_self,zAE,Int.toNat_natCast,List.drop_zero]
     rw[e]
     simp only[zAB]
     have hbi:b=false↔∀k,k<i→zAl c0 (c5.getD k (0,0,0)).2.1≠zAl c0 x1:=by
      rw[hb]
      simp only[List.length_take,Nat.min_eq_left (Nat.le_of_lt hi)]
      exact⟨fun h k hk=>by have:=h k hk;rwa[zEH hk]at this,fun h k hk=>by rw[zEH hk];exact h k hk⟩
     refine sd ?_
     rw[hF]
     simp only[Bool.not_eq_true',hbi]
     exact⟨fun h=>⟨b1,b2,b3,b4,h⟩,fun h=>h.2.2.2.2⟩
    ·have g:has c1 1:=Classical.byContradiction fun h=>b4 fun h'=>absurd h' h
     have g2:¬x.1=1:=fun h=>b4 fun _=>h
     rw[if_pos g,if_neg g2,zAH]
     exact sd (by rw[hF];exact iff_of_false (by simp) fun h=>b4 h.2.2.2.1)
   ·rw[if_neg b3,zAH]
    exact sd (by rw[hF];exact iff_of_false (by simp) fun h=>b3 h.2.2.1)
  ·rw[if_neg b2,zAH]
   exact sd (by rw[hF];exact iff_of_false (by simp) fun h=>b2 h.2.1)
 ·rw[if_neg b1,zAH]
  exact sd (by rw[hF];exact iff_of_false (by simp) fun h=>b1 h.1)
theorem q244 (c:Cls)(m:Mth)(hp:bndP c.1)(hf:0≤c.2.1∧c.2.1≤255)(hm:0≤m.1∧m.1≤255):F244 (c,m)=some (decide (zEp c m)):=by
 obtain⟨c0,c1,c2,c3,c4,c5,c6⟩:=c
 obtain⟨m0,m1,m2,m3,m4,m5,m6,m7⟩:=m
 obtain⟨hf0,hf1⟩:=hf
 obtain⟨hm0,hm1⟩:=hm
 simp only at hp hf0 hf1 hm0 hm1
 have hF:zEp (c0,c1,c2,c3,c4,c5,c6) (m0,m1,m2,m3,m4,m5,m6,m7)↔((0≤m0∧m0≤15)∧(txt c0 m1=[98,101,103,105,110]→m0=1∧txt c0 m2=[40,41,86])∧(has m0 8→m0=8∧has c1 4)∧(¬has m0 8→has c1 1→m0=1)):=Iff.rfl
 simp only[F244,q131 _ _ hp,q107,zAB,zAT,zAF]
 by_cases b1:0≤m0∧m0≤15
 ·rw[if_pos b1]
  have e8:=q108 hm0 hm1 (show(1:Int)≤8 by omega)
  have e4:=q108 hf0 hf1 (show(1:Int)≤4 by omega)
  have e1:=q108 hf0 hf1 (show(1:Int)≤1 by omega)
  have go:(txt c0 m1=[98,101,103,105,110]→m0=1∧txt c0 m2=[40,41,86])→(if has m0 8 then if m0=8 then some (decide (has c1 4))else some false else if has c1 1 then some (decide (m0=1))else some true:Option Bool)=some (decide (zEp (c0,c1,c2,c3,c4,c5,c6) (m0,m1,m2,m3,m4,m5,m6,m7))):=by
   intro b2
   by_cases b5:has m0 8
   ·rw[if_pos b5]
    by_cases b8:m0=8
    ·rw[if_pos b8]
     refine sd ?_
     rw[hF,decide_eq_true_iff]
     exact⟨fun h=>⟨b1,b2,fun _=>⟨b8,h⟩,fun h=>absurd b5 h⟩,fun h=>(h.2.2.1 b5).2⟩
    ·rw[if_neg b8]
     exact sd (by rw[hF];exact iff_of_false (by simp) fun h=>b8 (h.2.2.1 b5).1)
   ·rw[if_neg b5]
    by_cases b7:has c1 1
    ·rw[if_pos b7]
     refine sd ?_
     rw[hF,decide_eq_true_iff]
     exact⟨fun h=>⟨b1,b2,fun h'=>absurd h' b5,fun _ _=>h⟩,fun h=>h.2.2.2 b5 b7⟩
    ·rw[if_neg b7]
     exact sd (by rw[hF];exact iff_of_true rfl ⟨b1,b2,fun h'=>absurd h' b5,fun _ h=>absurd h b7⟩)
  by_cases b2:txt c0 m1=[98,101,103,105,110]
  ·rw[if_pos b2]
   by_cases b3:m0=1
   ·rw[if_pos b3]
    by_cases b4:txt c0 m2=[40,41,86]
    ·rw[if_pos b4,zAC]
     simp only[e8,e4,e1,zAB,zAF]
     exact go fun _=>⟨b3,b4⟩
    ·rw[if_neg b4,zAH]
     exact sd (by rw[hF];exact iff_of_false (by simp) fun h=>b4 (h.2.1 b2).2)
   ·rw[if_neg b3,zAH]
    exact sd (by rw[hF];exact iff_of_false (by simp) fun h=>b3 (h.2.1 b2).1)
  ·rw[if_neg b2,zAC]
   simp only[e8,e4,e1,zAB,zAF]
   exact go fun h=>absurd h b2
 ·rw[if_neg b1]
  exact sd (by rw[hF];exact iff_of_false (by simp) fun h=>b1 h.1)
theorem q177 (c:Cls)(hp:bndP c.1)(hf:0≤c.2.1∧c.2.1≤255)(hl:c.2.2.2.2.2.2.length≤1048576)(hm:∀ m∈c.2.2.2.2.2.2,0≤m.1∧m.1≤255):F177 c=some (decide (zFo c)):=by
 obtain⟨c0,c1,c2,c3,c4,c5,c6⟩:=c
 simp only at hp hl hm
 simp only[F177,zAF]
 refine zGJ (fun i=>((i:Int),c0,c1,c2,c3,c4,c5,c6)) () false c6.length (MthOk (c0,c1,c2,c3,c4,c5,c6)) rfl ?_ ?_ ?_ ?_
 ·simp only[Int.lt_irrefl,if_false]
 ·intro i hi
  have h1:(i:Int)<c6.length:=by omega
  have h0:(0:Int)≤i:=by omega
  have hmi:0≤(c6.getD i mth0).1∧(c6.getD i mth0).1≤255:=by
   rw[List.getD_eq_getElem?_getD,List.getElem?_eq_getElem hi]
   exact hm _ (List.getElem_mem hi)
  simp only[h1,h0,if_true,decide_true,zAE,Int.toNat_natCast]
  rw[zBT mth0 hi]
  have hF:MthOk (c0,c1,c2,c3,c4,c5,c6) i↔(zBC c0 (c6.getD i mth0).2.1 Nm∧zBC c0 (c6.getD i mth0).2.2.1 Dsc∧zEp (c0,c1,c2,c3,c4,c5,c6) (c6.getD i mth0) ∧
   ∀k,k<i→¬(txt c0 (c6.getD k mth0).2.1=txt c0 (c6.getD i mth0).2.1∧txt c0 (c6.getD k mth0).2.2.1=txt c0 (c6.getD i mth0).2.2.1)):=Iff.rfl
  rw[hF]
  generalize c6.getD i mth0=x at hmi
  have z244:F244 ((c0,c1,c2,c3,c4,c5,c6),x.1,x.2.1,x.2.2.1,x.2.2.2.1,x.2.2.2.2.1,x.2.2.2.2.2.1,x.2.2.2.2.2.2.1,x.2.2.2.2.2.2.2)=some (decide (zEp (c0,c1,c2,c3,c4,c5,c6) x)):=q244 (c0,c1,c2,c3,c4,c5,c6) x hp hf hmi
  simp only[q131 _ _ hp,n127 _ (zDM hp _),n129 _ (zDM hp _),z244,zAB,zAT,zAF]
  have t1:Nm (txt c0 x.2.1)↔zBC c0 x.2.1 Nm:=zHc zHQ
  have t2:Dsc (txt c0 x.2.2.1)↔zBC c0 x.2.2.1 Dsc:=zHc zEc
  by_cases b1:Nm (txt c0 x.2.1)
  ·rw[if_pos b1]
   by_cases b2:Dsc (txt c0 x.2.2.1)
   ·rw[if_pos b2]
    by_cases b3:zEp (c0,c1,c2,c3,c4,c5,c6) x
    ·rw[if_pos b3,zAC]
     simp only
     refine zWC (F:=(bindE · _)) (fun k=>((i:Int),(k:Int),(c0,c1,c2,c3,c4,c5,c6),x.1,x.2.1,x.2.2.1,x.2.2.2.1,x.2.2.2.2.1,x.2.2.2.2.2.1,x.2.2.2.2.2.2.1,x.2.2.2.2.2.2.2)) ((i:Int),c0,c1,c2,c3,c4,c5,c6) (.inr (.inr (.inr false))) i (fun k=>¬(txt c0 (c6.getD k mth0).2.1=txt c0 x.2.1∧txt c0 (c6.getD k mth0).2.2.1=txt c0 x.2.2.1)) rfl ?_ ?_ ?_ ?_ ?_
     ·simp only[Int.lt_irrefl,if_false]
     ·intro k hk
      have k1:(k:Int)<i:=by omega
      have k0:(0:Int)≤k:=by omega
      have hkl:k<c6.length:=by omega
      simp only[k1,k0,if_true,decide_true,zAE,Int.toNat_natCast]
      rw[zBT mth0 hkl]
      simp only[zBT mth0 hkl,q131 _ _ hp,zAB,eq_self,decide_true,zAE,zAW]
      by_cases e:txt c0 (c6.getD k mth0).2.1=txt c0 x.2.1
      ·rw[if_pos e]
       by_cases e2:txt c0 (c6.getD k mth0).2.2.1=txt c0 x.2.2.1
       ·rw[if_pos e2,zAH];exact .inr ⟨fun h=>h ⟨e,e2⟩,rfl⟩
       ·rw[if_neg e2,zAC]
        simp only
        rw[wI (by omega) (by omega)];exact .inl ⟨fun h=>e2 h.2,rfl⟩
      ·rw[if_neg e,zAC]
       simp only
       rw[wI (by omega) (by omega)];exact .inl ⟨fun h=>e h.1,rfl⟩
     ·exact⟨fun h=>h.2.2.2,fun h=>⟨t1.1 b1,t2.1 b2,b3,h⟩⟩
     ·simp only[zAC]
      rw[wI (by omega) (by omega)]
      rfl
     ·rfl
    ·rw[if_neg b3]
     exact .inr ⟨fun h=>b3 h.2.2.1,rfl⟩
   ·rw[if_neg b2]
    exact .inr ⟨fun h=>b2 (t2.2 h.2.1),rfl⟩
  ·rw[if_neg b1]
   exact .inr ⟨fun h=>b1 (t1.2 h.1),rfl⟩
 ·intro hall
  exact sd (iff_of_true rfl hall)
 ·intro hall
  exact sd (iff_of_false (by simp) hall)
end Go.Proofs.YtdpapeledldifaaGreat
end
section
namespace Go.TM
theorem zTV {R:Type}(a:Option R):zBV a a=a:=by unfold zBV;rw[if_pos rfl]
end Go.TM
namespace Go.Proofs.YtdpapeledldifaaGreat
open Go Go.AM Go.TM Go.Stow
theorem q169 (c:Cls)(g:Mth)(a b:List UInt8)(hp:bndP c.1):F169 (g,c,a,b)=some (decide (zAl c.1 g.2.1=a∧zAl c.1 g.2.2.1=b),c,a,b):=by
 obtain⟨c0,c1,c2,c3,c4,c5,c6⟩:=c
 obtain⟨g0,g1,g2,g3,g4,g5,g6,g7⟩:=g
 have z111:∀i,F111 ((c0,c1,c2,c3,c4,c5,c6),i)=some (zAl c0 i):=fun i=>q111 (c0,c1,c2,c3,c4,c5,c6) i hp
 simp only[F169,z111,zAB,eq_self,decide_true,zAE,zAW,zAF]
 by_cases e:zAl c0 g1=a
 ·rw[if_pos e];simp[e]
 ·rw[if_neg e];simp[e]
theorem q170168 (c:Cls)(s:List Mth)(a b:List UInt8)(hp:bndP c.1)(hl:s.length≤1048576):∃r,F170168 (s,c,a,b)=some (r,c,a,b)∧(r=false↔∀k,k<s.length→¬(zAl c.1 (s.getD k mth0).2.1=a∧zAl c.1 (s.getD k mth0).2.2.1=b)):=by
 obtain⟨c0,c1,c2,c3,c4,c5,c6⟩:=c
 simp only[F170168,F170237]
 have key:=any_r (f:=(fun(x:List Mth×Int×Int×Cls×List UInt8×List UInt8)=>cndO (decide (x.2.2.1<x.2.1))
    (grdO (decide (0≤x.2.2.1)) (atO x.1 (Int.toNat x.2.2.1) fun y=>zAA (F169 ((y.1,y.2.1,y.2.2.1,y.2.2.2.1,y.2.2.2.2.1,y.2.2.2.2.2.1,y.2.2.2.2.2.2.1,y.2.2.2.2.2.2.2),(x.2.2.2.1.1,x.2.2.2.1.2.1,x.2.2.2.1.2.2.1,x.2.2.2.1.2.2.2.1,x.2.2.2.1.2.2.2.2.1,x.2.2.2.1.2.2.2.2.2.1,x.2.2.2.1.2.2.2.2.2.2),x.2.2.2.2.1,x.2.2.2.2.2)) fun z =>
    cndO z.1 (some (.inr (.inr (x.2.2.1,z.2.1,z.2.2)))) (some (.inl (x.1,x.2.1,IntKind.wrap .i64 (x.2.2.1+1),z.2.1,z.2.2)))))
    (some (.inr (.inl ((x.2.2.2.1.1,x.2.2.2.1.2.1,x.2.2.2.1.2.2.1,x.2.2.2.1.2.2.2.1,x.2.2.2.1.2.2.2.2.1,x.2.2.2.1.2.2.2.2.2.1,x.2.2.2.1.2.2.2.2.2.2),x.2.2.2.2.1,x.2.2.2.2.2))))))
  (fun k=>(s,(s.length:Int),(k:Int),(c0,c1,c2,c3,c4,c5,c6),a,b)) ((c0,c1,c2,c3,c4,c5,c6),a,b) (fun k=>((k:Int),(c0,c1,c2,c3,c4,c5,c6),a,b)) s.length (fun k=>zAl c0 (s.getD k mth0).2.1=a∧zAl c0 (s.getD k mth0).2.2.1=b) (x0:=(s,(s.length:Int),0,(c0,c1,c2,c3,c4,c5,c6),a,b)) (k:=fun x=>some ((-1:Int),x.1,x.2)) rfl ?_ ?_
 ·rcases key with⟨h1,h2⟩|⟨k,h1,h2,h3⟩
  ·refine⟨false,?_,iff_of_true rfl h1⟩
   rw[zCU h2]
   rfl
  ·refine⟨true,?_,iff_of_false (by simp) fun h=>h k h1 h2⟩
   rw[zCU h3]
   simp
 ·simp only[Int.lt_irrefl,decide_false,zAI]
 ·intro k hk
  have k1:(k:Int)<s.length:=by omega
  have k0:(0:Int)≤k:=by omega
  simp only[k1,k0,decide_true,zAJ,zAE,Int.toNat_natCast]
  rw[zBT mth0 hk]
  have hq:=q169 (c0,c1,c2,c3,c4,c5,c6) (s.getD k mth0) a b hp
  refine(show(_∧_)∧_=_∨_ from ?_)
  rw[show(((s.getD k mth0).1,(s.getD k mth0).2.1,(s.getD k mth0).2.2.1,(s.getD k mth0).2.2.2.1,(s.getD k mth0).2.2.2.2.1,(s.getD k mth0).2.2.2.2.2.1,(s.getD k mth0).2.2.2.2.2.2.1,(s.getD k mth0).2.2.2.2.2.2.2):Mth)=s.getD k mth0 from rfl]
  rw[hq]
  simp only[zAB,zAF]
  rw[wI (by omega) (by omega)]
  by_cases e:zAl c0 (s.getD k mth0).2.1=a∧zAl c0 (s.getD k mth0).2.2.1=b
  ·rw[if_pos e];exact .inl ⟨e,rfl⟩
  ·rw[if_neg e];exact .inr ⟨e,rfl⟩
theorem q86 (f:Int)(h0:0≤f)(h1:f≤255):F86 f=some (decide (has f 8)):=by
 simp only[F86,and8 h0 h1,Bool.not_not]
theorem q85 (c:Cls)(i:Nat)(hp:bndP c.1)(hf:0≤c.2.1∧c.2.1≤255)(hl:c.2.2.2.2.2.2.length≤1048576)(hm:∀ m∈c.2.2.2.2.2.2,0≤m.1∧m.1≤255)(hi:i<c.2.2.2.2.2.2.length):F85 (c,(i:Int))=some (decide (zKp c i)):=by
 obtain⟨c0,c1,c2,c3,c4,c5,c6⟩:=c
 obtain⟨hf0,hf1⟩:=hf
 simp only at hp hf0 hf1 hl hm hi
 have h0:(0:Int)≤i:=by omega
 have h2:(i:Int)≤c6.length:=by omega
 have hmi:0≤(c6.getD i mth0).1∧(c6.getD i mth0).1≤255:=by
  rw[List.getD_eq_getElem?_getD,List.getElem?_eq_getElem hi]
  exact hm _ (List.getElem_mem hi)
 have hF:zKp (c0,c1,c2,c3,c4,c5,c6) i↔(zBC c0 (c6.getD i mth0).2.1 Nm∧zBC c0 (c6.getD i mth0).2.2.1 Dsc∧((0≤(c6.getD i mth0).1∧(c6.getD i mth0).1≤15)∧(txt c0 (c6.getD i mth0).2.1=[98,101,103,105,110]→(c6.getD i mth0).1=1∧txt c0 (c6.getD i mth0).2.2.1=[40,41,86])∧(has (c6.getD i mth0).1 8→(c6.getD i mth0).1=8∧has c1 4)∧(¬has (c6.getD i mth0).1 8→has c1 1→(c6.getD i mth0).1=1)) ∧
   ∀k,k<i→¬(zAl c0 (c6.getD k mth0).2.1=zAl c0 (c6.getD i mth0).2.1∧zAl c0 (c6.getD k mth0).2.2.1=zAl c0 (c6.getD i mth0).2.2.1)):=Iff.rfl
 simp only[F85,h0,decide_true,zAE,Int.toNat_natCast]
 rw[zBT mth0 hi]
 generalize c6.getD i mth0=x at hF hmi ⊢
 obtain⟨x0,x1,x2,x3,x4,x5,x6,x7⟩:=x
 obtain⟨hm0,hm1⟩:=hmi
 simp only at hF hm0 hm1
 simp only[zRy _ _ hp,zUl _ _ hp,q89,zAB,zAT]
 have z111:∀i,F111 ((c0,c1,c2,c3,c4,c5,c6),i)=some (zAl c0 i):=fun i=>q111 (c0,c1,c2,c3,c4,c5,c6) i hp
 have z165:F165 (c0,c1,c2,c3,c4,c5,c6)=some (decide (has c1 1)):=q165 (c0,c1,c2,c3,c4,c5,c6) ⟨hf0,hf1⟩
 have z86:=q86 x0 hm0 hm1
 by_cases b1:zBC c0 x1 Nm
 ·rw[decide_eq_true b1,zAJ]
  by_cases b2:zBC c0 x2 Dsc
  ·rw[decide_eq_true b2,zAJ]
   by_cases b3:0≤x0∧x0≤15
   ·rw[decide_eq_true b3,zAJ,zAC]
    simp only[z111,zAB,eq_self,decide_true,Bool.and_true,Bool.and_self,zAE,zAW,zTV]
    rw[zAu b1.1,zAu b2.1]
    cases d5:decide (has x0 8)<;>cases d8:decide (x0=8)<;>cases d6:decide (has c1 4)<;>cases d7:decide (has c1 1)<;>cases d9:decide (x0=1) <;>
     simp only[z86,z165,zAB,d5,d8,d7,d9,and4 hf0 hf1,d6,zAJ,zAI,Bool.not_true,Bool.not_false,zAC,zAH]
    all_goals simp only[zDe,decide_eq_false_iff_not]at d5 d6 d7 d8 d9
    all_goals first
     |(refine sd ?_
       rw[hF]
       refine iff_of_false (by simp) fun h=>?_
       obtain⟨_,_,⟨_,_,k1,k2⟩,_⟩:=h
       first
        |exact d8 (k1 d5).1
        |exact d6 (k1 d5).2
        |exact d9 (k2 d5 d7))
     |skip
    all_goals
     have e1:has x0 8→x0=8∧has c1 4:=fun h=>by first|exact⟨d8,d6⟩|exact absurd h d5
     have e2:¬has x0 8→has c1 1→x0=1:=fun h h'=>by first|exact d9|exact absurd h' d7|exact absurd d5 h
     have k2:=d9
     clear d5 d6 d7 d8 d9
     cases k1:decide (txt c0 x1=[98,101,103,105,110])<;>cases k3:decide (txt c0 x2=[40,41,86])<;>simp only[k1,k3,Bool.not_true,Bool.not_false,zAJ,zAI,zAC,zAH]
     all_goals simp only[zDe,decide_eq_false_iff_not]at k1 k3
     all_goals first
      |(refine sd ?_
        rw[hF]
        refine iff_of_false (by simp) fun h=>?_
        obtain⟨_,_,⟨_,g1,_,_⟩,_⟩:=h
        first
         |exact k2 (g1 k1).1
         |exact k3 (g1 k1).2)
      |skip
     all_goals
      have e3:txt c0 x1=[98,101,103,105,110]→x0=1∧txt c0 x2=[40,41,86]:=fun h=>by first|exact⟨k2,k3⟩|exact absurd h k1
      clear k1 k2 k3
      obtain⟨b,e,hb⟩:=q170168 (c0,c1,c2,c3,c4,c5,c6) (c6.take i) (txt c0 x1) (txt c0 x2) hp (by simp only[List.length_take];omega)
      simp only[h0,h2,decide_true,Bool.and_self,zAE,Int.toNat_natCast,List.drop_zero]
      rw[e]
      simp only[zAB]
      refine sd ?_
      rw[hF,zAu b1.1,zAu b2.1]
      have hbi:b=false↔∀k,k<i→¬(zAl c0 (c6.getD k mth0).2.1=txt c0 x1∧zAl c0 (c6.getD k mth0).2.2.1=txt c0 x2):=by
       rw[hb]
       simp only[List.length_take,Nat.min_eq_left (Nat.le_of_lt hi)]
       exact⟨fun h k hk=>by have:=h k hk;rwa[zEH hk]at this,fun h k hk=>by rw[zEH hk];exact h k hk⟩
      rw[Bool.not_eq_true',hbi]
      exact⟨fun h=>⟨b1,b2,⟨b3,e3,e1,e2⟩,h⟩,fun h=>h.2.2.2⟩
   ·rw[decide_eq_false b3,zAI,zAH]
    exact sd (by rw[hF];exact iff_of_false (by simp) fun h=>b3 h.2.2.1.1)
  ·rw[decide_eq_false b2,zAI,zAH]
   exact sd (by rw[hF];exact iff_of_false (by simp) fun h=>b2 h.2.1)
 ·rw[decide_eq_false b1,zAI,zAH]
  exact sd (by rw[hF];exact iff_of_false (by simp) fun h=>b1 h.1)
end Go.Proofs.YtdpapeledldifaaGreat
end
