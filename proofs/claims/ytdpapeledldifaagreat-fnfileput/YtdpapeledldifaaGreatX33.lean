/- Part 34 of the proof that the law FnFilePut holds of every input; no condition. -/
import Derived.Test.YtdpapeledldifaaGreatX32
set_option autoImplicit true
set_option relaxedAutoImplicit true
set_option linter.all false
section
namespace Go.Stow
def cut (c:UInt8):List UInt8→Option (List UInt8×List UInt8)
 | []=>none
 | x :: l=>if x=c then some ([],l) else (cut c l).map fun p=>(x :: p.1,p.2)
theorem zSB {c:UInt8}:∀ {l a b:List UInt8},cut c l=some (a,b)→l=a++c :: b∧c ∉ a
 | [],a,b,h=>by cases h
 | x :: l,a,b,h=>by
   unfold cut at h
   by_cases hx:x=c
   ·rw [if_pos hx] at h
    simp only [Option.some.injEq,Prod.mk.injEq] at h
    obtain ⟨rfl,rfl⟩:=h
    exact ⟨by rw [hx];rfl,by simp⟩
   ·rw [if_neg hx] at h
    cases hc:cut c l with
    | none=>rw [hc] at h;cases h
    | some p =>
      obtain ⟨a',b'⟩:=p
      rw [hc] at h
      simp only [Option.map_some,Option.some.injEq,Prod.mk.injEq] at h
      obtain ⟨rfl,rfl⟩:=h
      obtain ⟨h1,h2⟩:=zSB hc
      exact ⟨by rw [h1];rfl,by simp only [List.mem_cons,not_or];exact ⟨fun h=>hx h.symm,h2⟩⟩
theorem cut_at {c:UInt8}:∀ {a b:List UInt8},c ∉ a→cut c (a++c :: b)=some (a,b)
 | [],b,_=>by simp [cut]
 | x :: a,b,h=>by
   simp only [List.mem_cons,not_or] at h
   rw [List.cons_append]
   unfold cut
   rw [if_neg fun e=>h.1 e.symm,cut_at h.2]
   rfl
def let1 (b:UInt8):Prop:=(97≤b.toNat∧b.toNat≤122)∨(65≤b.toNat∧b.toNat≤90)
def dig1 (b:UInt8):Prop:=48≤b.toNat∧b.toNat≤57
def Nm (s:List UInt8):Prop:=(1≤s.length∧s.length≤8)∧∀ i (h:i<s.length),let1 s[i]∨(i≠0∧dig1 s[i])
noncomputable instance (s:List UInt8):Decidable (Nm s):=Classical.propDecidable _
theorem Nm.mem {s:List UInt8} (h:Nm s) {b:UInt8} (hb:b∈s):let1 b∨dig1 b:=by
 obtain ⟨i,hi,rfl⟩:=List.mem_iff_getElem.1 hb
 rcases h.2 i hi with h | h
 ·exact .inl h
 ·exact .inr h.2
theorem Nm.no {s:List UInt8} (h:Nm s) (b:UInt8) (hb:¬ (let1 b∨dig1 b)):b ∉ s:=fun hm=>hb (h.mem hm)
theorem no59:¬ (let1 59∨dig1 59):=by simp [let1,dig1]
theorem Nm.ne {s:List UInt8} (h:Nm s):s≠[]:=by rintro rfl;exact absurd h.1.1 (by simp)
theorem zGF:¬ Nm []:=fun h=>h.ne rfl
def Tok (t:List UInt8):Prop:=t=[73]∨∃ n,Nm n∧t=76 :: (n++[59])
noncomputable instance (s:List UInt8):Decidable (Tok s):=Classical.propDecidable _
theorem zDo:¬ Tok []:=by
 rintro (h | ⟨n,_,h⟩) <;> cases h
noncomputable def one:List UInt8→Option (List UInt8×List UInt8)
 | []=>none
 | x :: r=>if x=73 then some ([73],r) else if x=76 then (cut 59 r).bind fun p=>if Nm p.1 then some (76 :: (p.1++[59]),p.2) else none else none
theorem zMZ (x:UInt8) (r:List UInt8):one (x :: r)=if x=73 then some ([73],r) else if x=76 then (cut 59 r).bind fun p=>if Nm p.1 then some (76 :: (p.1++[59]),p.2) else none else none:=rfl
theorem zEi {l t r:List UInt8} (h:one l=some (t,r)):l=t++r∧Tok t:=by
 cases l with
 | nil=>cases h
 | cons x l =>
   rw [zMZ] at h
   by_cases h1:x=73
   ·rw [if_pos h1] at h
    simp only [Option.some.injEq,Prod.mk.injEq] at h
    obtain ⟨rfl,rfl⟩:=h
    exact ⟨by rw [h1];rfl,.inl rfl⟩
   ·rw [if_neg h1] at h
    by_cases h2:x=76
    ·rw [if_pos h2] at h
     cases hc:cut 59 l with
     | none=>rw [hc] at h;cases h
     | some p =>
       obtain ⟨n,b⟩:=p
       rw [hc,Option.bind_some] at h
       by_cases hn:Nm n
       ·rw [if_pos hn] at h
        simp only [Option.some.injEq,Prod.mk.injEq] at h
        obtain ⟨rfl,rfl⟩:=h
        obtain ⟨e,_⟩:=zSB hc
        exact ⟨by rw [h2,e];simp,.inr ⟨n,hn,rfl⟩⟩
       ·rw [if_neg hn] at h;cases h
    ·rw [if_neg h2] at h;cases h
theorem one_tok {t:List UInt8} (h:Tok t) (r:List UInt8):one (t++r)=some (t,r):=by
 rcases h with rfl | ⟨n,hn,rfl⟩
 ·rfl
 ·rw [List.cons_append,zMZ,if_neg (by decide),if_pos rfl]
  have:(n++[59])++r=n++59 :: r:=by simp
  rw [this,cut_at (hn.no 59 no59),Option.bind_some,if_pos hn]
theorem zTE {s:List UInt8}:Tok s↔one s=some (s,[]):=by
 constructor
 ·intro h
  have:=one_tok h []
  rwa [List.append_nil] at this
 ·intro h
  exact (zEi h).2
noncomputable def more:Nat→List UInt8→Option (List (List UInt8)×List UInt8)
 | _,[]=>none
 | 0,x :: l=>if x=41 then some ([],l) else none
 | k+1,x :: l=>if x=41 then some ([],l) else (one (x :: l)).bind fun p=>(more k p.2).map fun q=>(p.1 :: q.1,q.2)
theorem zPG (k:Nat) (x:UInt8) (l:List UInt8):more (k+1) (x :: l)=if x=41 then some ([],l) else (one (x :: l)).bind fun p=>(more k p.2).map fun q=>(p.1 :: q.1,q.2):=rfl
noncomputable def dsc (s:List UInt8):List (List UInt8)×List UInt8×Bool :=
 match s with
 | []=>([],[],false)
 | x :: l=>if x=40 then
   match more 4 l with
   | none=>([],[],false)
   | some (ts,back)=>if back=[86]∨Tok back then (ts,back,true) else ([],[],false)
   else ([],[],false)
def Dsc (s:List UInt8):Prop:=(dsc s).2.2=true
noncomputable instance (s:List UInt8):Decidable (Dsc s):=Classical.propDecidable _
theorem zFK:¬ Dsc []:=by simp [Dsc,dsc]
end Go.Stow
end
section
namespace Go.Stow
abbrev Ent:=Int×List UInt8×Int×Int
def zBH (p:List Ent) (i:Int):Ent:=if 1≤i∧i≤p.length then p[(i - 1).toNat]?.getD (0,[],0,0) else (0,[],0,0)
def zBn (p:List Ent) (i:Int) (Q:List UInt8→Prop):Prop:=(zBH p i).1=1∧Q (zBH p i).2.1
noncomputable instance (p:List Ent) (i:Int) (Q:List UInt8→Prop):Decidable (zBn p i Q):=Classical.propDecidable _
def zDD (p:List Ent) (i:Int):Prop:=(zBH p i).1=2∧zBn p (zBH p i).2.2.1 Nm
noncomputable instance (p:List Ent) (i:Int):Decidable (zDD p i):=Classical.propDecidable _
noncomputable def clsN (p:List Ent) (i:Int):List UInt8:=if zDD p i then (zBH p (zBH p i).2.2.1).2.1 else []
def txt (p:List Ent) (i:Int):List UInt8:=if (zBH p i).1=1 then (zBH p i).2.1 else []
theorem zCy {p:List Ent} {i:Int}:clsN p i≠[]↔zDD p i:=by
 unfold clsN
 constructor
 ·intro h
  by_cases hc:zDD p i
  ·exact hc
  ·rw [if_neg hc] at h;exact absurd rfl h
 ·intro h
  rw [if_pos h]
  exact h.2.2.ne
theorem zGR {p:List Ent} {i:Int} {Q:List UInt8→Prop} (h0:¬ Q []):Q (txt p i)↔zBn p i Q:=by
 unfold txt zBn
 by_cases h:(zBH p i).1=1
 ·rw [if_pos h];simp [h]
 ·rw [if_neg h];simp [h,h0]
def zRG (s:List UInt8):Prop:=Tok s∨Dsc s
theorem zMb:¬ zRG []:=by
 rintro (h | h)
 ·exact zDo h
 ·exact zFK h
def zGQ (p:List Ent) (x:Ent):Prop :=
 if x.1=1 then x.2.2.1=0∧x.2.2.2=0∧(Nm x.2.1∨zRG x.2.1)
 else if x.1=2 then x.2.1=[]∧x.2.2.2=0∧zBn p x.2.2.1 Nm
 else if x.1=3 then x.2.1=[]∧zBn p x.2.2.1 Nm∧zBn p x.2.2.2 zRG
 else if x.1=4 then x.2.1=[]∧zDD p x.2.2.1∧(zBH p x.2.2.2).1=3∧zBn p (zBH p x.2.2.2).2.2.2 Tok
 else if x.1=5∨x.1=6 then x.2.1=[]∧zDD p x.2.2.1∧(zBH p x.2.2.2).1=3∧zBn p (zBH p x.2.2.2).2.2.2 Dsc
 else False
noncomputable instance (p:List Ent) (x:Ent):Decidable (zGQ p x):=Classical.propDecidable _
theorem zUc {p:List Ent} {i:Nat} (h:i<p.length):zBH p ((i:Int)+1)=p[i]:=by
 unfold zBH
 rw [if_pos ⟨by omega,by omega⟩,show ((i:Int)+1 - 1).toNat=i by omega,List.getElem?_eq_getElem h]
 rfl
noncomputable def zEQ (p:List Ent):Nat→Nat→Int
 | 0,_=>0
 | m+1,i=>if h:i<p.length then if zGQ p p[i] then zEQ p m (i+1) else (i:Int)+1 else 0
def zSm (p:List Ent) (i:Int):List UInt8:=if (zBH p i).1=2 then (zBH p (zBH p i).2.2.1).2.1 else (zBH p i).2.1
end Go.Stow
end
section
namespace Go.Stow
abbrev KndP:=Int×Int
abbrev TrpP:=Int×Int×Int×Int
abbrev FrmP:=Int×List KndP×List KndP
abbrev FldP:=Int×Int×Int
abbrev MthP:=Int×Int×Int×Int×Int×List UInt8×List TrpP×List FrmP
abbrev ClsP:=List Ent×Int×Int×Int×List Int×List FldP×List MthP
def has (f k:Int):Prop:=f / k % 2=1
instance (f k:Int):Decidable (has f k):=inferInstanceAs (Decidable (_=_))
def zDC (c:ClsP):Prop :=
 zDD c.1 c.2.2.1∧zDD c.1 c.2.2.2.1∧clsN c.1 c.2.2.2.1≠clsN c.1 c.2.2.1∧(0≤c.2.1∧c.2.1≤7) ∧
 (∀ i,i<c.2.2.2.2.1.length→zDD c.1 (c.2.2.2.2.1.getD i 0)∧∀ k,k<i→clsN c.1 (c.2.2.2.2.1.getD k 0)≠clsN c.1 (c.2.2.2.2.1.getD i 0)) ∧
 ¬ (has c.2.1 2∧has c.2.1 4)∧(has c.2.1 1→has c.2.1 4∧clsN c.1 c.2.2.2.1=[79,98,106])
noncomputable instance (c:ClsP):Decidable (zDC c):=Classical.propDecidable _
def FldOk (c:ClsP) (i:Nat):Prop :=
 let f:=c.2.2.2.2.2.1.getD i (0,0,0)
 zBn c.1 f.2.1 Nm∧zBn c.1 f.2.2 Tok∧(0≤f.1∧f.1≤3)∧(has c.2.1 1→f.1=1)∧∀ k,k<i→txt c.1 (c.2.2.2.2.2.1.getD k (0,0,0)).2.1≠txt c.1 f.2.1
def zEb (c:ClsP):Prop:=∀ i,i<c.2.2.2.2.2.1.length→FldOk c i
noncomputable instance (c:ClsP):Decidable (zEb c):=Classical.propDecidable _
def mth0:MthP:=(0,0,0,0,0,[],[],[])
def zEC (c:ClsP) (m:MthP):Prop :=
 (0≤m.1∧m.1≤15)∧(txt c.1 m.2.1=[98,101,103,105,110]→m.1=1∧txt c.1 m.2.2.1=[40,41,86]) ∧
 (has m.1 8→m.1=8∧has c.2.1 4)∧(¬ has m.1 8→has c.2.1 1→m.1=1)
noncomputable instance (c:ClsP) (m:MthP):Decidable (zEC c m):=Classical.propDecidable _
def MthOk (c:ClsP) (i:Nat):Prop :=
 let m:=c.2.2.2.2.2.2.getD i mth0
 zBn c.1 m.2.1 Nm∧zBn c.1 m.2.2.1 Dsc∧zEC c m ∧
 ∀ k,k<i→¬ (txt c.1 (c.2.2.2.2.2.2.getD k mth0).2.1=txt c.1 m.2.1∧txt c.1 (c.2.2.2.2.2.2.getD k mth0).2.2.1=txt c.1 m.2.2.1)
def zFx (c:ClsP):Prop:=∀ i,i<c.2.2.2.2.2.2.length→MthOk c i
noncomputable instance (c:ClsP):Decidable (zFx c):=Classical.propDecidable _
def argN (op:Int):Int:=if op=1 then 2 else if 3≤op∧op≤6 then 1 else if 14≤op∧op≤29 then 2 else if 0≤op∧op≤34 then 0 else -1
def numB (op:Int):List UInt8→Int
 | []=>0
 | [a]=>a.toNat
 | a :: b :: _=>if op=1∧32768≤(a.toNat:Int)*256+b.toNat then (a.toNat:Int)*256+b.toNat - 65536 else (a.toNat:Int)*256+b.toNat
abbrev InsP:=Int×Int×Int
def opsN:Nat→Int→List UInt8→Option (List InsP)
 | _,_,[]=>some []
 | 0,_,_ :: _=>none
 | k+1,a,x :: l=>if argN x.toNat<0∨(l.length:Int)<argN x.toNat then none
   else (opsN k (a+1+argN x.toNat) (l.drop (argN x.toNat).toNat)).map fun r=>(a,(x.toNat:Int),numB x.toNat (l.take (argN x.toNat).toNat)) :: r
def opsV (s:List UInt8):List InsP×Bool:=match opsN s.length 0 s with
 | some (x :: r)=>(x :: r,true)
 | _=>([],false)
def opI (l:List InsP) (a:Int):Int:=match l.findIdx? (fun x=>decide (x.1=a)) with
 | some j=>j
 | none=>-1
def want (op:Int):Int:=if op=19∨op=28∨op=29 then 2 else if 20≤op∧op≤23 then 4 else if 24≤op∧op≤26 then 5 else if op=27 then 6 else 0
def zNC (p:List Ent) (locals:Int) (l:List InsP) (x:InsP):Prop :=
 (3≤x.2.1∧x.2.1≤6→x.2.2<locals)∧(14≤x.2.1∧x.2.1≤18→0≤opI l x.2.2)∧(want x.2.1≠0→(zBH p x.2.2).1=want x.2.1)
noncomputable instance (p:List Ent) (locals:Int) (l:List InsP) (x:InsP):Decidable (zNC p locals l x):=Classical.propDecidable _
def zEu (p:List Ent) (n:Int) (l:List InsP) (t:TrpP):Prop :=
 t.1<t.2.1∧0≤opI l t.1∧(t.2.1=n∨0≤opI l t.2.1)∧0≤opI l t.2.2.1∧(t.2.2.2=0∨zDD p t.2.2.2)
noncomputable instance (p:List Ent) (n:Int) (l:List InsP) (t:TrpP):Decidable (zEu p n l t):=Classical.propDecidable _
def KndOk (p:List Ent) (k:KndP):Prop:=(0≤k.1∧k.1≤3)∧(k.1=3→zDD p k.2)∧(k.1≠3→k.2=0)
noncomputable instance (p:List Ent) (k:KndP):Decidable (KndOk p k):=Classical.propDecidable _
def zCD (p:List Ent) (l:List KndP):Prop:=∀ k∈l,KndOk p k
noncomputable instance (p:List Ent) (l:List KndP):Decidable (zCD p l):=Classical.propDecidable _
def FrmOk (p:List Ent) (m:MthP) (l:List InsP) (i:Nat):Prop :=
 let f:=m.2.2.2.2.2.2.2.getD i (0,[],[])
 0≤opI l f.1∧(0<i→(m.2.2.2.2.2.2.2.getD (i - 1) (0,[],[])).1<f.1)∧(f.2.1.length:Int)=m.2.2.2.2.1∧(f.2.2.length:Int)≤m.2.2.2.1∧zCD p f.2.1∧zCD p f.2.2
def zSK (p:List Ent) (m:MthP) (l:List InsP):Prop:=∀ i,i<m.2.2.2.2.2.2.2.length→FrmOk p m l i
noncomputable instance (p:List Ent) (m:MthP) (l:List InsP):Decidable (zSK p m l):=Classical.propDecidable _
noncomputable def takes (p:List Ent) (m:MthP):Int:=if has m.1 1 then ((dsc (txt p m.2.2.1)).1.length:Int) else (dsc (txt p m.2.2.1)).1.length+1
def zEc (p:List Ent) (m:MthP):Prop :=
 (opsV m.2.2.2.2.2.1).2=true∧m.2.2.2.1≤8∧(takes p m≤m.2.2.2.2.1∧m.2.2.2.2.1≤8) ∧
 (∀ x∈(opsV m.2.2.2.2.2.1).1,zNC p m.2.2.2.2.1 (opsV m.2.2.2.2.2.1).1 x)∧(∀ t∈m.2.2.2.2.2.2.1,zEu p m.2.2.2.2.2.1.length (opsV m.2.2.2.2.2.1).1 t)∧zSK p m (opsV m.2.2.2.2.2.1).1
noncomputable instance (p:List Ent) (m:MthP):Decidable (zEc p m):=Classical.propDecidable _
def zJR (c:ClsP):Prop:=∀ m∈c.2.2.2.2.2.2,¬ has m.1 8→zEc c.1 m
noncomputable instance (c:ClsP):Decidable (zJR c):=Classical.propDecidable _
noncomputable def chkV (c:ClsP):Int:=if zEQ c.1 c.1.length 0≠0 then 2 else if ¬ zDC c then 3 else if ¬ zEb c then 4 else if ¬ zFx c then 5 else if ¬ zJR c then 6 else 0
end Go.Stow
end
section
namespace Go.TM
open Go.AM
section
variable {α X Y R:Type}
theorem zIX {f:X→Option (X ⊕ (Y ⊕ R))} (mk:Nat→X) (fin:Y) (no:R) (n:Nat) (p:Nat→Prop) {x0:X} (hx:x0=mk 0) {k:Y→Option R} {r:Option R}
  (hend:f (mk n)=some (.inr (.inl fin)))
  (hy:∀ i,i<n→p i→f (mk i)=some (.inl (mk (i+1))))
  (hn:∀ i,i<n→¬ p i→f (mk i)=some (.inr (.inr no)))
  (hk:(∀ i,i<n→p i)→k fin=r) (hno:¬ (∀ i,i<n→p i)→some no=r):bindE (zAF f x0) k=r:=by
 have key:∀ (m i:Nat),i+m=n→((∀ j,i≤j→j<n→p j)→zAF f (mk i)=some (.inl fin))∧(¬ (∀ j,i≤j→j<n→p j)→zAF f (mk i)=some (.inr no)):=by
  intro m
  induction m with
  | zero =>
    intro i hi
    have:i=n:=by omega
    subst this
    rw [zAn,hend]
    exact ⟨fun _=>rfl,fun h=>absurd (fun j h1 h2=>absurd h2 (by omega)) h⟩
  | succ m ih =>
    intro i hi
    obtain ⟨i1,i2⟩:=ih (i+1) (by omega)
    rw [zAn]
    by_cases hp:p i
    ·rw [hy i (by omega) hp]
     refine ⟨fun h=>i1 fun j h1 h2=>h j (by omega) h2,fun h=>i2 fun h'=>h fun j h1 h2=>?_⟩
     by_cases hj:j=i
     ·rw [hj];exact hp
     ·exact h' j (by omega) h2
    ·rw [hn i (by omega) hp]
     exact ⟨fun h=>absurd (h i (Nat.le_refl _) (by omega)) hp,fun _=>rfl⟩
 obtain ⟨k1,k2⟩:=key n 0 (by omega)
 rw [hx]
 by_cases h:∀ i,i<n→p i
 ·rw [k1 fun j _ h2=>h j h2,zAE,hk h]
 ·rw [k2 fun h'=>h fun i hi=>h' i (by omega) hi,zAH,hno h]
theorem zPd {f:X→Option (X ⊕ (Y ⊕ R))} (mk:Nat→X) (fin:Y) (l:List α) (p:α→Bool) (g:Nat→R) {x0:X} (hx:x0=mk 0) {k:Y→Option R}
  (hend:f (mk l.length)=some (.inr (.inl fin)))
  (hstep:∀ i (h:i<l.length),f (mk i)=if p l[i]=true then some (.inr (.inr (g i))) else some (.inl (mk (i+1)))) :
  bindE (zAF f x0) k=match l.findIdx? p with | some j=>some (g j) | none=>k fin:=by
 have key:∀ (m i:Nat),i+m=l.length→zAF f (mk i)=some (match (l.drop i).findIdx? p with | some j=>.inr (g (i+j)) | none=>.inl fin):=by
  intro m
  induction m with
  | zero =>
    intro i hi
    have:i=l.length:=by omega
    subst this
    rw [zAn,hend,List.drop_eq_nil_of_le (Nat.le_refl _)]
    rfl
  | succ m ih =>
    intro i hi
    have h:i<l.length:=by omega
    rw [zAn,hstep i h,zBM h,List.findIdx?_cons]
    by_cases hp:p l[i]=true
    ·rw [if_pos hp,if_pos hp]
     rfl
    ·rw [if_neg hp,if_neg hp]
     simp only
     rw [ih (i+1) (by omega)]
     cases (l.drop (i+1)).findIdx? p with
     | none=>rfl
     | some j=>simp only [Option.map_some,Option.some.injEq];rw [show i+1+j=i+(j+1) by omega]
 rw [hx,key l.length 0 (by omega),List.drop_zero]
 cases l.findIdx? p with
 | none=>rfl
 | some j=>simp only [zAH,Nat.zero_add]
end
end Go.TM
end
section
namespace Go.Stow
instance (b:UInt8):Decidable (let1 b):=inferInstanceAs (Decidable (_∨_))
instance (b:UInt8):Decidable (dig1 b):=inferInstanceAs (Decidable (_∧_))
theorem zSC {c:UInt8}:∀ l:List UInt8,cut c l=match l.findIdx? (fun x=>decide (x=c)) with | some j=>some (l.take j,l.drop (j+1)) | none=>none
 | []=>rfl
 | x :: l=>by
   rw [List.findIdx?_cons]
   unfold cut
   by_cases hx:x=c
   ·simp [hx]
   ·rw [if_neg hx,if_neg (by simpa using hx),zSC l]
    cases l.findIdx? (fun x=>decide (x=c)) <;> rfl
end Go.Stow
namespace Go.TM
open Go.AM
section
variable {X Y R:Type}
theorem zJT {f:X→Option (X ⊕ Y)} {x x':X} (h:f x=some (.inl x')):zAF f x=zAF f x':=by rw [zAn,h]
theorem zCo {f:X→Option (X ⊕ Y)} {x:X} {y:Y} (h:f x=some (.inr y)):zAF f x=some y:=by rw [zAn,h]
end
end Go.TM
namespace Go.Proofs.YtdpapeledldifaaGreat
open Go Go.AM Go.TM Go.Stow
theorem q107 (n a b:Int):F107 (n,a,b)=some (decide (a≤n∧n≤b)):=by
 simp only [F107,zAJ]
 by_cases h:a≤n <;> simp [h]
theorem q212 (b:UInt8):F212 (b.toNat:Int)=some (decide (let1 b)):=by
 simp only [F212,zAJ]
 repeat' split
 all_goals
  rw [Option.some.injEq,Bool.eq_iff_iff,decide_eq_true_iff (p:=let1 b)]
  simp only [let1,decide_eq_true_eq,true_iff,Bool.false_eq_true,false_iff]
  omega
theorem n127 (s:List UInt8) (hl:s.length≤1048576):F127 s=some (decide (Nm s)):=by
 simp only [F127]
 refine zIX (fun i=>(s,(i:Int))) s false s.length (fun i=>∀ h:i<s.length,let1 s[i]∨(i≠0∧dig1 s[i])) rfl ?_ ?_ ?_ ?_ ?_
 ·simp only [Int.lt_irrefl,decide_false,zAK]
 ·intro i h hp
  have hp:=hp h
  have hi:(i:Int)<s.length:=by omega
  have h0:(0:Int)≤i:=by omega
  simp (discharger:=omega) only [hi,h0,decide_true,zAM,zAG,Int.toNat_natCast,zAR,q212,zAB,zAl,zAJ]
  by_cases hq:let1 s[i]
  ·simp (discharger:=omega) only [hq,if_true,zAE,wI];rfl
  ·have hd:=hp.resolve_left hq
   have hi0:¬ (i:Int)=0:=by omega
   have hd1:¬ (s[i].toNat:Int)<48:=by have:=hd.2.1;omega
   have hd2:¬ (57:Int)<s[i].toNat:=by have:=hd.2.2;omega
   simp (discharger:=omega) only [hq,if_false,hi0,hd1,hd2,zAE,wI];rfl
 ·intro i h hp
  have hp:¬ (let1 s[i]∨(i≠0∧dig1 s[i])):=fun e=>hp fun _=>e
  have hi:(i:Int)<s.length:=by omega
  have h0:(0:Int)≤i:=by omega
  simp (discharger:=omega) only [hi,h0,decide_true,zAM,zAG,Int.toNat_natCast,zAR,q212,zAB,zAl,zAJ]
  have hq:¬ let1 s[i]:=fun e=>hp (.inl e)
  simp only [hq,if_false]
  by_cases hi0:(i:Int)=0
  ·simp only [hi0,if_true,zAH]
  ·by_cases hd1:(s[i].toNat:Int)<48
   ·simp only [hi0,hd1,if_true,if_false,zAH]
   ·by_cases hd2:(57:Int)<s[i].toNat
    ·simp only [hi0,hd1,hd2,if_true,if_false,zAH]
    ·exact absurd (.inr ⟨by omega,by omega,by omega⟩) hp
 ·intro h
  rw [q107,zAB]
  congr 1
  rw [decide_eq_decide]
  exact ⟨fun ⟨h1,h2⟩=>⟨⟨by omega,by omega⟩,fun i hi=>h i hi hi⟩,fun hn=>⟨by have:=hn.1;omega,by have:=hn.1;omega⟩⟩
 ·intro h
  rw [eq_comm]
  simp only [Option.some.injEq,decide_eq_false_iff_not]
  exact fun hn=>h fun i _ hi=>hn.2 i hi
end Go.Proofs.YtdpapeledldifaaGreat
end
section
namespace Go.Proofs.YtdpapeledldifaaGreat
open Go Go.AM Go.TM Go.Stow
theorem zTC (b:UInt8) (n:Nat) (h:n<256):((b.toNat:Int)=(n:Int))=(b=UInt8.ofNat n):=by
 apply propext
 constructor
 ·intro e
  have e:b.toNat=n:=by omega
  rw [← e,UInt8.ofNat_toNat]
 ·intro e
  subst e
  rw [UInt8.toNat_ofNat_of_lt' h]
theorem u41 (b:UInt8):((b.toNat:Int)=41)=(b=41):=zTC b 41 (by omega)
theorem u40 (b:UInt8):((b.toNat:Int)=40)=(b=40):=zTC b 40 (by omega)
theorem u59 (b:UInt8):((b.toNat:Int)=59)=(b=59):=zTC b 59 (by omega)
theorem u73 (b:UInt8):((b.toNat:Int)=73)=(b=73):=zTC b 73 (by omega)
theorem u76 (b:UInt8):((b.toNat:Int)=76)=(b=76):=zTC b 76 (by omega)
theorem zJJ {α:Type} {s t r:List α} {n:Nat} (h:s.drop n=t++r):(s.take (n+t.length)).drop n=t∧s.drop (n+t.length)=r:=by
 constructor
 ·rw [List.drop_take,h,show n+t.length - n=t.length by omega,List.take_left']
  rfl
 ·rw [← List.drop_drop,h,List.drop_left']
  rfl
theorem zSA {α:Type} {s t r:List α} {n:Nat} (hn:n≤s.length) (h:s.drop n=t++r):n+t.length+r.length=s.length:=by
 have:=congrArg List.length h
 simp only [List.length_drop,List.length_append] at this
 omega
theorem n213 (s:List UInt8) (a:Nat) (hl:s.length≤1048576) (ha:a≤s.length):F213 (s,(a:Int))=some (match one (s.drop a) with | some (t,_)=>((a+t.length:Nat):Int) | none=>-1):=by
 have h0:(0:Int)≤a:=by omega
 by_cases hlt:(a:Int)<s.length
 ·have hn:a<s.length:=by omega
  have hle:¬ ((s.length:Int)≤a):=by omega
  simp (discharger:=omega) only [F213,hlt,hle,decide_true,decide_false,zAM,zAK,zAG,h0,Int.toNat_natCast,zAR,zAl,zAJ,u73,u76,wI]
  rw [zBM hn,zMZ]
  by_cases h73:s[a]=73
  ·rw [if_pos h73,if_pos h73,zAH]
   simp only [List.length_singleton]
   rfl
  ·rw [if_neg h73,if_neg h73,zAE]
   simp (discharger:=omega) only [hle,if_false,h0,decide_true,zAG,Int.toNat_natCast,zAR]
   by_cases h76:s[a]=76
   ·rw [if_pos h76,if_pos h76]
    simp only [zAE]
    refine (zPd (fun j=>(s,(a:Int),((a+1+j:Nat):Int))) () (s.drop (a+1)) (fun x=>decide (x=59)) (fun j=>if Nm ((s.drop (a+1)).take j) then ((a+1+j+1:Nat):Int) else -1) ?_ ?_ ?_).trans ?_
    ·rw [wI (by omega) (by omega)];rfl
    ·have:¬ (((a+1+(s.drop (a+1)).length:Nat):Int)<s.length):=by simp only [List.length_drop];omega
     simp only [this,if_false]
    ·intro j hj
     have hj':a+1+j<s.length:=by simp only [List.length_drop] at hj;omega
     have hi:((a+1+j:Nat):Int)<s.length:=by omega
     have hi0:(0:Int)≤((a+1+j:Nat):Int):=by omega
     have hg1:(0:Int)≤(a:Int)+1:=by omega
     have hg2:(a:Int)+1≤((a+1+j:Nat):Int):=by omega
     have hg3:((a+1+j:Nat):Int)≤s.length:=by omega
     have ht:((a:Int)+1).toNat=a+1:=by omega
     have hd:(s.take (a+1+j)).drop (a+1)=(s.drop (a+1)).take j:=by rw [List.drop_take];congr 1;omega
     have hb:((s.drop (a+1)).take j).length≤1048576:=by simp only [List.length_take,List.length_drop];omega
     have hg:(s.drop (a+1))[j]=s[a+1+j]:=by simp
     simp (discharger:=omega) only [hi,hi0,hg1,hg2,hg3,if_true,decide_true,Bool.and_self,zAM,zAG,ht,Int.toNat_natCast,zAR,u59,zAJ,hd,n127 _ hb,zAB,wI,decide_eq_true_eq,hg]
     by_cases hx:s[a+1+j]=59
     ·rw [if_pos hx,if_pos hx]
      by_cases hm:Nm ((s.drop (a+1)).take j)
      ·rw [if_pos hm,if_pos hm];rfl
      ·rw [if_neg hm,if_neg hm]
     ·rw [if_neg hx,if_neg hx]
      rfl
    ·rw [zSC]
     cases hf:(s.drop (a+1)).findIdx? (fun x=>decide (x=59)) with
     | none=>rfl
     | some j =>
       simp only [Option.bind_some]
       have hj:=(List.findIdx?_eq_some_iff_getElem.1 hf).1
       by_cases hm:Nm ((s.drop (a+1)).take j)
       ·rw [if_pos hm,if_pos hm]
        simp only [List.length_cons,List.length_append,List.length_take,List.length_nil]
        rw [Nat.min_eq_left (by omega)]
        congr 1
        omega
       ·rw [if_neg hm,if_neg hm]
   ·rw [if_neg h76,if_neg h76]
    rfl
 ·have hle:(s.length:Int)≤a:=by omega
  simp only [F213,hlt,hle,decide_true,decide_false,zAM,zAK,zAE,zAH]
  rw [List.drop_eq_nil_of_le (by omega)]
  rfl
theorem n128 (s:List UInt8) (hl:s.length≤1048576):F128 s=some (decide (Tok s)):=by
 simp only [F128,zAJ]
 by_cases h:(0:Int)<s.length
 ·have e:=n213 s 0 hl (by omega)
  rw [if_pos h]
  rw [show ((0:Int))=((0:Nat):Int) from rfl,e,zAB,List.drop_zero]
  congr 1
  rw [decide_eq_decide]
  cases ho:one s with
  | none =>
    simp only
    constructor
    ·intro h;omega
    ·intro ht;rw [zTE,ho] at ht;cases ht
  | some p =>
    obtain ⟨t,r⟩:=p
    obtain ⟨h1,h2⟩:=zEi ho
    simp only [Nat.zero_add]
    constructor
    ·intro hh
     have:r=[]:=by
      have:=congrArg List.length h1
      rw [List.length_append] at this
      exact List.length_eq_zero_iff.1 (by omega)
     rw [this,List.append_nil] at h1
     rw [h1];exact h2
    ·intro ht
     rw [zTE,ho] at ht
     simp only [Option.some.injEq,Prod.mk.injEq] at ht
     rw [ht.1]
 ·rw [if_neg h,eq_comm]
  have:s=[]:=List.length_eq_zero_iff.1 (by omega)
  subst this
  simp only [Option.some.injEq,decide_eq_false_iff_not]
  exact zDo
theorem zSM {X Y R:Type} {f:X→Option (X ⊕ (Y ⊕ R))} {k:Y→Option R} (s:List UInt8) (mk:List (List UInt8)→Nat→X) (bad:R) (good:List (List UInt8)→List UInt8→R)
  (hend:∀ out a,s.length≤a→bindE (zAF f (mk out a)) k=some bad)
  (h41:∀ out a (h:a<s.length),s[a]=41→bindE (zAF f (mk out a)) k=some (good out (s.drop (a+1))))
  (hbad:∀ out a (h:a<s.length),s[a]≠41→(one (s.drop a)=none∨4≤out.length)→bindE (zAF f (mk out a)) k=some bad)
  (hstep:∀ out a t r (h:a<s.length),s[a]≠41→one (s.drop a)=some (t,r)→out.length<4→f (mk out a)=some (.inl (mk (out++[t]) (a+t.length)))) :
  ∀ (n a:Nat) (out:List (List UInt8)),out.length+n=4→a≤s.length→bindE (zAF f (mk out a)) k=some (match more n (s.drop a) with | some (ts,b)=>good (out++ts) b | none=>bad):=by
 intro n
 induction n with
 | zero =>
   intro a out ho ha
   by_cases h:a<s.length
   ·rw [zBM h]
    simp only [more]
    by_cases hx:s[a]=41
    ·rw [if_pos hx,h41 out a h hx];simp only [List.append_nil]
    ·rw [if_neg hx,hbad out a h hx (.inr (by omega))]
   ·rw [hend out a (by omega),List.drop_eq_nil_of_le (by omega)]
    rfl
 | succ n ih =>
   intro a out ho ha
   by_cases h:a<s.length
   ·rw [zBM h,zPG]
    by_cases hx:s[a]=41
    ·rw [if_pos hx,h41 out a h hx];simp only [List.append_nil]
    ·rw [if_neg hx,← zBM h]
     cases hone:one (s.drop a) with
     | none=>rw [hbad out a h hx (.inl hone)];rfl
     | some p =>
       obtain ⟨t,r⟩:=p
       have hds:=zJJ (zEi hone).1
       have hdl:=zSA ha (zEi hone).1
       rw [zJT (hstep out a t r h hx hone (by omega)),ih (a+t.length) (out++[t]) (by simp;omega) (by omega),hds.2]
       simp only [Option.bind_some]
       cases more n r with
       | none=>rfl
       | some q=>simp only [Option.map_some,List.append_assoc,List.singleton_append]
   ·rw [hend out a (by omega),List.drop_eq_nil_of_le (by omega)]
    rfl
noncomputable def fin3 (ts:List (List UInt8)) (back:List UInt8):List (List UInt8)×List UInt8×Bool:=if back=[86]∨Tok back then (ts,back,true) else ([],[],false)
theorem dsc_cons (x:UInt8) (l:List UInt8):dsc (x :: l)=if x=40 then (match more 4 l with | some (ts,b)=>fin3 ts b | none=>([],[],false)) else ([],[],false):=by
 simp only [dsc]
 split
 ·cases more 4 l with
  | none=>rfl
  | some p=>rfl
 ·rfl
theorem n214 (s:List UInt8) (hl:s.length≤1048576):F214 s=some (dsc s):=by
 cases hs:s with
 | nil=>rfl
 | cons x l =>
   have hne:¬ (((x :: l).length:Int)=0):=by simp only [List.length_cons];omega
   have hpos:0<(x :: l).length:=by simp
   rw [dsc_cons]
   simp (discharger:=assumption) only [F214,hne,decide_false,zAK,zAR,zAl,zAJ,u40,u41,List.getElem_cons_zero]
   by_cases h40:x=40
   ·rw [if_pos h40,if_pos h40,zAE]
    rw [← hs]
    have hd1:s.drop 1=l:=by rw [hs];rfl
    rw [← hd1]
    refine zSM s (fun out a=>(s,out,(a:Int))) ([],[],false) fin3 ?_ ?_ ?_ ?_ 4 1 [] rfl (by rw [hs];simp)
    ·intro out a ha
     have h1:¬ ((a:Int)<s.length):=by omega
     have h2:(s.length:Int)≤a:=by omega
     rw [zCo (y:=.inl (s,out,(a:Int))) (by simp only [h1,if_false,zAH])]
     simp only [zAE,h2,if_true]
    ·intro out a h hx
     have h1:(a:Int)<s.length:=by omega
     have h2:¬ (s.length:Int)≤a:=by omega
     have h0:(0:Int)≤a:=by omega
     rw [zCo (y:=.inl (s,out,(a:Int))) (by simp (discharger:=omega) only [h1,if_true,h0,decide_true,zAG,Int.toNat_natCast,zAR,hx,zAH])]
     have ht:((a:Int)+1).toNat=a+1:=by omega
     have hg1:(0:Int)≤(a:Int)+1:=by omega
     have hg2:(a:Int)+1≤s.length:=by omega
     have hb:(s.drop (a+1)).length≤1048576:=by simp only [List.length_drop];omega
     simp (discharger:=omega) only [zAE,h2,if_false,wI,ht,hg1,hg2,Int.le_refl,decide_true,Bool.and_self,zAG,Int.toNat_natCast,List.take_length,n128 _ hb,zAB,zAJ,fin3]
     by_cases hv:s.drop (a+1)=[86]
     ·simp only [hv,if_true,true_or]
     ·by_cases htk:Tok (s.drop (a+1)) <;> simp only [hv,htk,if_true,if_false,false_or]
    ·intro out a h hx hh
     have h1:(a:Int)<s.length:=by omega
     have h0:(0:Int)≤a:=by omega
     rw [zCo (y:=.inr ([],[],false))]
     ·rfl
     ·simp (discharger:=omega) only [h1,if_true,h0,decide_true,zAG,Int.toNat_natCast,zAR,hx,if_false,zAE,n213 s a hl (by omega),zAB]
      cases ho:one (s.drop a) with
      | none=>rfl
      | some p =>
        obtain ⟨t,r⟩:=p
        rcases hh with hh | hh
        ·rw [ho] at hh;cases hh
        ·have q1:¬ (((a+t.length:Nat):Int)<0):=by omega
         have q2:(4:Int)≤out.length:=by omega
         simp only [q1,q2,if_true,if_false,zAH]
    ·intro out a t r h hx ho hlt
     have h1:(a:Int)<s.length:=by omega
     have h0:(0:Int)≤a:=by omega
     have hds:=zJJ (zEi ho).1
     have hdl:=zSA (by omega) (zEi ho).1
     have q1:¬ (((a+t.length:Nat):Int)<0):=by omega
     have q2:¬ (4:Int)≤out.length:=by omega
     have q3:(a:Int)≤((a+t.length:Nat):Int):=by omega
     have q4:((a+t.length:Nat):Int)≤s.length:=by omega
     have q5:out.length+1≤9223372036854775807:=by omega
     have q6:(out.length+1)*16≤140737488355328:=by omega
     simp (discharger:=omega) only [h1,if_true,h0,decide_true,zAG,Int.toNat_natCast,zAR,hx,if_false,zAE,n213 s a hl (by omega),zAB,ho,q1,q2,q3,q4,q5,q6,Bool.and_self,hds.1]
   ·rw [if_neg h40,if_neg h40,zAH]
theorem n129 (s:List UInt8) (hl:s.length≤1048576):F129 s=some (decide (Dsc s)):=by
 simp only [F129,n214 s hl,zAB]
 congr 1
 rw [Bool.eq_iff_iff,decide_eq_true_iff]
 exact Iff.rfl
end Go.Proofs.YtdpapeledldifaaGreat
end
section
namespace Go.Proofs.YtdpapeledldifaaGreat
open Go Go.AM Go.TM Go.Stow
set_option maxRecDepth 10000
theorem tok_long {x:List UInt8} (h:Tok x) (h1:x≠[73]):3≤x.length:=by
 rcases h with rfl | ⟨n,hn,rfl⟩
 ·exact absurd rfl h1
 ·have:=hn.1.1
  simp only [List.length_cons,List.length_append,List.length_nil];omega
theorem zIn {v:List UInt8} {p:List Cst} {f n s:Int} {fa:List Int} {fi:List (Int×Int×Int)} {ms:List Mth} {bad:Bool} {K:Nat} {ri:Nat} {r0 r1 r2 r3 r4:Int} {r5:List UInt8} {r6:List (Int×Int×Int×Int)} {fr:List Frm} (hv:v.length≤1000000) (hp:Pl K p) (hK:K≤800000) :
  Tot (F807000316 (v,(p,f,n,s,fa,fi,bad),(ms,ri,r0,r1,r2,r3,r4,r5,r6),fr)) fun y=>∃ l q b,y=(l,(q,f,n,s,fa,fi,b),(ms,ri,r0,r1,r2,r3,r4,r5,r6),fr)∧l.length≤16∧Pl (K+18) q:=by
 unfold F807000316
 refine Tot.cnd (fun _=>Tot.ret ⟨_,_,_,rfl,by simp,hp.mono (by omega)⟩) fun _=>?_
 refine Tot.bind (t278 (by omega) (by omega)) ?_
 rintro y ⟨-,-,hy2,hy3⟩
 refine Tot.bindE (fun z=>∃ l q b,z=(l,(q,f,n,s,fa,fi,b),(ms,ri,r0,r1,r2,r3,r4,r5,r6),fr)∧l.length≤16∧Pl (K+18) q)
  (Tot.loop (fun z=>∃ l i q b,z=(l,y,i,(q,f,n,s,fa,fi,b),(ms,ri,r0,r1,r2,r3,r4,r5,r6),fr)∧0≤i∧i≤(y.length:Int)∧(l.length:Int)≤i∧Pl (K+2*i.toNat) q) (fun z=>y.length - z.2.2.1.toNat) ?_ ⟨[],0,p,bad,rfl,by simp,by simp,by simp,hp.mono (by omega)⟩) ?_
 ·rintro _ ⟨l,i,q,b,rfl,i0,i1,hl,hq⟩
  refine Tot.cnd (fun h=>?_) fun h=>Tot.ret ⟨_,_,_,rfl,by omega,hq.mono (by omega)⟩
  simp only [decide_eq_true_eq] at h
  obtain ⟨x,ex⟩:∃ x,y[i.toNat]? = some x:=⟨y[i.toNat],List.getElem?_eq_getElem (by omega)⟩
  have hx:=hy3 x (List.mem_of_getElem? ex)
  have gi:(decide ((0:Int)≤i) && decide (i<(y.length:Int)))=true:=by simp;omega
  have gl:(decide (List.length l+1≤9223372036854775807) && decide ((List.length l+1)*16≤140737488355328))=true:=by simp;omega
  refine Tot.bindE (fun z=>∃ l' q' b',z=(l',y,i,(q',f,n,s,fa,fi,b'),(ms,ri,r0,r1,r2,r3,r4,r5,r6),fr)∧(l'.length:Int)≤i+1∧Pl (K+2*i.toNat+2) q') ?_ ?_
  ·refine Tot.grd gi (Tot.at' ex (Tot.cnd (fun _=>Tot.grd gl (Tot.ret ⟨_,_,_,rfl,by simp;omega,hq.mono (by omega)⟩)) fun h1=>?_))
   simp only [decide_eq_false_iff_not] at h1
   refine Tot.grd gi (Tot.at' ex (Tot.cnd (fun _=>Tot.grd gl (Tot.ret ⟨_,_,_,rfl,by simp;omega,hq.mono (by omega)⟩)) fun h2=>?_))
   refine Tot.grd gi (Tot.at' ex (Tot.cnd (fun _=>Tot.grd gl (Tot.ret ⟨_,_,_,rfl,by simp;omega,hq.mono (by omega)⟩)) fun h3=>?_))
   refine Tot.grd gi (Tot.at' ex ?_)
   rw [n128 x (by omega),zAB]
   refine Tot.cnd (fun ht=>?_) fun _=>Tot.ret ⟨_,_,_,rfl,by omega,hq.mono (by omega)⟩
   simp only [decide_eq_true_eq] at ht
   have h3l:=tok_long ht h1
   refine Tot.grd gi (Tot.at' ex (Tot.grd gi (Tot.at' ex (Tot.grd ?_ ?_))))
   ·rw [wrapI (by omega) (by omega)];simp;omega
   refine Tot.bind (zSW hq (by omega)) ?_
   rintro _ ⟨_,q',b',rfl,hq'⟩
   exact Tot.grd gl (Tot.ret ⟨_,_,_,rfl,by simp;omega,hq'.mono (by omega)⟩)
  rintro _ ⟨l',q',b',rfl,hl',hq'⟩
  have hw:IntKind.wrap .i64 (i+1)=i+1:=wrapI (by omega) (by omega)
  show Tot (some (Sum.inl (l',y,IntKind.wrap .i64 (i+1),(q',f,n,s,fa,fi,b'),(ms,ri,r0,r1,r2,r3,r4,r5,r6),fr))) _
  rw [hw]
  exact Tot.ret ⟨⟨_,_,_,_,rfl,by omega,by omega,hl',hq'.mono (by omega)⟩,by show y.length - (i+1).toNat<y.length - i.toNat;omega⟩
 rintro _ ⟨l,q,b,rfl,hl,hq⟩
 exact Tot.ret ⟨_,_,_,rfl,hl,hq⟩
end Go.Proofs.YtdpapeledldifaaGreat
end
section
namespace Go.Proofs.YtdpapeledldifaaGreat
open Go Go.AM Go.TM Go.Stow
set_option maxRecDepth 10000
def Bu (K:Nat) (y:List Cst×Int×Int×Int×List Int×List (Int×Int×Int)×List Mth×Bool):Prop:=Pl K y.1∧y.2.2.2.2.1.length≤K∧y.2.2.2.2.2.1.length≤K∧Ms K y.2.2.2.2.2.2.1
theorem Bu.mono {K L:Nat} {y:List Cst×Int×Int×Int×List Int×List (Int×Int×Int)×List Mth×Bool} (h:Bu K y) (hc:K≤L):Bu L y:=⟨h.1.mono hc,Nat.le_trans h.2.1 hc,Nat.le_trans h.2.2.1 hc,h.2.2.2.mono hc⟩
theorem t279 {v:List UInt8} {p:List Cst} {f n s:Int} {fa:List Int} {fi:List (Int×Int×Int)} {ms:List Mth} {bad:Bool} {K:Nat} (hv:v.length≤1000000) (h:Bu K (p,f,n,s,fa,fi,ms,bad)) (hK:K≤700000) :
  Tot (F279 (v,p,f,n,s,fa,fi,ms,bad)) (Bu (K+60)):=by
 obtain ⟨hp,hfa,hfi,hm⟩:=h
 simp only at hp hfa hfi hm
 have hl:=hm.1
 unfold F279
 refine Tot.bindE (fun z=>∃ b,z=(v,b,p,f,n,s,fa,fi,ms,bad)∧(b=true→2<v.length)) ?_ ?_
 ·refine Tot.cnd (fun h=>?_) fun _=>Tot.ret ⟨_,rfl,by simp⟩
  simp only [decide_eq_true_eq] at h
  exact Tot.grd (by simp;omega) (Tot.ret ⟨_,rfl,fun _=>by omega⟩)
 rintro _ ⟨b,rfl,hb⟩
 refine Tot.cnd (fun h=>?_) fun _=>?_
 ·have:=hb h
  refine Tot.grd (by simp;omega) (Tot.bind (t278 (by simp;omega) (by omega)) ?_)
  rintro y ⟨hy1,-,hy2,hy3⟩
  refine Tot.bind (t309 (by omega) (by omega) (fun x hx=>by have:=hy3 x hx;simp only [List.length_drop,List.length_take] at this;omega) hp hm (by omega)) ?_
  rintro _ ⟨q,ms',b,rfl,hq,hm'⟩
  exact Tot.ret ⟨hq.mono (by omega),by simp only;omega,by simp only;omega,hm'.mono (by omega)⟩
 refine Tot.bind (t278 (by omega) (by omega)) ?_
 rintro w ⟨hw1,-,hw2,hw3⟩
 have hwt:∀ x∈w,x.length≤1000000:=fun x hx=>by have:=hw3 x hx;omega
 have hwt':∀ x∈w,x.length≤1000000000000:=fun x hx=>by have:=hw3 x hx;omega
 have keep:∀ {b:Bool},Bu (K+60) (p,f,n,s,fa,fi,ms,b):=⟨hp.mono (by omega),by simp only;omega,by simp only;omega,hm.mono (by omega)⟩
 refine Tot.bindE (fun z=>z=(w,decide ((0:Int)<(ms.length:Int)),p,f,n,s,fa,fi,ms,bad)) (Tot.ret rfl) ?_
 rintro _ rfl
 generalize hbo:decide ((0:Int)<(ms.length:Int))=body
 refine Tot.bindE (fun z=>Bu (K+60) z) ?_ ?_
 ·refine Tot.bindE (fun z=>∃ b,z=(w,body,b,p,f,n,s,fa,fi,ms,bad)∧(b=true→w.length=4)) ?_ ?_
  ·refine Tot.grd (by simp;omega) (Tot.at (by show 0<w.length;omega) fun x _=>Tot.cnd (fun _=>Tot.cnd (fun h=>?_) fun _=>Tot.ret ⟨_,rfl,by simp⟩) fun _=>Tot.ret ⟨_,rfl,by simp⟩)
   simp only [decide_eq_true_eq] at h
   exact Tot.ret ⟨_,rfl,fun _=>by omega⟩
  rintro _ ⟨b,rfl,hb⟩
  refine Tot.cnd (fun h=>?_) fun _=>?_
  ·have:=hb h
   refine Tot.grd (by simp;omega) (Tot.at (by show 1<w.length;omega) fun x1 _=>Tot.bind (t310 hp (by omega)) ?_)
   rintro _ ⟨_,q,b,rfl,hq⟩
   refine Tot.grd (by simp;omega) (Tot.at (by show 2<w.length;omega) fun x2 _=>Tot.bind (t310 hq (by omega)) ?_)
   rintro _ ⟨_,q,b,rfl,hq⟩
   refine Tot.grd (by simp;omega) (Tot.at (by show 3<w.length;omega) fun x3 hx3=>Tot.bind (t311 (hwt' _ (List.mem_of_getElem? hx3))) ?_)
   rintro _ ⟨_,b,rfl⟩
   exact Tot.ret ⟨hq.mono (by omega),by simp only;omega,by simp only;omega,hm.mono (by omega)⟩
  refine Tot.bindE (fun z=>∃ b,z=(w,body,b,p,f,n,s,fa,fi,ms,bad)∧(b=true→w.length=2)) ?_ ?_
  ·exact Tot.grd (by simp;omega) (Tot.at (by show 0<w.length;omega) fun x _=>Tot.cnd (fun _=>Tot.ret ⟨_,rfl,fun h=>by simp only [decide_eq_true_eq] at h;omega⟩) fun _=>Tot.ret ⟨_,rfl,by simp⟩)
  rintro _ ⟨b,rfl,hb⟩
  refine Tot.cnd (fun h=>?_) fun _=>?_
  ·have:=hb h
   refine Tot.grd (by simp;omega) (Tot.at (by show 1<w.length;omega) fun x1 _=>Tot.bind (t5000310 hp (by omega)) ?_)
   rintro _ ⟨_,q,b,rfl,hq⟩
   exact Tot.grd (by simp;omega) (Tot.ret ⟨hq.mono (by omega),by simp;omega,by simp only;omega,hm.mono (by omega)⟩)
  refine Tot.bindE (fun z=>∃ b,z=(w,body,b,p,f,n,s,fa,fi,ms,bad)∧(b=true→w.length=4)) ?_ ?_
  ·exact Tot.grd (by simp;omega) (Tot.at (by show 0<w.length;omega) fun x _=>Tot.cnd (fun _=>Tot.ret ⟨_,rfl,fun h=>by simp only [decide_eq_true_eq] at h;omega⟩) fun _=>Tot.ret ⟨_,rfl,by simp⟩)
  rintro _ ⟨b,rfl,hb⟩
  refine Tot.cnd (fun h=>?_) fun _=>?_
  ·have hw4:=hb h
   obtain ⟨x1,e1⟩:∃ x,w[1]? = some x:=⟨w[1],List.getElem?_eq_getElem (by omega)⟩
   obtain ⟨x2,e2⟩:∃ x,w[2]? = some x:=⟨w[2],List.getElem?_eq_getElem (by omega)⟩
   obtain ⟨x3,e3⟩:∃ x,w[3]? = some x:=⟨w[3],List.getElem?_eq_getElem (by omega)⟩
   have g1:decide (1<w.length)=true:=by simp only [decide_eq_true_eq];omega
   have g2:decide (2<w.length)=true:=by simp only [decide_eq_true_eq];omega
   have g3:decide (3<w.length)=true:=by simp only [decide_eq_true_eq];omega
   have k1:decide ((1:Int)<(w.length:Int))=true:=by simp only [decide_eq_true_eq];omega
   have k2:decide ((2:Int)<(w.length:Int))=true:=by simp only [decide_eq_true_eq];omega
   have k3:decide ((3:Int)<(w.length:Int))=true:=by simp only [decide_eq_true_eq];omega
   obtain ⟨_,c1,i1,q1,b1,rfl,hq1⟩:=zRU (x:=x1) (f:=f) (n:=n) (s:=s) (fa:=fa) (fi:=fi) (ms:=ms) (bad:=bad) hp (by omega)
   obtain ⟨_,c2,i2,q2,b2,rfl,hq2⟩:=zRU (x:=x2) (f:=f) (n:=n) (s:=s) (fa:=fa) (fi:=fi) (ms:=ms) (bad:=b1) hq1 (by omega)
   obtain ⟨_,c3,i3,b3,rfl⟩:=t6000311 (x:=x3) (p:=q2) (f:=f) (n:=n) (s:=s) (fa:=fa) (fi:=fi) (ms:=ms) (bad:=b2) (hwt' _ (List.mem_of_getElem? e3))
   have gl:(decide (List.length fi+1≤9223372036854775807) && decide ((List.length fi+1)*24≤140737488355328))=true:=by simp;omega
   simp only [k1,k2,k3,g1,g2,g3,zBz e1,zBz e2,zBz e3,c1,c2,c3,zAB,eq_self,decide_true,zAG,zAa,gl]
   exact Tot.ret ⟨hq2.mono (by omega),by simp only;omega,by simp;omega,hm.mono (by omega)⟩
  refine Tot.bindE (fun z=>∃ b,z=(w,body,b,p,f,n,s,fa,fi,ms,bad)∧(b=true→w.length=4∨w.length=6)) ?_ ?_
  ·refine Tot.grd (by simp;omega) (Tot.at (by show 0<w.length;omega) fun x _=>Tot.cnd (fun _=>Tot.cnd (fun h=>?_) fun _=>Tot.ret ⟨_,rfl,fun h=>by simp only [decide_eq_true_eq] at h;omega⟩) fun _=>Tot.ret ⟨_,rfl,by simp⟩)
   simp only [decide_eq_true_eq] at h
   exact Tot.ret ⟨_,rfl,fun _=>by omega⟩
  rintro _ ⟨b,rfl,hb⟩
  refine Tot.cnd (fun h=>?_) fun _=>?_
  ·refine Tot.bind (t313 (hb h) hwt' hp hm (by omega)) ?_
   rintro _ ⟨q,ms',b,rfl,hq,hm'⟩
   exact Tot.ret ⟨hq.mono (by omega),by simp only;omega,by simp only;omega,hm'.mono (by omega)⟩
  refine Tot.bindE (fun z=>∃ b,z=(w,body,b,p,f,n,s,fa,fi,ms,bad)∧(b=true→w.length=5∧body=true)) ?_ ?_
  ·refine Tot.grd (by simp;omega) (Tot.at (by show 0<w.length;omega) fun x _=>Tot.cnd (fun _=>Tot.cnd (fun h=>?_) fun _=>Tot.ret ⟨_,rfl,by simp⟩) fun _=>Tot.ret ⟨_,rfl,by simp⟩)
   simp only [decide_eq_true_eq] at h
   exact Tot.ret ⟨_,rfl,fun h=>⟨by omega,h⟩⟩
  rintro _ ⟨b,rfl,hb⟩
  refine Tot.cnd (fun h=>?_) fun _=>?_
  ·obtain ⟨h5,h6⟩:=hb h
   rw [← hbo,decide_eq_true_eq] at h6
   refine Tot.bind (t314 h5 (by omega) hwt' hp hm (by omega)) ?_
   rintro _ ⟨q,ms',b,rfl,hq,hm'⟩
   exact Tot.ret ⟨hq.mono (by omega),by simp only;omega,by simp only;omega,hm'.mono (by omega)⟩
  refine Tot.bindE (fun z=>∃ b,z=(w,b,p,f,n,s,fa,fi,ms,bad)∧(b=true→w.length=4∧body=true)) ?_ ?_
  ·refine Tot.grd (by simp;omega) (Tot.at (by show 0<w.length;omega) fun x _=>Tot.cnd (fun _=>Tot.cnd (fun h=>?_) fun _=>Tot.ret ⟨_,rfl,by simp⟩) fun _=>Tot.ret ⟨_,rfl,by simp⟩)
   simp only [decide_eq_true_eq] at h
   exact Tot.ret ⟨_,rfl,fun h=>⟨by omega,h⟩⟩
  rintro _ ⟨b,rfl,hb⟩
  refine Tot.cnd (fun h=>?_) fun _=>Tot.ret keep
  obtain ⟨h5,h6⟩:=hb h
  rw [← hbo,decide_eq_true_eq] at h6
  have h1:1≤ms.length:=by omega
  obtain ⟨x1,e1⟩:∃ x,w[1]? = some x:=⟨w[1],List.getElem?_eq_getElem (by omega)⟩
  obtain ⟨x2,e2⟩:∃ x,w[2]? = some x:=⟨w[2],List.getElem?_eq_getElem (by omega)⟩
  obtain ⟨x3,e3⟩:∃ x,w[3]? = some x:=⟨w[3],List.getElem?_eq_getElem (by omega)⟩
  have g1:decide (1<w.length)=true:=by simp only [decide_eq_true_eq];omega
  have g2:decide (2<w.length)=true:=by simp only [decide_eq_true_eq];omega
  have g3:decide (3<w.length)=true:=by simp only [decide_eq_true_eq];omega
  have j1:decide ((1:Int)<(w.length:Int))=true:=by simp only [decide_eq_true_eq];omega
  have j2:decide ((2:Int)<(w.length:Int))=true:=by simp only [decide_eq_true_eq];omega
  have j3:decide ((3:Int)<(w.length:Int))=true:=by simp only [decide_eq_true_eq];omega
  obtain ⟨m,em⟩:∃ m,ms[ms.length - 1]? = some m:=⟨ms[ms.length - 1],List.getElem?_eq_getElem (by omega)⟩
  have hmb:=hm.2 m (List.mem_of_getElem? em)
  have hlt:decide (ms.length - 1<ms.length)=true:=by simp only [decide_eq_true_eq];omega
  obtain ⟨m0,m1,m2,m3,m4,m5,m6,m7⟩:=m
  obtain ⟨k1,k2,k3,k4⟩:=hmb
  simp only at k1 k2 k3 k4
  obtain ⟨_,c1,i1,b1,rfl⟩:=zSV (x:=x1) (p:=p) (f:=f) (n:=n) (s:=s) (fa:=fa) (fi:=fi) (ms:=ms) (bad:=bad) (ri:=ms.length - 1) (r0:=m0) (r1:=m1) (r2:=m2) (r3:=m3) (r4:=m4) (r5:=m5) (r6:=m6) (fr:=m7) (hwt' _ (List.mem_of_getElem? e1))
  obtain ⟨_,c2,i2,q2,b2,rfl,l2,hq2⟩:=zIn (v:=x2) (f:=f) (n:=n) (s:=s) (fa:=fa) (fi:=fi) (ms:=ms) (bad:=b1) (ri:=ms.length - 1) (r0:=m0) (r1:=m1) (r2:=m2) (r3:=m3) (r4:=m4) (r5:=m5) (r6:=m6) (fr:=m7) (hwt _ (List.mem_of_getElem? e2)) hp (by omega)
  obtain ⟨_,c3,i3,q3,b3,rfl,l3,hq3⟩:=zIn (v:=x3) (f:=f) (n:=n) (s:=s) (fa:=fa) (fi:=fi) (ms:=ms) (bad:=b2) (ri:=ms.length - 1) (r0:=m0) (r1:=m1) (r2:=m2) (r3:=m3) (r4:=m4) (r5:=m5) (r6:=m6) (fr:=m7) (hwt _ (List.mem_of_getElem? e3)) hq2 (by omega)
  have gl:(decide (List.length m7+1≤9223372036854775807) && decide ((List.length m7+1)*56≤140737488355328))=true:=by simp;omega
  simp only [g1,g2,g3,j1,j2,j3,q315 h1 (show ms.length≤1000000 by omega),zMR h1 (show ms.length≤1000000 by omega),zBz e1,zBz e2,zBz e3,zBz em,c1,c2,c3,zAB,eq_self,decide_true,Bool.and_true,Bool.true_and,beq_self_eq_true,hlt,zAG,zAa,gl]
  refine Tot.ret ⟨hq3.mono (by omega),by simp only;omega,by simp only;omega,(hm.mono (by omega)).set _ ?_⟩
  refine ⟨by simp only;omega,by simp only;omega,by simp only [List.length_append,List.length_cons,List.length_nil];omega,fun f hf=>?_⟩
  simp only [List.mem_append,List.mem_singleton] at hf
  rcases hf with hf | rfl
  ·exact k4 f hf
  ·exact ⟨l2,l3⟩
 ·rintro ⟨p,f,n,s,fa,fi,ms,bad⟩ hz
  exact Tot.ret hz
end Go.Proofs.YtdpapeledldifaaGreat
end
section
namespace Go.Proofs.YtdpapeledldifaaGreat
open Go Go.AM Go.TM Go.Stow
end Go.Proofs.YtdpapeledldifaaGreat
end
section
namespace Go.Stow
def bndP (p:List Ent):Prop:=p.length≤1048576∧∀ x∈p,x.2.1.length≤1048576
theorem bndP.at {p:List Ent} (h:bndP p) (i:Int):(zBH p i).2.1.length≤1048576:=by
 unfold zBH
 split
 ·rename_i hi
  rw [List.getElem?_eq_getElem (by omega)]
  exact h.2 _ (List.getElem_mem _)
 ·simp
end Go.Stow
namespace Go.Proofs.YtdpapeledldifaaGreat
open Go Go.AM Go.TM Go.Stow
noncomputable instance (s:List UInt8):Decidable (zRG s):=Classical.propDecidable _
theorem q215 (p:List Cst) (i:Int) (hp:p.length≤1048576):F215 (p,i)=some (zBH p i):=by
 simp only [F215,q107,zAB,zAJ]
 unfold zBH
 by_cases h:1≤i∧i≤p.length
 ·rw [if_pos h,if_pos h]
  have h1:(0:Int)≤i - 1:=by omega
  rw [wI (by omega) (by omega),zAU h1,zAR (by omega),List.getElem?_eq_getElem (by omega)]
  rfl
 ·rw [if_neg h,if_neg h]
theorem zGN {R:Type} {r:Option Cst} {e:Cst} (h:r=some e) (k:Cst→Option R):zAA r k=k (e.1,e.2.1,e.2.2.1,e.2.2.2):=by rw [h];rfl
theorem q131 (p:List Cst) (i:Int) (hp:bndP p):F131 (p,i)=some (txt p i):=by
 simp only [F131]
 rw [zGN (q215 p i hp.1)]
 simp only [zAl,zAJ,txt]
 split <;> rfl
theorem zDO {p:List Cst} (h:bndP p) (i:Int):(txt p i).length≤1048576:=by
 unfold txt
 split
 ·exact h.at i
 ·simp
theorem q130 (p:List Cst) (i:Int) (hp:bndP p):F130 (p,i)=some (clsN p i):=by
 simp only [F130]
 rw [zGN (q215 p i hp.1)]
 simp only
 rw [zGN (q215 p _ hp.1)]
 simp only [zAl,zAJ,n127 _ (hp.at _),zAB,clsN]
 by_cases h1:(zBH p i).1=2
 ·by_cases h2:(zBH p (zBH p i).2.2.1).1=1
  ·by_cases h3:Nm (zBH p (zBH p i).2.2.1).2.1
   ·rw [if_pos h1,if_pos h2,if_pos h3,if_pos ⟨h1,h2,h3⟩]
   ·rw [if_pos h1,if_pos h2,if_neg h3,if_neg fun h=>h3 h.2.2]
  ·rw [if_pos h1,if_neg h2,if_neg fun h=>h2 h.2.1]
 ·rw [if_neg h1,if_neg fun h=>h1 h.1]
theorem q132 (p:List Cst) (i:Int) (hp:bndP p):F132 (p,i)=some (clsN p (zBH p i).2.2.1,txt p (zBH p (zBH p i).2.2.2).2.2.1,txt p (zBH p (zBH p i).2.2.2).2.2.2):=by
 simp only [F132]
 rw [zGN (q215 p i hp.1)]
 simp only
 rw [zGN (q215 p _ hp.1)]
 simp only [q130 p _ hp,q131 p _ hp,zAB,eq_self,decide_true,zAG,zAa]
theorem q133 (p:List Cst) (i k:Int) (hp:bndP p):F133 (p,i,k)=some (decide ((zBH p i).1=k)):=by
 simp only [F133]
 rw [zGN (q215 p i hp.1)]
theorem sd {P:Prop} [Decidable P]:∀ {b:Bool},(b=true↔P)→some b=some (decide P):=by
 intro b h
 congr 1
 rw [Bool.eq_iff_iff,h,decide_eq_true_iff]
theorem q53 (p:List Cst) (i:Nat) (hp:bndP p) (hi:i<p.length):F53 (p,(i:Int))=some (decide (zGQ p p[i])):=by
 have h0:(0:Int)≤i:=by omega
 have hw:IntKind.wrap .i64 ((i:Int)+1)=(i:Int)+1:=by have:=hp.1;exact wI (by omega) (by omega)
 have hx:p[i].2.1.length≤1048576:=hp.2 _ (List.getElem_mem hi)
 have he:=zUc hi
 simp only [F53,h0,decide_true,zAG,Int.toNat_natCast,hw]
 rw [zAR hi]
 simp only [q130 p _ hp,q131 p _ hp,q132 p _ hp,q133 p _ _ hp,q107,he,n127 _ hx,n128 _ hx,n129 _ hx,n127 _ (zDO hp _),n128 _ (zDO hp _),n129 _ (zDO hp _),zAB,zAl,zAJ]
 generalize hxe:p[i]=x at he
 obtain ⟨x0,x1,x2,x3⟩:=x
 rw [hxe] at hx
 simp only at hx ⊢
 by_cases e1:x0=1
 ·subst e1
  by_cases h2:x2=0 <;> by_cases h3:x3=0 <;> by_cases h4:Nm x1 <;> by_cases h5:Tok x1 <;> simp only [h2,h3,h4,h5,if_true,if_false] <;> exact sd (by unfold zGQ;simp [*,zRG])
 rw [if_neg e1]
 by_cases e2:x0=2
 ·have hc:clsN p ((i:Int)+1)=[]↔¬ zBn p x2 Nm:=by
   rw [← Classical.not_not (a:=clsN p ((i:Int)+1)=[]),not_congr]
   show clsN p ((i:Int)+1)≠[]↔_
   rw [zCy];unfold zDD;rw [he];simp [e2]
  subst e2
  by_cases h3:x1=[] <;> by_cases h4:x3=0 <;> by_cases h5:zBn p x2 Nm <;> simp only [h3,h4,if_true,if_false] <;> exact sd (by unfold zGQ;simp [*])
 rw [if_neg e2]
 by_cases e3:x0=3
 ·have h6:Nm (txt p x2)↔zBn p x2 Nm:=zGR zGF
  have h7:Tok (txt p x3)∨Dsc (txt p x3)↔zBn p x3 zRG:=zGR (Q:=zRG) zMb
  subst e3
  by_cases h3:x1=[] <;> by_cases h4:Nm (txt p x2) <;> by_cases h5:Tok (txt p x3) <;> by_cases h8:Dsc (txt p x3) <;> simp only [h3,h4,h5,h8,if_true,if_false] <;> exact sd (by unfold zGQ;rw [← h6,← h7];clear h6 h7 he hxe;simp [*])
 rw [if_neg e3]
 have hc:clsN p x2=[]↔¬ zDD p x2:=by
  rw [← Classical.not_not (a:=clsN p x2=[]),not_congr]
  exact zCy
 by_cases e4:4≤x0∧x0≤6
 ·rw [if_pos e4]
  by_cases h3:x1=[]
  ·rw [if_pos h3]
   by_cases h4:clsN p x2=[]
   ·rw [if_pos h4,zAH]
    have:=hc.1 h4
    exact sd (by unfold zGQ;simp [*])
   ·rw [if_neg h4]
    have hcl:zDD p x2:=Classical.byContradiction fun h=>h4 (hc.2 h)
    by_cases h5:(zBH p x3).1=3
    ·rw [if_pos h5,zAE]
     simp only [n128 _ (zDO hp _),n129 _ (zDO hp _),zAB]
     have h6:Tok (txt p (zBH p x3).2.2.2)↔zBn p (zBH p x3).2.2.2 Tok:=zGR zDo
     have h7:Dsc (txt p (zBH p x3).2.2.2)↔zBn p (zBH p x3).2.2.2 Dsc:=zGR zFK
     by_cases h8:x0=4
     ·rw [if_pos h8]
      exact sd (by unfold zGQ;rw [decide_eq_true_iff,h6];simp [*])
     ·rw [if_neg h8]
      have h9:x0=5∨x0=6:=by omega
      exact sd (by unfold zGQ;rw [decide_eq_true_iff,h7];simp [*])
    ·rw [if_neg h5,zAH]
     exact sd (by unfold zGQ;simp [*])
  ·rw [if_neg h3,zAH]
   exact sd (by unfold zGQ;simp [*])
 ·rw [if_neg e4,zAH]
  have h8:¬ x0=4:=by omega
  have h9:¬ x0=5:=by omega
  have h10:¬ x0=6:=by omega
  exact sd (by unfold zGQ;simp [*])
theorem q15 (p:List Cst) (hp:bndP p) (h60:p.length≤60):F15 p=some (zEQ p p.length 0):=by
 simp only [F15,zAJ,zAl]
 have h61:¬ (60:Int)<p.length:=by omega
 suffices h:∀ (m i:Nat),i+m=p.length→∀ k:List Cst→Option Int,k p=some 0→bindE (zAF (fun (x:List Cst×Int) =>
   bindE (if x.2<(x.1.length:Int) then if x.2<60 then some (Sum.inl (x.1,x.2)) else some (Sum.inr (Sum.inr (Sum.inl x.1))) else some (Sum.inr (Sum.inr (Sum.inl x.1)))) fun (pool2,i1) =>
   zAA (F53 (pool2,i1)) fun y =>
   cndO y (some (Sum.inl (pool2,IntKind.wrap .i64 (i1+1)))) (some (Sum.inr (Sum.inr (IntKind.wrap .i64 (i1+1)))))) (p,(i:Int))) k=some (zEQ p m i) by
  refine h p.length 0 (by omega) _ ?_
  rw [if_neg h61]
 intro m
 induction m with
 | zero =>
   intro i hi k hk
   have h1:¬ (i:Int)<p.length:=by omega
   rw [zCo (y:=.inl p) (by simp only [h1,if_false,zAH]),zAE,hk]
   rfl
 | succ m ih =>
   intro i hi k hk
   have h1:(i:Int)<p.length:=by omega
   have h2:(i:Int)<60:=by omega
   have hlt:i<p.length:=by omega
   unfold zEQ
   rw [dif_pos hlt]
   by_cases he:zGQ p p[i]
   ·rw [if_pos he,← ih (i+1) (by omega) k hk,zJT]
    simp only [h1,h2,if_true,zAE,q53 p i hp hlt,zAB,he,decide_true,zAM]
    rw [wI (by omega) (by omega)]
    rfl
   ·rw [if_neg he,zCo (y:=.inr ((i:Int)+1)),zAH]
    simp only [h1,h2,if_true,zAE,q53 p i hp hlt,zAB,he,decide_false,zAK]
    rw [wI (by omega) (by omega)]
end Go.Proofs.YtdpapeledldifaaGreat
end
section
namespace Go.TM
open Go.AM
section
variable {α X Y R S:Type}
theorem zDB {l:List α} {n:Nat} {k:α→Option R} (d:α) (h:n<l.length):atO l n k=k (l.getD n d):=by
 rw [zAR h,List.getD_eq_getElem?_getD,List.getElem?_eq_getElem h];rfl
theorem zUj {f:X→Option (X ⊕ (Y ⊕ R))} (F:Option R→Option S) (mk:Nat→X) (fin:Y) (no:R) (n:Nat) (q:Nat→Prop) {x0:X} {k:Y→Option R} {P:Prop} {A B:Option S} (hx:x0=mk 0)
  (hend:f (mk n)=some (.inr (.inl fin)))
  (hstep:∀ i,i<n→(q i∧f (mk i)=some (.inl (mk (i+1))))∨(¬ q i∧f (mk i)=some (.inr (.inr no))))
  (hP:P↔∀ i,i<n→q i) (hA:F (k fin)=A) (hB:F (some no)=B) :
  (P∧F (bindE (zAF f x0) k)=A)∨(¬ P∧F (bindE (zAF f x0) k)=B):=by
 have key:∀ r,((∀ i,i<n→q i)→k fin=r)→(¬ (∀ i,i<n→q i)→some no=r)→bindE (zAF f x0) k=r:=fun r h1 h2 =>
  zIX mk fin no n q hx hend (fun i h hq=>(hstep i h).elim (fun h=>h.2) fun h=>absurd hq h.1) (fun i h hq=>(hstep i h).elim (fun h=>absurd h.1 hq) fun h=>h.2) h1 h2
 by_cases h:∀ i,i<n→q i
 ·exact .inl ⟨hP.2 h,by rw [key (k fin) (fun _=>rfl) (fun h'=>absurd h h'),hA]⟩
 ·exact .inr ⟨fun hp=>h (hP.1 hp),by rw [key (some no) (fun h'=>absurd h' h) (fun _=>rfl),hB]⟩
theorem zPs {f:X→Option (X ⊕ (Y ⊕ R))} (mk:Nat→X) (fin:Y) (no:R) (n:Nat) (q:Nat→Prop) {x0:X} {k:Y→Option R} {r:Option R} (hx:x0=mk 0)
  (hend:f (mk n)=some (.inr (.inl fin)))
  (hstep:∀ i,i<n→(q i∧f (mk i)=some (.inl (mk (i+1))))∨(¬ q i∧f (mk i)=some (.inr (.inr no))))
  (hk:(∀ i,i<n→q i)→k fin=r) (hno:¬ (∀ i,i<n→q i)→some no=r):bindE (zAF f x0) k=r :=
 zIX mk fin no n q hx hend (fun i h hq=>(hstep i h).elim (fun h=>h.2) fun h=>absurd hq h.1) (fun i h hq=>(hstep i h).elim (fun h=>absurd h.1 hq) fun h=>h.2) hk hno
end
end Go.TM
end
section
namespace Go.Stow
theorem zSD {p:List Ent} {i:Int}:clsN p i=[]↔¬ zDD p i:=by
 constructor
 ·intro h hc;exact zCy.2 hc h
 ·intro h;exact Classical.byContradiction fun hn=>h (zCy.1 hn)
end Go.Stow
namespace Go.Proofs.YtdpapeledldifaaGreat
open Go Go.AM Go.TM Go.Stow
theorem q108 {f k:Int} (h0:0≤f) (h1:f≤255) (hk:1≤k):F108 (f,k)=some (decide (has f k)):=by
 have hk0:¬ k=0:=by omega
 have hd:0≤f / k:=Int.ediv_nonneg h0 (by omega)
 have hd2:f / k≤f:=Int.ediv_le_self k h0
 simp only [F108,hk0,decide_false,Bool.not_false,zAG]
 rw [Int.tdiv_eq_ediv_of_nonneg h0,wI (by omega) (by omega),Int.tmod_eq_emod_of_nonneg hd]
 rfl
theorem q175 (c:Cls) (hp:bndP c.1) (hf:0≤c.2.1∧c.2.1≤255) (hl:c.2.2.2.2.1.length≤1048576):F175 c=some (decide (zDC c)):=by
 obtain ⟨c0,c1,c2,c3,c4,c5,c6⟩:=c
 obtain ⟨hf0,hf1⟩:=hf
 simp only at hp hf0 hf1 hl
 have hH:zDC (c0,c1,c2,c3,c4,c5,c6)↔(zDD c0 c2∧zDD c0 c3∧clsN c0 c3≠clsN c0 c2∧(0≤c1∧c1≤7)∧(∀ i,i<c4.length→zDD c0 (c4.getD i 0)∧∀ k,k<i→clsN c0 (c4.getD k 0)≠clsN c0 (c4.getD i 0))∧¬ (has c1 2∧has c1 4)∧(has c1 1→has c1 4∧clsN c0 c3=[79,98,106])):=Iff.rfl
 simp only [F175,q130 _ _ hp,zAB,q107,zAl,zAJ]
 by_cases a1:clsN c0 c2=[]
 ·rw [if_pos a1,zAH]
  exact sd (by rw [hH];simp [zSD.1 a1])
 rw [if_neg a1]
 have a1:=zCy.1 a1
 by_cases a2:clsN c0 c3=[]
 ·rw [if_pos a2,zAH]
  exact sd (by rw [hH];simp [zSD.1 a2])
 rw [if_neg a2]
 have a2:=zCy.1 a2
 by_cases a3:clsN c0 c3=clsN c0 c2
 ·rw [if_pos a3,zAH]
  exact sd (by rw [hH];simp [a3])
 rw [if_neg a3]
 by_cases a4:0≤c1∧c1≤7
 ·rw [if_pos a4,zAE]
  simp only
  refine zPs (fun i=>(clsN c0 c3,(i:Int),c0,c1,c2,c3,c4,c5,c6)) (clsN c0 c3,c0,c1,c2,c3,c4,c5,c6) false c4.length (fun i=>zDD c0 (c4.getD i 0)∧∀ k,k<i→clsN c0 (c4.getD k 0)≠clsN c0 (c4.getD i 0)) rfl ?_ ?_ ?_ ?_
  ·simp only [Int.lt_irrefl,if_false]
  ·intro i hi
   have h1:(i:Int)<c4.length:=by omega
   have h0:(0:Int)≤i:=by omega
   simp only [h1,h0,if_true,decide_true,zAG,Int.toNat_natCast]
   rw [zDB 0 hi]
   simp only [q130 _ _ hp,zAB]
   by_cases b1:clsN c0 (c4.getD i 0)=[]
   ·rw [if_pos b1,zAH]
    exact .inr ⟨fun h=>zCy.2 h.1 b1,rfl⟩
   ·rw [if_neg b1]
    have b1:=zCy.1 b1
    refine zUj (F:=(bindE · _)) (fun k=>(clsN c0 c3,(i:Int),(k:Int),c0,c1,c2,c3,c4,c5,c6)) (clsN c0 c3,(i:Int),c0,c1,c2,c3,c4,c5,c6) (.inr (.inr (.inr false))) i (fun k=>clsN c0 (c4.getD k 0)≠clsN c0 (c4.getD i 0)) rfl ?_ ?_ ?_ ?_ ?_
    ·simp only [Int.lt_irrefl,if_false]
    ·intro k hk
     have k1:(k:Int)<i:=by omega
     have k0:(0:Int)≤k:=by omega
     have hkl:k<c4.length:=by omega
     simp only [k1,k0,h0,if_true,decide_true,zAG,Int.toNat_natCast]
     rw [zDB 0 hkl,zDB 0 hi]
     simp only [zDB 0 hi,q130 _ _ hp,zAB,eq_self,decide_true,Bool.and_true,zAG,zAa]
     by_cases e:clsN c0 (c4.getD k 0)=clsN c0 (c4.getD i 0)
     ·rw [if_pos e];exact .inr ⟨fun h=>h e,rfl⟩
     ·rw [if_neg e,wI (by omega) (by omega)];exact .inl ⟨e,rfl⟩
    ·exact ⟨fun h=>h.2,fun h=>⟨b1,h⟩⟩
    ·simp only [zAE]
     rw [wI (by omega) (by omega)]
     rfl
    ·rfl
  ·intro hall
   have hH':zDC (c0,c1,c2,c3,c4,c5,c6)↔(¬ (has c1 2∧has c1 4)∧(has c1 1→has c1 4∧clsN c0 c3=[79,98,106])):=by
    rw [hH]
    exact ⟨fun h=>h.2.2.2.2.2,fun h=>⟨a1,a2,a3,a4,hall,h⟩⟩
   simp only [q108 hf0 hf1 (show (1:Int)≤2 by omega),q108 hf0 hf1 (show (1:Int)≤4 by omega),q108 hf0 hf1 (show (1:Int)≤1 by omega),zAB,zAJ]
   by_cases b2:has c1 2 <;> by_cases b4:has c1 4 <;> by_cases b1:has c1 1 <;> simp only [q108 hf0 hf1 (show (1:Int)≤4 by omega),q108 hf0 hf1 (show (1:Int)≤1 by omega),zAB,zAJ,b1,b2,b4,if_true,if_false,zAE,zAH] <;> refine sd ?_ <;> rw [hH'] <;> simp [b1,b2,b4]
  ·intro hall
   exact sd (by rw [hH];simp only [Bool.false_eq_true,false_iff];exact fun h=>hall h.2.2.2.2.1)
 ·rw [if_neg a4,zAH]
  exact sd (by rw [hH];simp only [Bool.false_eq_true,false_iff];exact fun h=>a4 h.2.2.2.1)
end Go.Proofs.YtdpapeledldifaaGreat
end
section
namespace Go.Stow
end Go.Stow
namespace Go.Proofs.YtdpapeledldifaaGreat
open Go Go.AM Go.TM Go.Stow
theorem q176 (c:Cls) (hp:bndP c.1) (hf:0≤c.2.1∧c.2.1≤255) (hl:c.2.2.2.2.2.1.length≤1048576):F176 c=some (decide (zEb c)):=by
 obtain ⟨c0,c1,c2,c3,c4,c5,c6⟩:=c
 obtain ⟨hf0,hf1⟩:=hf
 simp only at hp hf0 hf1 hl
 simp only [F176,zAJ]
 refine zPs (fun i=>((i:Int),c0,c1,c2,c3,c4,c5,c6)) () false c5.length (FldOk (c0,c1,c2,c3,c4,c5,c6)) rfl ?_ ?_ ?_ ?_
 ·simp only [Int.lt_irrefl,if_false]
 ·intro i hi
  have h1:(i:Int)<c5.length:=by omega
  have h0:(0:Int)≤i:=by omega
  simp only [h1,h0,if_true,decide_true,zAG,Int.toNat_natCast]
  rw [zDB (0,0,0) hi]
  have hF:FldOk (c0,c1,c2,c3,c4,c5,c6) i↔(zBn c0 (c5.getD i (0,0,0)).2.1 Nm∧zBn c0 (c5.getD i (0,0,0)).2.2 Tok∧(0≤(c5.getD i (0,0,0)).1∧(c5.getD i (0,0,0)).1≤3)∧(has c1 1→(c5.getD i (0,0,0)).1=1)∧∀ k,k<i→txt c0 (c5.getD k (0,0,0)).2.1≠txt c0 (c5.getD i (0,0,0)).2.1):=Iff.rfl
  rw [hF]
  generalize c5.getD i (0,0,0)=x
  simp only [q131 _ _ hp,n127 _ (zDO hp _),n128 _ (zDO hp _),q107,zAB,zAl,zAJ]
  have t1:Nm (txt c0 x.2.1)↔zBn c0 x.2.1 Nm:=zGR zGF
  have t2:Tok (txt c0 x.2.2)↔zBn c0 x.2.2 Tok:=zGR zDo
  by_cases b1:Nm (txt c0 x.2.1)
  ·rw [if_pos b1]
   by_cases b2:Tok (txt c0 x.2.2)
   ·rw [if_pos b2]
    by_cases b3:0≤x.1∧x.1≤3
    ·rw [if_pos b3,zAE]
     simp only [q108 hf0 hf1 (show (1:Int)≤1 by omega),zAB,zAJ]
     by_cases b4:has c1 1→x.1=1
     ·rw [show (if has c1 1 then if x.1=1 then some (Sum.inl ((i:Int),(c0,c1,c2,c3,c4,c5,c6),x.1,x.2.1,x.2.2)) else some (Sum.inr (Sum.inr (Sum.inr (Sum.inr false)))) else some (Sum.inl ((i:Int),(c0,c1,c2,c3,c4,c5,c6),x.1,x.2.1,x.2.2)):Option ((Int×Cls×Int×Int×Int) ⊕ ((Int×Cls) ⊕ ((Int×Cls) ⊕ (Unit ⊕ Bool)))))=some (Sum.inl ((i:Int),(c0,c1,c2,c3,c4,c5,c6),x.1,x.2.1,x.2.2)) by
       by_cases g:has c1 1
       ·rw [if_pos g,if_pos (b4 g)]
       ·rw [if_neg g],zAE]
      simp only
      refine zUj (F:=(bindE · _)) (fun k=>((i:Int),(k:Int),(c0,c1,c2,c3,c4,c5,c6),x.1,x.2.1,x.2.2)) ((i:Int),c0,c1,c2,c3,c4,c5,c6) (.inr (.inr (.inr false))) i (fun k=>txt c0 (c5.getD k (0,0,0)).2.1≠txt c0 x.2.1) rfl ?_ ?_ ?_ ?_ ?_
      ·simp only [Int.lt_irrefl,if_false]
      ·intro k hk
       have k1:(k:Int)<i:=by omega
       have k0:(0:Int)≤k:=by omega
       have hkl:k<c5.length:=by omega
       simp only [k1,k0,if_true,decide_true,zAG,Int.toNat_natCast]
       rw [zDB (0,0,0) hkl]
       simp only [q131 _ _ hp,zAB,eq_self,decide_true,zAG,zAa]
       by_cases e:txt c0 (c5.getD k (0,0,0)).2.1=txt c0 x.2.1
       ·rw [if_pos e];exact .inr ⟨fun h=>h e,rfl⟩
       ·rw [if_neg e,wI (by omega) (by omega)];exact .inl ⟨e,rfl⟩
      ·exact ⟨fun h=>h.2.2.2.2,fun h=>⟨t1.1 b1,t2.1 b2,b3,b4,h⟩⟩
      ·simp only [zAE]
       rw [wI (by omega) (by omega)]
       rfl
      ·rfl
     ·have g:has c1 1:=Classical.byContradiction fun h=>b4 fun h'=>absurd h' h
      have g2:¬ x.1=1:=fun h=>b4 fun _=>h
      rw [if_pos g,if_neg g2]
      exact .inr ⟨fun h=>g2 (h.2.2.2.1 g),rfl⟩
    ·rw [if_neg b3]
     exact .inr ⟨fun h=>b3 h.2.2.1,rfl⟩
   ·rw [if_neg b2]
    exact .inr ⟨fun h=>b2 (t2.2 h.2.1),rfl⟩
  ·rw [if_neg b1]
   exact .inr ⟨fun h=>b1 (t1.2 h.1),rfl⟩
 ·intro hall
  exact sd (iff_of_true rfl hall)
 ·intro hall
  exact sd (iff_of_false (by simp) hall)
end Go.Proofs.YtdpapeledldifaaGreat
end
section
namespace Go.Stow
def FldOkI (c:ClsP) (i:Nat):Prop :=
 let f:=c.2.2.2.2.2.1.getD i (0,0,0)
 zBn c.1 f.2.1 Nm∧zBn c.1 f.2.2 Tok∧(0≤f.1∧f.1≤3)∧(has c.2.1 1→f.1=1)∧∀ k,k<i→zSm c.1 (c.2.2.2.2.2.1.getD k (0,0,0)).2.1≠zSm c.1 f.2.1
noncomputable instance (c:ClsP) (i:Nat):Decidable (FldOkI c i):=Classical.propDecidable _
def MthOkI (c:ClsP) (i:Nat):Prop :=
 let m:=c.2.2.2.2.2.2.getD i mth0
 zBn c.1 m.2.1 Nm∧zBn c.1 m.2.2.1 Dsc∧zEC c m ∧
 ∀ k,k<i→¬ (zSm c.1 (c.2.2.2.2.2.2.getD k mth0).2.1=zSm c.1 m.2.1∧zSm c.1 (c.2.2.2.2.2.2.getD k mth0).2.2.1=zSm c.1 m.2.2.1)
noncomputable instance (c:ClsP) (i:Nat):Decidable (MthOkI c i):=Classical.propDecidable _
end Go.Stow
namespace Go.Proofs.YtdpapeledldifaaGreat
open Go Go.AM Go.TM Go.Stow
theorem q244 (c:Cls) (m:Mth) (hp:bndP c.1) (hf:0≤c.2.1∧c.2.1≤255) (hm:0≤m.1∧m.1≤255):F244 (c,m)=some (decide (zEC c m)):=by
 obtain ⟨c0,c1,c2,c3,c4,c5,c6⟩:=c
 obtain ⟨m0,m1,m2,m3,m4,m5,m6,m7⟩:=m
 obtain ⟨hf0,hf1⟩:=hf
 obtain ⟨hm0,hm1⟩:=hm
 simp only at hp hf0 hf1 hm0 hm1
 have hF:zEC (c0,c1,c2,c3,c4,c5,c6) (m0,m1,m2,m3,m4,m5,m6,m7)↔((0≤m0∧m0≤15)∧(txt c0 m1=[98,101,103,105,110]→m0=1∧txt c0 m2=[40,41,86])∧(has m0 8→m0=8∧has c1 4)∧(¬ has m0 8→has c1 1→m0=1)):=Iff.rfl
 simp only [F244,q131 _ _ hp,q107,zAB,zAl,zAJ]
 by_cases b1:0≤m0∧m0≤15
 ·rw [if_pos b1]
  have e8:=q108 hm0 hm1 (show (1:Int)≤8 by omega)
  have e4:=q108 hf0 hf1 (show (1:Int)≤4 by omega)
  have e1:=q108 hf0 hf1 (show (1:Int)≤1 by omega)
  have go:(txt c0 m1=[98,101,103,105,110]→m0=1∧txt c0 m2=[40,41,86])→(if has m0 8 then if m0=8 then some (decide (has c1 4)) else some false else if has c1 1 then some (decide (m0=1)) else some true:Option Bool)=some (decide (zEC (c0,c1,c2,c3,c4,c5,c6) (m0,m1,m2,m3,m4,m5,m6,m7))):=by
   intro b2
   by_cases b5:has m0 8
   ·rw [if_pos b5]
    by_cases b8:m0=8
    ·rw [if_pos b8]
     refine sd ?_
     rw [hF,decide_eq_true_iff]
     exact ⟨fun h=>⟨b1,b2,fun _=>⟨b8,h⟩,fun h=>absurd b5 h⟩,fun h=>(h.2.2.1 b5).2⟩
    ·rw [if_neg b8]
     exact sd (by rw [hF];exact iff_of_false (by simp) fun h=>b8 (h.2.2.1 b5).1)
   ·rw [if_neg b5]
    by_cases b7:has c1 1
    ·rw [if_pos b7]
     refine sd ?_
     rw [hF,decide_eq_true_iff]
     exact ⟨fun h=>⟨b1,b2,fun h'=>absurd h' b5,fun _ _=>h⟩,fun h=>h.2.2.2 b5 b7⟩
    ·rw [if_neg b7]
     exact sd (by rw [hF];exact iff_of_true rfl ⟨b1,b2,fun h'=>absurd h' b5,fun _ h=>absurd h b7⟩)
  by_cases b2:txt c0 m1=[98,101,103,105,110]
  ·rw [if_pos b2]
   by_cases b3:m0=1
   ·rw [if_pos b3]
    by_cases b4:txt c0 m2=[40,41,86]
    ·rw [if_pos b4,zAE]
     simp only [e8,e4,e1,zAB,zAJ]
     exact go fun _=>⟨b3,b4⟩
    ·rw [if_neg b4,zAH]
     exact sd (by rw [hF];exact iff_of_false (by simp) fun h=>b4 (h.2.1 b2).2)
   ·rw [if_neg b3,zAH]
    exact sd (by rw [hF];exact iff_of_false (by simp) fun h=>b3 (h.2.1 b2).1)
  ·rw [if_neg b2,zAE]
   simp only [e8,e4,e1,zAB,zAJ]
   exact go fun h=>absurd h b2
 ·rw [if_neg b1]
  exact sd (by rw [hF];exact iff_of_false (by simp) fun h=>b1 h.1)
theorem q177 (c:Cls) (hp:bndP c.1) (hf:0≤c.2.1∧c.2.1≤255) (hl:c.2.2.2.2.2.2.length≤1048576) (hm:∀ m∈c.2.2.2.2.2.2,0≤m.1∧m.1≤255):F177 c=some (decide (zFx c)):=by
 obtain ⟨c0,c1,c2,c3,c4,c5,c6⟩:=c
 simp only at hp hl hm
 simp only [F177,zAJ]
 refine zPs (fun i=>((i:Int),c0,c1,c2,c3,c4,c5,c6)) () false c6.length (MthOk (c0,c1,c2,c3,c4,c5,c6)) rfl ?_ ?_ ?_ ?_
 ·simp only [Int.lt_irrefl,if_false]
 ·intro i hi
  have h1:(i:Int)<c6.length:=by omega
  have h0:(0:Int)≤i:=by omega
  have hmi:0≤(c6.getD i mth0).1∧(c6.getD i mth0).1≤255:=by
   rw [List.getD_eq_getElem?_getD,List.getElem?_eq_getElem hi]
   exact hm _ (List.getElem_mem hi)
  simp only [h1,h0,if_true,decide_true,zAG,Int.toNat_natCast]
  rw [zDB mth0 hi]
  have hF:MthOk (c0,c1,c2,c3,c4,c5,c6) i↔(zBn c0 (c6.getD i mth0).2.1 Nm∧zBn c0 (c6.getD i mth0).2.2.1 Dsc∧zEC (c0,c1,c2,c3,c4,c5,c6) (c6.getD i mth0) ∧
   ∀ k,k<i→¬ (txt c0 (c6.getD k mth0).2.1=txt c0 (c6.getD i mth0).2.1∧txt c0 (c6.getD k mth0).2.2.1=txt c0 (c6.getD i mth0).2.2.1)):=Iff.rfl
  rw [hF]
  generalize c6.getD i mth0=x at hmi
  have z244:F244 ((c0,c1,c2,c3,c4,c5,c6),x.1,x.2.1,x.2.2.1,x.2.2.2.1,x.2.2.2.2.1,x.2.2.2.2.2.1,x.2.2.2.2.2.2.1,x.2.2.2.2.2.2.2)=some (decide (zEC (c0,c1,c2,c3,c4,c5,c6) x)):=q244 (c0,c1,c2,c3,c4,c5,c6) x hp hf hmi
  simp only [q131 _ _ hp,n127 _ (zDO hp _),n129 _ (zDO hp _),z244,zAB,zAl,zAJ]
  have t1:Nm (txt c0 x.2.1)↔zBn c0 x.2.1 Nm:=zGR zGF
  have t2:Dsc (txt c0 x.2.2.1)↔zBn c0 x.2.2.1 Dsc:=zGR zFK
  by_cases b1:Nm (txt c0 x.2.1)
  ·rw [if_pos b1]
   by_cases b2:Dsc (txt c0 x.2.2.1)
   ·rw [if_pos b2]
    by_cases b3:zEC (c0,c1,c2,c3,c4,c5,c6) x
    ·rw [if_pos b3,zAE]
     simp only
     refine zUj (F:=(bindE · _)) (fun k=>((i:Int),(k:Int),(c0,c1,c2,c3,c4,c5,c6),x.1,x.2.1,x.2.2.1,x.2.2.2.1,x.2.2.2.2.1,x.2.2.2.2.2.1,x.2.2.2.2.2.2.1,x.2.2.2.2.2.2.2)) ((i:Int),c0,c1,c2,c3,c4,c5,c6) (.inr (.inr (.inr false))) i (fun k=>¬ (txt c0 (c6.getD k mth0).2.1=txt c0 x.2.1∧txt c0 (c6.getD k mth0).2.2.1=txt c0 x.2.2.1)) rfl ?_ ?_ ?_ ?_ ?_
     ·simp only [Int.lt_irrefl,if_false]
     ·intro k hk
      have k1:(k:Int)<i:=by omega
      have k0:(0:Int)≤k:=by omega
      have hkl:k<c6.length:=by omega
      simp only [k1,k0,if_true,decide_true,zAG,Int.toNat_natCast]
      rw [zDB mth0 hkl]
      simp only [zDB mth0 hkl,q131 _ _ hp,zAB,eq_self,decide_true,zAG,zAa]
      by_cases e:txt c0 (c6.getD k mth0).2.1=txt c0 x.2.1
      ·rw [if_pos e]
       by_cases e2:txt c0 (c6.getD k mth0).2.2.1=txt c0 x.2.2.1
       ·rw [if_pos e2,zAH];exact .inr ⟨fun h=>h ⟨e,e2⟩,rfl⟩
       ·rw [if_neg e2,zAE]
        simp only
        rw [wI (by omega) (by omega)];exact .inl ⟨fun h=>e2 h.2,rfl⟩
      ·rw [if_neg e,zAE]
       simp only
       rw [wI (by omega) (by omega)];exact .inl ⟨fun h=>e h.1,rfl⟩
     ·exact ⟨fun h=>h.2.2.2,fun h=>⟨t1.1 b1,t2.1 b2,b3,h⟩⟩
     ·simp only [zAE]
      rw [wI (by omega) (by omega)]
      rfl
     ·rfl
    ·rw [if_neg b3]
     exact .inr ⟨fun h=>b3 h.2.2.1,rfl⟩
   ·rw [if_neg b2]
    exact .inr ⟨fun h=>b2 (t2.2 h.2.1),rfl⟩
  ·rw [if_neg b1]
   exact .inr ⟨fun h=>b1 (t1.2 h.1),rfl⟩
 ·intro hall
  exact sd (iff_of_true rfl hall)
 ·intro hall
  exact sd (iff_of_false (by simp) hall)
end Go.Proofs.YtdpapeledldifaaGreat
end
section
namespace Go.TM
end Go.TM
namespace Go.Proofs.YtdpapeledldifaaGreat
open Go Go.AM Go.TM Go.Stow
end Go.Proofs.YtdpapeledldifaaGreat
end
section
namespace Go.Stow
theorem zUm (op:Int) : -1≤argN op∧argN op≤2:=by unfold argN;repeat' split <;> omega
end Go.Stow
namespace Go.Proofs.YtdpapeledldifaaGreat
open Go Go.AM Go.TM Go.Stow
theorem q251 (op:Int):F251 op=some (argN op):=by
 simp only [F251,q107,zAB,zAJ,zAw,zAE,zAH]
 unfold argN
 repeat' split
 all_goals first | rfl | (exfalso;omega)
theorem q252 (s:List UInt8) (op:Int) (hs:s.length≤2):F252 (s,op)=some (numB op s):=by
 match s,hs with
 | [],_=>rfl
 | [a],_ =>
   have ha:=a.toNat_lt
   have e0:∀ k:UInt8→Option Int,atO [a] 0 k=k a:=fun k=>rfl
   simp (discharger:=omega) only [F252,List.length_cons,List.length_nil,e0,wI,zAJ,zAw,zAE,numB]
   rw [if_neg (by omega),if_neg (by omega)]
   rw [if_neg (show ¬ (32768:Int)≤(a.toNat:Int) by omega)]
   split <;> rfl
 | [a,b],_ =>
   have ha:=a.toNat_lt
   have hb:=b.toNat_lt
   have e0:∀ k:UInt8→Option Int,atO [a,b] 0 k=k a:=fun k=>rfl
   have e1:∀ k:UInt8→Option (Int×Int ⊕ Int),atO [a,b] 1 k=k b:=fun k=>rfl
   simp (discharger:=omega) only [F252,List.length_cons,List.length_nil,e0,e1,wI,zAJ,zAw,zAE,numB]
   rw [if_neg (by omega),if_pos (by omega)]
   by_cases h1:op=1
   ·rw [if_pos h1]
    by_cases h2:(32768:Int)≤(a.toNat:Int)*256+(b.toNat:Int)
    ·rw [if_pos h2,if_pos ⟨h1,h2⟩]
    ·rw [if_neg h2,if_neg fun h=>h2 h.2]
   ·rw [if_neg h1,if_neg fun h=>h1 h.1]
theorem ops_loop {X Y R:Type} {f:X→Option (X ⊕ (Y ⊕ R))} {k:Y→Option R} (s:List UInt8) (mk:List InsP→Nat→X) (bad:R) (good:List InsP→R)
  (hend:∀ out,out.length≤s.length→bindE (zAF f (mk out s.length)) k=some (good out))
  (hbad:∀ out a (h:a<s.length),out.length≤a→(argN s[a].toNat<0∨((s.drop (a+1)).length:Int)<argN s[a].toNat)→bindE (zAF f (mk out a)) k=some bad)
  (hstep:∀ out a (h:a<s.length) (n:Nat),out.length≤a→argN s[a].toNat=n→n≤(s.drop (a+1)).length→f (mk out a)=some (.inl (mk (out++[((a:Int),(s[a].toNat:Int),numB s[a].toNat ((s.drop (a+1)).take n))]) (a+1+n)))) :
  ∀ (m a:Nat) (out:List InsP),s.length - a≤m→a≤s.length→out.length≤a→bindE (zAF f (mk out a)) k=some (match opsN m (a:Int) (s.drop a) with | some r=>good (out++r) | none=>bad):=by
 intro m
 induction m with
 | zero =>
   intro a out hm ha ho
   have:a=s.length:=by omega
   subst this
   rw [hend out ho,List.drop_eq_nil_of_le (Nat.le_refl _)]
   simp only [opsN,List.append_nil]
 | succ m ih =>
   intro a out hm ha ho
   by_cases h:a<s.length
   ·rw [zBM h]
    simp only [opsN]
    by_cases hb:argN s[a].toNat<0∨((s.drop (a+1)).length:Int)<argN s[a].toNat
    ·rw [if_pos hb,hbad out a h ho hb]
    ·rw [if_neg hb]
     have hn:argN s[a].toNat=((argN s[a].toNat).toNat:Int):=by omega
     generalize (argN s[a].toNat).toNat=n at hn
     have hle:n≤(s.drop (a+1)).length:=by omega
     have hd:(s.drop (a+1)).drop n=s.drop (a+1+n):=by rw [List.drop_drop]
     have hlen:a+1+n≤s.length:=by simp only [List.length_drop] at hle;omega
     rw [zJT (hstep out a h n ho hn hle),ih (a+1+n) _ (by omega) hlen (by simp only [List.length_append,List.length_cons,List.length_nil];omega),hn,hd]
     rw [show (((a+1+n:Nat)):Int)=(a:Int)+1+n by omega]
     cases opsN m ((a:Int)+1+n) (s.drop (a+1+n)) with
     | none=>rfl
     | some q=>simp only [Option.map_some,List.append_assoc,List.singleton_append]
   ·have:a=s.length:=by omega
    subst this
    rw [hend out ho,List.drop_eq_nil_of_le (Nat.le_refl _)]
    simp only [opsN,List.append_nil]
theorem q193 (s:List UInt8) (hs:s.length≤1048576):F193 s=some (opsV s):=by
 simp only [F193,zAJ]
 refine (ops_loop s (fun out a=>(s,out,(a:Int))) ([],false) (fun r=>(r,decide ((0:Int)<r.length))) ?_ ?_ ?_ s.length 0 [] (by omega) (by omega) (by simp)).trans ?_
 ·intro out ho
  rw [zCo (y:=.inl out) (by simp only [Int.lt_irrefl,if_false]),zAE]
 ·intro out a h ho hb
  have h1:(a:Int)<s.length:=by omega
  have h0:(0:Int)≤a:=by omega
  have hr:=s[a].toNat_lt
  rw [zCo (y:=.inr ([],false)),zAH]
  simp (discharger:=omega) only [h1,h0,if_true,decide_true,zAG,Int.toNat_natCast,zAR,wI,q251,zAB]
  by_cases h2:argN s[a].toNat<0
  ·rw [if_pos h2,zAH]
  ·have h3:=(zUm s[a].toNat).2
   have h4:(s.length:Int)<(a:Int)+1+argN s[a].toNat:=by
    have:=hb.resolve_left h2
    simp only [List.length_drop] at this
    omega
   rw [if_neg h2,wI (by omega) (by omega),if_pos h4,zAH]
 ·intro out a h n ho hn hle
  have h1:(a:Int)<s.length:=by omega
  have h0:(0:Int)≤a:=by omega
  have hr:=s[a].toNat_lt
  have hn2:=(zUm s[a].toNat).2
  rw [hn] at hn2
  have h2:¬ ((n:Int)<0):=by omega
  have hle':=hle
  simp only [List.length_drop] at hle'
  have h4:¬ (s.length:Int)<(a:Int)+1+n:=by omega
  have g1:(0:Int)≤(a:Int)+1:=by omega
  have g2:(a:Int)+1≤(a:Int)+1+n:=by omega
  have g3:(a:Int)+1+n≤s.length:=by omega
  have t1:((a:Int)+1).toNat=a+1:=by omega
  have t2:((a:Int)+1+n).toNat=a+1+n:=by omega
  have hd:(s.take (a+1+n)).drop (a+1)=(s.drop (a+1)).take n:=by rw [List.drop_take];congr 1;omega
  have hl2:((s.drop (a+1)).take n).length≤2:=by simp only [List.length_take];omega
  have q5:out.length+1≤9223372036854775807:=by omega
  have q6:(out.length+1)*24≤140737488355328:=by omega
  simp (discharger:=omega) only [h1,h0,if_true,decide_true,zAG,Int.toNat_natCast,zAR,wI,q251,zAB,hn,h2,h4,if_false,zAE,g1,g2,g3,Bool.and_self,t1,t2,hd,q252 _ _ hl2,q5,q6]
  rfl
 ·rw [List.drop_zero]
  unfold opsV
  simp only [List.nil_append]
  show some (match opsN s.length (0:Int) s with | some r=>_ | none=>_)=_
  cases opsN s.length 0 s with
  | none=>rfl
  | some r =>
    cases r with
    | nil=>rfl
    | cons x r=>simp
end Go.Proofs.YtdpapeledldifaaGreat
end
section
namespace Go.Stow
theorem zCA {α:Type} {l:List α} (d:α) {P:α→Prop}:(∀ x∈l,P x)↔∀ i,i<l.length→P (l.getD i d):=by
 constructor
 ·intro h i hi
  rw [List.getD_eq_getElem?_getD,List.getElem?_eq_getElem hi]
  exact h _ (List.getElem_mem hi)
 ·intro h x hx
  obtain ⟨i,hi,rfl⟩:=List.mem_iff_getElem.1 hx
  have:=h i hi
  rwa [List.getD_eq_getElem?_getD,List.getElem?_eq_getElem hi] at this
theorem zRl:∀ (m:Nat) (a:Int) (s:List UInt8) (r:List InsP),opsN m a s=some r→r.length≤m
 | 0,a,[],r,h=>by simp only [opsN,Option.some.injEq] at h;simp [← h]
 | _+1,a,[],r,h=>by simp only [opsN,Option.some.injEq] at h;simp [← h]
 | 0,a,_ :: _,r,h=>by simp [opsN] at h
 | m+1,a,x :: l,r,h=>by
   simp only [opsN] at h
   split at h
   ·cases h
   ·cases ho:opsN m (a+1+argN x.toNat) (l.drop (argN x.toNat).toNat) with
    | none=>rw [ho] at h;cases h
    | some q =>
      rw [ho] at h
      simp only [Option.map_some,Option.some.injEq] at h
      have:=zRl m _ _ q ho
      rw [← h]
      simp only [List.length_cons]
      omega
theorem opsV_len (s:List UInt8):(opsV s).1.length≤s.length:=by
 unfold opsV
 cases h:opsN s.length 0 s with
 | none=>simp
 | some r =>
   cases r with
   | nil=>simp
   | cons x r=>exact zRl _ _ _ _ h
theorem zRm:∀ (k:Nat) (l:List UInt8) (ts:List (List UInt8)) (b:List UInt8),more k l=some (ts,b)→ts.length≤k
 | 0,[],ts,b,h=>by simp [more] at h
 | _+1,[],ts,b,h=>by simp [more] at h
 | 0,x :: l,ts,b,h=>by
   simp only [more] at h
   split at h
   ·simp only [Option.some.injEq,Prod.mk.injEq] at h;rw [← h.1];simp
   ·cases h
 | k+1,x :: l,ts,b,h=>by
   rw [zPG] at h
   split at h
   ·simp only [Option.some.injEq,Prod.mk.injEq] at h;rw [← h.1];simp
   ·cases ho:one (x :: l) with
    | none=>rw [ho] at h;cases h
    | some p =>
      rw [ho] at h
      simp only [Option.bind_some] at h
      cases hm:more k p.2 with
      | none=>rw [hm] at h;cases h
      | some q =>
        obtain ⟨q1,q2⟩:=q
        rw [hm] at h
        simp only [Option.map_some,Option.some.injEq,Prod.mk.injEq] at h
        have:=zRm k _ _ _ hm
        rw [← h.1]
        simp only [List.length_cons]
        omega
theorem dsc_len (s:List UInt8):(dsc s).1.length≤4:=by
 cases s with
 | nil=>simp [dsc]
 | cons x l =>
   simp only [dsc]
   split
   ·cases h:more 4 l with
    | none=>simp
    | some p =>
      obtain ⟨ts,b⟩:=p
      simp only
      split
      ·exact zRm 4 l ts b h
      ·simp
   ·simp
end Go.Stow
namespace Go.Proofs.YtdpapeledldifaaGreat
open Go Go.AM Go.TM Go.Stow
theorem q254 (l:List InsP) (a:Int) (hl:l.length≤1048576):F254 (l,a)=some (opI l a):=by
 simp only [F254,zAJ]
 refine (zPd (fun i=>(l,a,(i:Int))) () l (fun x=>decide (x.1=a)) (fun i=>(i:Int)) rfl ?_ ?_).trans ?_
 ·simp only [Int.lt_irrefl,if_false]
 ·intro i hi
  have i1:(i:Int)<l.length:=by omega
  have i0:(0:Int)≤i:=by omega
  simp (discharger:=omega) only [i1,i0,if_true,decide_true,zAG,Int.toNat_natCast,zAR,wI,decide_eq_true_eq]
  split <;> rfl
 ·unfold opI
  cases l.findIdx? (fun x=>decide (x.1=a)) <;> rfl
theorem q291 (op:Int):F291 op=some (want op):=by
 simp only [F291,zAJ,zAM,zAw,zAE,zAH]
 unfold want
 repeat' split
 all_goals first | rfl | (exfalso;omega)
theorem q246 (c:Cls) (m:Mth) (l:List InsP) (x:InsP) (hp:bndP c.1) (hl:l.length≤1048576):F246 (c,m,l,x)=some (decide (zNC c.1 m.2.2.2.2.1 l x)):=by
 obtain ⟨c0,c1,c2,c3,c4,c5,c6⟩:=c
 obtain ⟨m0,m1,m2,m3,m4,m5,m6,m7⟩:=m
 obtain ⟨x0,x1,x2⟩:=x
 simp only at hp
 have hI:zNC c0 m4 l (x0,x1,x2)↔((3≤x1∧x1≤6→x2<m4)∧(14≤x1∧x1≤18→0≤opI l x2)∧(want x1≠0→(zBH c0 x2).1=want x1)):=Iff.rfl
 simp only [F246,q107,q254 _ _ hl,q291,q133 _ _ _ hp,zAB,zAJ]
 by_cases h1:3≤x1∧x1≤6
 ·rw [if_pos h1]
  have h2:¬ (14≤x1∧x1≤18):=by omega
  have h3:want x1=0:=by unfold want;repeat' split <;> omega
  exact sd (by rw [hI,decide_eq_true_iff];simp [h1,h2,h3])
 ·rw [if_neg h1]
  by_cases h2:14≤x1∧x1≤18
  ·rw [if_pos h2]
   have h3:want x1=0:=by unfold want;repeat' split <;> omega
   exact sd (by rw [hI,decide_eq_true_iff];simp [h1,h2,h3])
  ·rw [if_neg h2]
   by_cases h3:want x1=0
   ·rw [if_pos h3]
    exact sd (by rw [hI];simp [h1,h2,h3])
   ·rw [if_neg h3]
    exact sd (by rw [hI,decide_eq_true_iff];simp [h1,h2,h3])
theorem q247 (c:Cls) (m:Mth) (l:List InsP) (t:Trp) (hp:bndP c.1) (hl:l.length≤1048576):F247 (c,m,l,t)=some (decide (zEu c.1 m.2.2.2.2.2.1.length l t)):=by
 obtain ⟨c0,c1,c2,c3,c4,c5,c6⟩:=c
 obtain ⟨m0,m1,m2,m3,m4,m5,m6,m7⟩:=m
 obtain ⟨t0,t1,t2,t3⟩:=t
 simp only at hp
 have hI:zEu c0 m5.length l (t0,t1,t2,t3)↔(t0<t1∧0≤opI l t0∧(t1=(m5.length:Int)∨0≤opI l t1)∧0≤opI l t2∧(t3=0∨zDD c0 t3)):=Iff.rfl
 simp only [F247,q254 _ _ hl,zAB,zAl,zAJ]
 by_cases h1:t1≤t0
 ·rw [if_pos h1,zAH]
  exact sd (by rw [hI];exact iff_of_false (by simp) fun h=>by omega)
 rw [if_neg h1]
 by_cases h2:opI l t0<0
 ·rw [if_pos h2,zAH]
  exact sd (by rw [hI];exact iff_of_false (by simp) fun h=>by omega)
 rw [if_neg h2]
 have hfin:(t1=(m5.length:Int)∨0≤opI l t1)→(bindE (if opI l t2<0 then some (Sum.inr false) else some (Sum.inl ((c0,c1,c2,c3,c4,c5,c6),t0,t1,t2,t3)):Option ((Cls×Int×Int×Int×Int) ⊕ Bool)) fun (x:Cls×Int×Int×Int×Int) =>
   if x.2.2.2.2=0 then some true else zAA (F130 (x.1.1,x.2.2.2.2)) fun y=>some (!decide (y=[])))=some (decide (zEu c0 m5.length l (t0,t1,t2,t3))):=by
  intro h3
  by_cases h4:opI l t2<0
  ·rw [if_pos h4,zAH]
   exact sd (by rw [hI];exact iff_of_false (by simp) fun h=>by omega)
  rw [if_neg h4,zAE]
  simp only [q130 _ _ hp,zAB]
  by_cases h5:t3=0
  ·rw [if_pos h5]
   exact sd (by rw [hI];exact iff_of_true rfl ⟨by omega,by omega,h3,by omega,.inl h5⟩)
  ·rw [if_neg h5]
   refine sd ?_
   rw [hI]
   simp only [Bool.not_eq_true',decide_eq_false_iff_not]
   rw [show (¬ clsN c0 t3=[])↔zDD c0 t3 from zCy]
   exact ⟨fun h=>⟨by omega,by omega,h3,by omega,.inr h⟩,fun h=>h.2.2.2.2.resolve_left h5⟩
 by_cases h3:t1=(m5.length:Int)
 ·rw [if_pos h3]
  exact hfin (.inl h3)
 ·rw [if_neg h3]
  by_cases h4:opI l t1<0
  ·rw [if_pos h4,zAH]
   exact sd (by rw [hI];exact iff_of_false (by simp) fun h=>by omega)
  ·rw [if_neg h4]
   exact hfin (.inr (by omega))
theorem q292 (c:Cls) (l:List Knd) (hp:bndP c.1) (hl:l.length≤1048576):F292 (c,l)=some (decide (zCD c.1 l)):=by
 obtain ⟨c0,c1,c2,c3,c4,c5,c6⟩:=c
 simp only at hp
 simp only [F292,zAJ]
 refine zPs (fun i=>(l,(i:Int),c0,c1,c2,c3,c4,c5,c6)) () false l.length (fun i=>KndOk c0 (l.getD i (0,0))) rfl ?_ ?_ ?_ ?_
 ·simp only [Int.lt_irrefl,if_false]
 ·intro i hi
  have i1:(i:Int)<l.length:=by omega
  have i0:(0:Int)≤i:=by omega
  simp only [i1,i0,if_true,decide_true,zAG,Int.toNat_natCast]
  simp only [zDB ((0,0):Knd) hi]
  generalize l.getD i (0,0)=x
  have hK:KndOk c0 x↔((0≤x.1∧x.1≤3)∧(x.1=3→zDD c0 x.2)∧(x.1≠3→x.2=0)):=Iff.rfl
  simp only [q107,q130 _ _ hp,zAB,zAl,zAJ]
  by_cases h1:0≤x.1∧x.1≤3
  ·rw [if_pos h1]
   by_cases h2:x.1=3
   ·rw [if_pos h2,if_pos h2]
    by_cases h3:clsN c0 x.2=[]
    ·rw [if_pos h3]
     exact .inr ⟨fun h=>zCy.2 ((hK.1 h).2.1 h2) h3,rfl⟩
    ·rw [if_neg h3]
     refine .inl ⟨hK.2 ⟨h1,fun _=>zCy.1 h3,fun h=>absurd h2 h⟩,?_⟩
     simp only [zAE]
     rw [wI (by omega) (by omega)];rfl
   ·rw [if_neg h2,if_neg h2]
    by_cases h3:x.2=0
    ·rw [if_pos h3]
     refine .inl ⟨hK.2 ⟨h1,fun h=>absurd h h2,fun _=>h3⟩,?_⟩
     simp only [zAE]
     rw [wI (by omega) (by omega)];rfl
    ·rw [if_neg h3]
     exact .inr ⟨fun h=>h3 ((hK.1 h).2.2 h2),rfl⟩
  ·rw [if_neg h1]
   exact .inr ⟨fun h=>h1 (hK.1 h).1,rfl⟩
 ·intro h
  exact sd (iff_of_true rfl ((zCA (0,0)).2 h))
 ·intro h
  exact sd (iff_of_false (by simp) fun h'=>h ((zCA (0,0)).1 h'))
theorem q245 (c:Cls) (m:Mth) (hp:bndP c.1) (hm:0≤m.1∧m.1≤255):F245 (c,m)=some (takes c.1 m):=by
 obtain ⟨c0,c1,c2,c3,c4,c5,c6⟩:=c
 obtain ⟨m0,m1,m2,m3,m4,m5,m6,m7⟩:=m
 obtain ⟨hm0,hm1⟩:=hm
 simp only at hp hm0 hm1
 have hd:=dsc_len (txt c0 m2)
 simp only [F245,q131 _ _ hp,n214 _ (zDO hp _),q108 hm0 hm1 (show (1:Int)≤1 by omega),zAB,zAJ,takes]
 split
 ·rfl
 ·rw [wI (by omega) (by omega)]
theorem q248 (c:Cls) (m:Mth) (l:List InsP) (hp:bndP c.1) (hl:l.length≤1048576) (hm:m.2.2.2.2.2.2.2.length≤1048576) (hk:∀ f∈m.2.2.2.2.2.2.2,bFrm f):F248 (c,m,l)=some (decide (zSK c.1 m l)):=by
 obtain ⟨c0,c1,c2,c3,c4,c5,c6⟩:=c
 obtain ⟨m0,m1,m2,m3,m4,m5,m6,m7⟩:=m
 simp only at hp hm hk
 simp only [F248,zAJ]
 refine zPs (fun i=>(l,(i:Int),(c0,c1,c2,c3,c4,c5,c6),m0,m1,m2,m3,m4,m5,m6,m7)) () false m7.length (FrmOk c0 (m0,m1,m2,m3,m4,m5,m6,m7) l) rfl ?_ ?_ ?_ ?_
 ·simp only [Int.lt_irrefl,if_false]
 ·intro i hi
  have i1:(i:Int)<m7.length:=by omega
  have i0:(0:Int)≤i:=by omega
  have hF:FrmOk c0 (m0,m1,m2,m3,m4,m5,m6,m7) l i↔(0≤opI l (m7.getD i (0,[],[])).1∧(0<i→(m7.getD (i - 1) (0,[],[])).1<(m7.getD i (0,[],[])).1)∧((m7.getD i (0,[],[])).2.1.length:Int)=m4∧((m7.getD i (0,[],[])).2.2.length:Int)≤m3∧zCD c0 (m7.getD i (0,[],[])).2.1∧zCD c0 (m7.getD i (0,[],[])).2.2):=Iff.rfl
  have hb:bFrm (m7.getD i (0,[],[])):=(zCA (P:=bFrm) (0,[],[])).1 hk i hi
  simp only [i1,i0,if_true,decide_true,zAG,Int.toNat_natCast]
  rw [zDB (0,[],[]) hi]
  rw [hF]
  generalize m7.getD i (0,[],[])=x at hb
  have z1:F292 ((c0,c1,c2,c3,c4,c5,c6),x.2.1)=some (decide (zCD c0 x.2.1)):=q292 (c0,c1,c2,c3,c4,c5,c6) x.2.1 hp hb.1
  have z2:F292 ((c0,c1,c2,c3,c4,c5,c6),x.2.2)=some (decide (zCD c0 x.2.2)):=q292 (c0,c1,c2,c3,c4,c5,c6) x.2.2 hp hb.2
  simp only [q254 _ _ hl,z1,z2,zAB,zAl,zAJ]
  by_cases h1:opI l x.1<0
  ·rw [if_pos h1]
   exact .inr ⟨fun h=>by omega,rfl⟩
  rw [if_neg h1]
  have hrest:(0<i→(m7.getD (i - 1) (0,[],[])).1<x.1)→∀ F:Option ((List InsP×Int×Cls×Mth) ⊕ ((List InsP×Int×Cls×Mth) ⊕ (Unit ⊕ Bool)))→Option ((List InsP×Int×Cls×Mth) ⊕ (Unit ⊕ Bool)),F (some (.inr (.inr (.inr false))))=some (.inr (.inr false)) →
    F (some (.inl (l,(i:Int),(c0,c1,c2,c3,c4,c5,c6),m0,m1,m2,m3,m4,m5,m6,m7)))=some (.inl (l,((i+1:Nat):Int),(c0,c1,c2,c3,c4,c5,c6),m0,m1,m2,m3,m4,m5,m6,m7)) →
    ((0≤opI l x.1∧(0<i→(m7.getD (i - 1) (0,[],[])).1<x.1)∧(x.2.1.length:Int)=m4∧(x.2.2.length:Int)≤m3∧zCD c0 x.2.1∧zCD c0 x.2.2) ∧
      F (if (x.2.1.length:Int)=m4 then if m3<(x.2.2.length:Int) then some (.inr (.inr (.inr false))) else if zCD c0 x.2.1 then if zCD c0 x.2.2 then some (.inl (l,(i:Int),(c0,c1,c2,c3,c4,c5,c6),m0,m1,m2,m3,m4,m5,m6,m7)) else some (.inr (.inr (.inr false))) else some (.inr (.inr (.inr false))) else some (.inr (.inr (.inr false))))=some (.inl (l,((i+1:Nat):Int),(c0,c1,c2,c3,c4,c5,c6),m0,m1,m2,m3,m4,m5,m6,m7))) ∨
    (¬ (0≤opI l x.1∧(0<i→(m7.getD (i - 1) (0,[],[])).1<x.1)∧(x.2.1.length:Int)=m4∧(x.2.2.length:Int)≤m3∧zCD c0 x.2.1∧zCD c0 x.2.2) ∧
     F (if (x.2.1.length:Int)=m4 then if m3<(x.2.2.length:Int) then some (.inr (.inr (.inr false))) else if zCD c0 x.2.1 then if zCD c0 x.2.2 then some (.inl (l,(i:Int),(c0,c1,c2,c3,c4,c5,c6),m0,m1,m2,m3,m4,m5,m6,m7)) else some (.inr (.inr (.inr false))) else some (.inr (.inr (.inr false))) else some (.inr (.inr (.inr false))))=some (.inr (.inr false))):=by
   intro h2 F f1 f2
   by_cases h3:(x.2.1.length:Int)=m4
   ·rw [if_pos h3]
    by_cases h4:m3<(x.2.2.length:Int)
    ·rw [if_pos h4];exact .inr ⟨fun h=>by omega,f1⟩
    ·rw [if_neg h4]
     by_cases h5:zCD c0 x.2.1
     ·rw [if_pos h5]
      by_cases h6:zCD c0 x.2.2
      ·rw [if_pos h6];exact .inl ⟨⟨by omega,h2,h3,by omega,h5,h6⟩,f2⟩
      ·rw [if_neg h6];exact .inr ⟨fun h=>h6 h.2.2.2.2.2,f1⟩
     ·rw [if_neg h5];exact .inr ⟨fun h=>h5 h.2.2.2.2.1,f1⟩
   ·rw [if_neg h3];exact .inr ⟨fun h=>h3 h.2.2.1,f1⟩
  by_cases h2:(0:Int)<i
  ·have j1:((i:Int) - 1).toNat=i - 1:=by omega
   have j0:(0:Int)≤(i:Int) - 1:=by omega
   have jl:i - 1<m7.length:=by omega
   rw [if_pos h2]
   simp (discharger:=omega) only [wI,j0,decide_true,zAG,j1]
   rw [zDB (0,[],[]) jl]
   by_cases h3:x.1≤(m7.getD (i - 1) (0,[],[])).1
   ·rw [if_pos h3]
    exact .inr ⟨fun h=>by have:=h.2.1 (by omega);omega,rfl⟩
   ·rw [if_neg h3]
    refine hrest (fun _=>by omega) (bindE · _) rfl ?_
    simp only [zAE]
    rw [wI (by omega) (by omega)];rfl
  ·rw [if_neg h2]
   refine hrest (fun h=>absurd h (by omega)) (bindE · _) rfl ?_
   simp only [zAE]
   rw [wI (by omega) (by omega)];rfl
 ·intro h
  exact sd (iff_of_true rfl h)
 ·intro h
  exact sd (iff_of_false (by simp) h)
end Go.Proofs.YtdpapeledldifaaGreat
end
section
namespace Go.Proofs.YtdpapeledldifaaGreat
open Go Go.AM Go.TM Go.Stow
theorem q178 (c:Cls) (m:Mth) (hp:bndP c.1) (hm:0≤m.1∧m.1≤255) (hb:bMth m):F178 (c,m)=some (decide (¬ has m.1 8→zEc c.1 m)):=by
 have z245:=q245 c m hp hm
 obtain ⟨c0,c1,c2,c3,c4,c5,c6⟩:=c
 obtain ⟨m0,m1,m2,m3,m4,m5,m6,m7⟩:=m
 obtain ⟨hm0,hm1⟩:=hm
 obtain ⟨b1,b2,b3,b4⟩:=hb
 simp only at hp hm0 hm1 b1 b2 b3 b4 z245
 have hlen:=opsV_len m5
 have hB:zEc c0 (m0,m1,m2,m3,m4,m5,m6,m7)↔((opsV m5).2=true∧m3≤8∧(takes c0 (m0,m1,m2,m3,m4,m5,m6,m7)≤m4∧m4≤8)∧(∀ x∈(opsV m5).1,zNC c0 m4 (opsV m5).1 x)∧(∀ t∈m6,zEu c0 m5.length (opsV m5).1 t)∧zSK c0 (m0,m1,m2,m3,m4,m5,m6,m7) (opsV m5).1):=Iff.rfl
 simp only [F178,q108 hm0 hm1 (show (1:Int)≤8 by omega),q193 _ b1,zAB,zAJ,zAl]
 by_cases h0:has m0 8
 ·rw [if_pos h0]
  exact sd (iff_of_true rfl fun h=>absurd h0 h)
 rw [if_neg h0]
 have hgo:∀ b:Bool,(b=true↔zEc c0 (m0,m1,m2,m3,m4,m5,m6,m7))→some b=some (decide (¬ has m0 8→zEc c0 (m0,m1,m2,m3,m4,m5,m6,m7))):=fun b hb=>sd (hb.trans ⟨fun h _=>h,fun h=>h h0⟩)
 generalize hv:opsV m5=v at hlen hB
 obtain ⟨ops,ok⟩:=v
 simp only at hlen hB ⊢
 have hol:ops.length≤1048576:=by omega
 cases ok with
 | false =>
   rw [zAK,zAH]
   exact hgo false (by rw [hB];exact iff_of_false (by simp) fun h=>by cases h.1)
 | true =>
   rw [zAM]
   by_cases h1:8<m3
   ·rw [if_pos h1,zAH]
    exact hgo false (by rw [hB];exact iff_of_false (by simp) fun h=>by omega)
   rw [if_neg h1,z245,zAB]
   simp only [eq_self,decide_true,zAG,zAa,q107,zAB,zAJ]
   by_cases h2:takes c0 (m0,m1,m2,m3,m4,m5,m6,m7)≤m4∧m4≤8
   ·rw [if_pos h2,zAE]
    simp only
    refine zPs (fun i=>(ops,(i:Int),(c0,c1,c2,c3,c4,c5,c6),m0,m1,m2,m3,m4,m5,m6,m7)) (ops,(c0,c1,c2,c3,c4,c5,c6),m0,m1,m2,m3,m4,m5,m6,m7) false ops.length (fun i=>zNC c0 m4 ops (ops.getD i (0,0,0))) rfl ?_ ?_ ?_ ?_
    ·simp only [Int.lt_irrefl,if_false]
    ·intro i hi
     have i1:(i:Int)<ops.length:=by omega
     have i0:(0:Int)≤i:=by omega
     simp only [i1,i0,if_true,decide_true,Bool.and_self,zAG,Int.toNat_natCast]
     rw [zDB (0,0,0) hi]
     generalize ops.getD i (0,0,0)=x
     have z:=q246 (c0,c1,c2,c3,c4,c5,c6) (m0,m1,m2,m3,m4,m5,m6,m7) ops x hp hol
     rw [show ((x.1,x.2.1,x.2.2):InsP)=x from rfl,z]
     simp only [zAB,zAJ]
     by_cases h:zNC c0 m4 ops x
     ·rw [if_pos h,wI (by omega) (by omega)];exact .inl ⟨h,rfl⟩
     ·rw [if_neg h];exact .inr ⟨h,rfl⟩
    ·intro hins
     have hins:=(zCA (P:=fun x=>zNC c0 m4 ops x) (0,0,0)).2 hins
     simp only
     refine zPs (fun i=>(ops,(i:Int),(c0,c1,c2,c3,c4,c5,c6),m0,m1,m2,m3,m4,m5,m6,m7)) (ops,(c0,c1,c2,c3,c4,c5,c6),m0,m1,m2,m3,m4,m5,m6,m7) false m6.length (fun i=>zEu c0 m5.length ops (m6.getD i (0,0,0,0))) rfl ?_ ?_ ?_ ?_
     ·simp only [Int.lt_irrefl,if_false]
     ·intro i hi
      have i1:(i:Int)<m6.length:=by omega
      have i0:(0:Int)≤i:=by omega
      simp only [i1,i0,if_true,decide_true,Bool.and_self,zAG,Int.toNat_natCast]
      rw [zDB (0,0,0,0) hi]
      generalize m6.getD i (0,0,0,0)=x
      have z:=q247 (c0,c1,c2,c3,c4,c5,c6) (m0,m1,m2,m3,m4,m5,m6,m7) ops x hp hol
      rw [show ((x.1,x.2.1,x.2.2.1,x.2.2.2):Trp)=x from rfl,z]
      simp only [zAB,zAJ]
      by_cases h:zEu c0 m5.length ops x
      ·rw [if_pos h,wI (by omega) (by omega)];exact .inl ⟨h,rfl⟩
      ·rw [if_neg h];exact .inr ⟨h,rfl⟩
     ·intro htr
      have htr:=(zCA (P:=fun x=>zEu c0 m5.length ops x) (0,0,0,0)).2 htr
      have z:=q248 (c0,c1,c2,c3,c4,c5,c6) (m0,m1,m2,m3,m4,m5,m6,m7) ops hp hol b3 b4
      simp only
      rw [z,zAB]
      refine hgo _ ?_
      rw [hB,decide_eq_true_iff]
      exact ⟨fun h=>⟨rfl,by omega,h2,hins,htr,h⟩,fun h=>h.2.2.2.2.2⟩
     ·intro htr
      exact hgo false (by rw [hB];exact iff_of_false (by simp) fun h=>htr ((zCA (P:=fun x=>zEu c0 m5.length ops x) (0,0,0,0)).1 h.2.2.2.2.1))
    ·intro hins
     exact hgo false (by rw [hB];exact iff_of_false (by simp) fun h=>hins ((zCA (P:=fun x=>zNC c0 m4 ops x) (0,0,0)).1 h.2.2.2.1))
   ·rw [if_neg h2,zAH]
    exact hgo false (by rw [hB];exact iff_of_false (by simp) fun h=>h2 h.2.2.1)
end Go.Proofs.YtdpapeledldifaaGreat
end
section
namespace Go.Proofs.YtdpapeledldifaaGreat
open Go Go.AM Go.TM Go.Stow
end Go.Proofs.YtdpapeledldifaaGreat
end
section
namespace Go.Stow
theorem chkV_2 {c:ClsP} (h:¬ zEQ c.1 c.1.length 0=0):chkV c=2:=by unfold chkV;rw [if_pos h]
theorem chkV_3 {c:ClsP} (h1:zEQ c.1 c.1.length 0=0) (h2:¬ zDC c):chkV c=3:=by
 unfold chkV;rw [if_neg (show ¬ zEQ c.1 c.1.length 0≠0 from fun h=>h h1),if_pos h2]
theorem chkV_4 {c:ClsP} (h1:zEQ c.1 c.1.length 0=0) (h2:zDC c) (h3:¬ zEb c):chkV c=4:=by
 unfold chkV;rw [if_neg (show ¬ zEQ c.1 c.1.length 0≠0 from fun h=>h h1),if_neg (show ¬ ¬ zDC c from fun h=>h h2),if_pos h3]
theorem chkV_5 {c:ClsP} (h1:zEQ c.1 c.1.length 0=0) (h2:zDC c) (h3:zEb c) (h4:¬ zFx c):chkV c=5:=by
 unfold chkV;rw [if_neg (show ¬ zEQ c.1 c.1.length 0≠0 from fun h=>h h1),if_neg (show ¬ ¬ zDC c from fun h=>h h2),if_neg (show ¬ ¬ zEb c from fun h=>h h3),if_pos h4]
theorem chkV_6 {c:ClsP} (h1:zEQ c.1 c.1.length 0=0) (h2:zDC c) (h3:zEb c) (h4:zFx c) (h5:¬ zJR c):chkV c=6:=by
 unfold chkV;rw [if_neg (show ¬ zEQ c.1 c.1.length 0≠0 from fun h=>h h1),if_neg (show ¬ ¬ zDC c from fun h=>h h2),if_neg (show ¬ ¬ zEb c from fun h=>h h3),if_neg (show ¬ ¬ zFx c from fun h=>h h4),if_pos h5]
theorem chkV_0 {c:ClsP} (h1:zEQ c.1 c.1.length 0=0) (h2:zDC c) (h3:zEb c) (h4:zFx c) (h5:zJR c):chkV c=0:=by
 unfold chkV;rw [if_neg (show ¬ zEQ c.1 c.1.length 0≠0 from fun h=>h h1),if_neg (show ¬ ¬ zDC c from fun h=>h h2),if_neg (show ¬ ¬ zEb c from fun h=>h h3),if_neg (show ¬ ¬ zFx c from fun h=>h h4),if_neg (show ¬ ¬ zJR c from fun h=>h h5)]
end Go.Stow
namespace Go.Proofs.YtdpapeledldifaaGreat
open Go Go.AM Go.TM Go.Stow
theorem fit_bnd {c:Cls} (h:fCls c):bndP c.1:=by
 obtain ⟨⟨f1,_⟩,h1,_⟩:=h
 exact ⟨by omega,fun x hx=>by have:=(h1 x hx).2.1;omega⟩
theorem chk88 (c:Cls) (h:fCls c):F88 c=some (chkV c):=by
 have hp:=fit_bnd h
 have hb:=fit_b h
 obtain ⟨⟨f1,f2,f3,f4⟩,_,hfl,_,_,_,_,hms⟩:=h
 have hmf:∀ m∈c.2.2.2.2.2.2,0≤m.1∧m.1≤255:=fun m hm=>(hms m hm).1
 have z15:=q15 c.1 hp f1
 have z175:=q175 c hp hfl (by omega)
 have z176:=q176 c hp hfl (by omega)
 have z177:=q177 c hp hfl (by omega) hmf
 have hbm:=hb.2.2.2.2
 obtain ⟨c0,c1,c2,c3,c4,c5,c6⟩:=c
 simp only at f1 f2 f3 f4 hfl hmf hp z15 hbm
 simp only [F88,z15,z175,z176,z177,zAB,zAl,zAJ]
 by_cases h1:zEQ c0 c0.length 0=0
 ·rw [if_pos h1]
  by_cases h2:zDC (c0,c1,c2,c3,c4,c5,c6)
  ·rw [if_pos h2]
   by_cases h3:zEb (c0,c1,c2,c3,c4,c5,c6)
   ·rw [if_pos h3]
    by_cases h4:zFx (c0,c1,c2,c3,c4,c5,c6)
    ·rw [if_pos h4]
     refine zPs (fun i=>((i:Int),c0,c1,c2,c3,c4,c5,c6)) () 6 c6.length (fun i=>¬ has (c6.getD i mth0).1 8→zEc c0 (c6.getD i mth0)) rfl ?_ ?_ ?_ ?_
     ·simp only [Int.lt_irrefl,if_false]
     ·intro i hi
      have i1:(i:Int)<c6.length:=by omega
      have i0:(0:Int)≤i:=by omega
      simp only [i1,i0,if_true,decide_true,zAG,Int.toNat_natCast]
      rw [zDB mth0 hi]
      have hm1:=(zCA (P:=fun m:Mth=>0≤m.1∧m.1≤255) mth0).1 hmf i hi
      have hm2:=(zCA (P:=bMth) mth0).1 hbm i hi
      generalize c6.getD i mth0=x at hm1 hm2
      have z:F178 ((c0,c1,c2,c3,c4,c5,c6),x.1,x.2.1,x.2.2.1,x.2.2.2.1,x.2.2.2.2.1,x.2.2.2.2.2.1,x.2.2.2.2.2.2.1,x.2.2.2.2.2.2.2)=some (decide (¬ has x.1 8→zEc c0 x)):=q178 (c0,c1,c2,c3,c4,c5,c6) x hp hm1 hm2
      rw [z]
      simp only [zAB,zAJ]
      by_cases e:¬ has x.1 8→zEc c0 x
      ·rw [if_pos e,wI (by omega) (by omega)];exact .inl ⟨e,rfl⟩
      ·rw [if_neg e];exact .inr ⟨e,rfl⟩
     ·intro hall
      rw [chkV_0 h1 h2 h3 h4 ((zCA (P:=fun m:Mth=>¬ has m.1 8→zEc c0 m) mth0).2 hall)]
     ·intro hall
      rw [chkV_6 h1 h2 h3 h4 fun h:zJR _=>hall ((zCA (P:=fun m:Mth=>¬ has m.1 8→zEc c0 m) mth0).1 h)]
    ·rw [if_neg h4,chkV_5 h1 h2 h3 h4]
   ·rw [if_neg h3,chkV_4 h1 h2 h3]
  ·rw [if_neg h2,chkV_3 h1 h2]
 ·rw [if_neg h1,chkV_2 h1]
theorem zTh {c:Cls} (h:put c≠[]):fCls c:=by
 refine Classical.byContradiction fun hn=>h (zEG fun hh=>hn hh.1)
end Go.Proofs.YtdpapeledldifaaGreat
end
section
namespace Go.Proofs.YtdpapeledldifaaGreat
open Go Go.AM Go.TM Go.Stow
set_option maxRecDepth 10000
theorem Bu.cls {K:Nat} {p:List Cst} {f n s:Int} {fa:List Int} {fi:List (Int×Int×Int)} {ms:List Mth} {bad:Bool} (h:Bu K (p,f,n,s,fa,fi,ms,bad)) (hK:K≤1000000):bCls (p,f,n,s,fa,fi,ms):=by
 obtain ⟨⟨h1,h2⟩,h3,h4,h5,h6⟩:=h
 simp only at h1 h2 h3 h4 h5 h6
 refine ⟨⟨by simp only;omega,fun x hx=>?_⟩,by simp only;omega,by simp only;omega,by simp only;omega,fun m hm=>?_⟩
 ·have:=h2 x hx
  unfold bCst;omega
 ·obtain ⟨k1,k2,k3,k4⟩:=h6 m hm
  refine ⟨by omega,by omega,by omega,fun f hf=>?_⟩
  have:=k4 f hf
  exact ⟨by unfold zGO;omega,by unfold zGO;omega⟩
theorem t218 {s:List UInt8}:Tot (F218 s) fun y=>y.1=true→put y.2≠[]:=by
 unfold F218
 refine Tot.bindE (fun z=>z=(s,[],0,0,0,[],[],[])∧1≤s.length∧s.length≤2500) ?_ ?_
 ·refine Tot.cnd (fun _=>Tot.ret (by simp)) fun h=>Tot.cnd (fun _=>Tot.ret (by simp)) fun h1=>?_
  simp only [decide_eq_false_iff_not] at h h1
  have hw:IntKind.wrap .i64 ((s.length:Int) - 1)=(s.length:Int) - 1:=wrapI (by omega) (by omega)
  simp only [hw]
  exact Tot.grd (by simp;omega) (Tot.at (by omega) fun x _=>Tot.cnd (fun _=>Tot.ret (by simp)) fun _=>Tot.ret ⟨rfl,by omega,by omega⟩)
 rintro _ ⟨rfl,h1,h2⟩
 refine Tot.bind (t278 (by omega) (by omega)) ?_
 rintro y ⟨hy1,hy2,-,hy3⟩
 have hw:IntKind.wrap .i64 ((y.length:Int) - 1)=(y.length:Int) - 1:=wrapI (by omega) (by omega)
 refine Tot.bindE (fun z=>∃ b,z=(([],0,0,0,[],[],[]),b)∧Bu 200000 b)
  (Tot.loop (fun z=>∃ i b,z=(y,i,([],0,0,0,[],[],[]),b)∧0≤i∧i≤(y.length:Int)∧Bu (60*i.toNat) b) (fun z=>y.length - z.2.1.toNat) ?_ ⟨0,_,rfl,by simp,by simp,⟨by simp,by simp⟩,by simp,by simp,by simp,by simp⟩) ?_
 ·rintro _ ⟨i,⟨p,f,n,s',fa,fi,ms,bad⟩,rfl,i0,i1,hb⟩
  refine Tot.bindE (fun z=>z=(y,i,([],0,0,0,[],[],[]),p,f,n,s',fa,fi,ms,bad)∧i<(y.length:Int)) ?_ ?_
  ·refine Tot.cnd (fun h=>Tot.cnd (fun _=>?_) fun _=>Tot.ret ⟨_,rfl,hb.mono (by omega)⟩) fun _=>Tot.ret ⟨_,rfl,hb.mono (by omega)⟩
   simp only [hw,decide_eq_true_eq] at h
   exact Tot.ret ⟨rfl,by omega⟩
  rintro _ ⟨rfl,hi⟩
  obtain ⟨x,ex⟩:∃ x,y[i.toNat]? = some x:=⟨y[i.toNat],List.getElem?_eq_getElem (by omega)⟩
  have hx:=hy3 x (List.mem_of_getElem? ex)
  refine Tot.grd (by simp;omega) (Tot.at' ex (Tot.bind (t279 (by omega) hb (by omega)) ?_))
  rintro ⟨p',f',n',s1,fa',fi',ms',bad'⟩ hb'
  have hw':IntKind.wrap .i64 (i+1)=i+1:=wrapI (by omega) (by omega)
  show Tot (some (Sum.inl (y,IntKind.wrap .i64 (i+1),(([],0,0,0,[],[],[]):Cls),p',f',n',s1,fa',fi',ms',bad'))) _
  rw [hw']
  exact Tot.ret ⟨⟨_,_,rfl,by omega,by omega,hb'.mono (by omega)⟩,by show y.length - (i+1).toNat<y.length - i.toNat;omega⟩
 rintro _ ⟨⟨p,f,n,s',fa,fi,ms,bad⟩,rfl,hb⟩
 have hc:=hb.cls (by omega)
 refine Tot.bindE (fun z=>z=(([],0,0,0,[],[],[]),p,f,n,s',fa,fi,ms,bad)∧put (p,f,n,s',fa,fi,ms)≠[]) ?_ ?_
 ·refine Tot.cnd (fun _=>Tot.ret (by simp)) fun _=>?_
  rw [put22 _ hc,zAB]
  refine Tot.cnd (fun _=>Tot.ret (by simp)) fun h=>?_
  simp only [decide_eq_false_iff_not] at h
  rw [chk88 _ (zTh h),zAB]
  exact Tot.cnd (fun _=>Tot.ret (by simp)) fun _=>Tot.ret ⟨rfl,h⟩
 rintro _ ⟨rfl,h⟩
 exact Tot.ret fun _=>h
end Go.Proofs.YtdpapeledldifaaGreat
end
