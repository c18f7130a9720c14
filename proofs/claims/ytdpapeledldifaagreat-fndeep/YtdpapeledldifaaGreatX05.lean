/- Part 6 of the proof of FnDeep; no condition. -/
import Derived.Test.YtdpapeledldifaaGreatX04
import Derived.KernelRfl
open Option renaming some -> U
open Decidable renaming decide -> aa
open Bool renaming true -> ad
open Bool renaming false -> ag
open Option renaming none -> aj
open Sum renaming inl -> an
open Sum renaming inr -> ao
open List renaming length -> au
open Int renaming toNat -> aH
open List renaming drop -> kZ
open List renaming take -> nY
set_option autoImplicit true
set_option relaxedAutoImplicit true
set_option linter.all false
namespace Go.AM
section
def m8:List (Nat×TI)->Nat->TI
 |[],_=>⟨.other,0,0,[],ag⟩
 |p::l,t=>bif p.1==t then p.2 else m8 l t
structure Ff (P:Program)(t:Nat)(x:TI)(i:TypeInfo)(z:Value)(d:TypeDesc):Prop where
 info:P.info? t=U i
 size:i.size=x.size
 bytes:i.bytes=x.bytes
 zero:i.zero=U z
 zeros:z.cells.toList.map zCU=x.zero
 one:z.cells.toList.all (·.oneCell')=ad
 len:x.zero.length=x.size
 c1:fj x.zero=ad
 und:P.underlying t=U d
 kind:ld d x.kind
 agg:rC d=(match x.kind with|.struct _=>ad|_=>ag)
 s1:(match x.kind with|.struct _=>ad|_=>ag)=ag->x.size=1
 st:(match x.kind with|.struct _=>ad|_=>ag)=ad->P.stoodInHeld t=ag/\z = .agg z.cells
 known:x.known=ad
def zN {t:Nat}:∀l:List (Nat×TI),(m8 l t).known=ad\/(m8 l t).kind ≠ .other->(t,m8 l t)∈l
 |[],h=>by simp[m8]at h
 | (u,x)::l,h=>by
   simp only[m8]at h ⊢;cases hu:(u==t)with
   | true=>
     have:u=t:=by simpa using hu
     subst this;simp
   | false=>
     rw[hu]at h;simp only[cond_false]at h ⊢;exact List.mem_cons_of_mem _ (zN l h)
def zc6 {P:Program}(l:List (Nat×TI))(h:∀ p∈l,∃ i z d,Ff P p.1 p.2 i z d):bV P (m8 l)where
 kk:=fun t ht=>by
  obtain⟨i,z,d,hi⟩:=h _ (zN l (.inr ht));exact hi.known
 ok:=fun t ht=>by
  obtain⟨i,z,d,hi⟩:=h _ (zN l (.inl ht));exact⟨i,z,d,hi.info,hi.size,hi.bytes,hi.zero,hi.zeros,fun v hv=>List.all_eq_true.1 hi.one v hv,hi.len,hi.c1,trivial,hi.und,hi.kind,hi.agg,hi.s1,hi.st⟩
end
end Go.AM
