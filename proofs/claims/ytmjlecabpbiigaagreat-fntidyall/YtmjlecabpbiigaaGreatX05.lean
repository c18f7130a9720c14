/- Part 6 of the proof of FnTidyAll; no condition. -/
import Derived.Test.YtmjlecabpbiigaaGreatX04
import Derived.KernelRfl
open Option renaming some -> U
open Decidable renaming decide -> aa
open Bool renaming true -> ae
open Bool renaming false -> ag
open Option renaming none -> aj
open Sum renaming inr -> an
open Sum renaming inl -> ao
open List renaming length -> au
open Int renaming toNat -> aw
open List renaming drop -> cU
open List renaming take -> de
set_option autoImplicit true
set_option relaxedAutoImplicit true
set_option linter.all false
namespace Go.AM
section
def nh:List (Nat×TI)->Nat->TI
 |[],_=>⟨.other,0,0,[],ag⟩
 |p::l,t=>bif p.1==t then p.2 else nh l t
structure FQ (P:Program)(t:Nat)(x:TI)(i:TypeInfo)(z:Value)(d:TypeDesc):Prop where
 info:P.info? t=U i
 size:i.size=x.size
 bytes:i.bytes=x.bytes
 zero:i.zero=U z
 zeros:z.cells.toList.map zCe=x.zero
 one:z.cells.toList.all (·.oneCell')=ae
 len:x.zero.length=x.size
 c1:fG x.zero=ae
 und:P.underlying t=U d
 kind:lz d x.kind
 agg:rQ d=(match x.kind with|.struct _=>ae|_=>ag)
 s1:(match x.kind with|.struct _=>ae|_=>ag)=ag->x.size=1
 st:(match x.kind with|.struct _=>ae|_=>ag)=ae->P.stoodInHeld t=ag/\z = .agg z.cells
 known:x.known=ae
def As {t:Nat}:∀l:List (Nat×TI),(nh l t).known=ae\/(nh l t).kind ≠ .other->(t,nh l t)∈l
 |[],h=>by simp[nh]at h
 | (u,x)::l,h=>by
   simp only[nh]at h ⊢;cases hu:(u==t)with
   | true=>
     have:u=t:=by simpa using hu
     subst this;simp
   | false=>
     rw[hu]at h;simp only[cond_false]at h ⊢;exact List.mem_cons_of_mem _ (As l h)
def zel {P:Program}(l:List (Nat×TI))(h:∀ p∈l,∃ i z d,FQ P p.1 p.2 i z d):bU P (nh l)where
 kk:=fun t ht=>by
  obtain⟨i,z,d,hi⟩:=h _ (As l (.inr ht));exact hi.known
 ok:=fun t ht=>by
  obtain⟨i,z,d,hi⟩:=h _ (As l (.inl ht));exact⟨i,z,d,hi.info,hi.size,hi.bytes,hi.zero,hi.zeros,fun v hv=>List.all_eq_true.1 hi.one v hv,hi.len,hi.c1,trivial,hi.und,hi.kind,hi.agg,hi.s1,hi.st⟩
end
end Go.AM
