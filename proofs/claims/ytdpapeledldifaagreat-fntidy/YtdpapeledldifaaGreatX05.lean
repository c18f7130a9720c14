/- Part 6 of the proof of FnTidy; no condition. -/
import Derived.Test.YtdpapeledldifaaGreatX04
import Derived.KernelRfl
set_option autoImplicit true
set_option relaxedAutoImplicit true
set_option linter.all false
namespace Go.AM
section
def zQF:List (Nat×TI)→Nat→TI
 |[],_=>⟨.other,0,0,[],false⟩
 |p::l,t=>bif p.1==t then p.2 else zQF l t
structure TyOk (P:Program)(t:Nat)(x:TI)(i:TypeInfo)(z:Value)(d:TypeDesc):Prop where
 info:P.info? t=some i
 size:i.size=x.size
 bytes:i.bytes=x.bytes
 zero:i.zero=some z
 zeros:z.cells.toList.map zCW=x.zero
 one:z.cells.toList.all (·.oneCell')=true
 len:x.zero.length=x.size
 c1:zCG x.zero=true
 und:P.underlying t=some d
 kind:zKm d x.kind
 agg:zQK d=(match x.kind with|.struct _=>true|_=>false)
 s1:(match x.kind with|.struct _=>true|_=>false)=false→x.size=1
 st:(match x.kind with|.struct _=>true|_=>false)=true→P.stoodInHeld t=false∧z = .agg z.cells
 known:x.known=true
def zKC {t:Nat}:∀l:List (Nat×TI),(zQF l t).known=true∨(zQF l t).kind ≠ .other→(t,zQF l t)∈l
 |[],h=>by simp[zQF]at h
 | (u,x)::l,h=>by
   simp only[zQF]at h ⊢;cases hu:(u==t)with
   | true=>
     have:u=t:=by simpa using hu
     subst this;simp
   | false=>
     rw[hu]at h;simp only[cond_false]at h ⊢;exact List.mem_cons_of_mem _ (zKC l h)
def LayOk.of_list {P:Program}(l:List (Nat×TI))(h:∀ p∈l,∃ i z d,TyOk P p.1 p.2 i z d):LayOk P (zQF l)where
 kk:=fun t ht=>by
  obtain⟨i,z,d,hi⟩:=h _ (zKC l (.inr ht));exact hi.known
 ok:=fun t ht=>by
  obtain⟨i,z,d,hi⟩:=h _ (zKC l (.inl ht));exact⟨i,z,d,hi.info,hi.size,hi.bytes,hi.zero,hi.zeros,fun v hv=>List.all_eq_true.1 hi.one v hv,hi.len,hi.c1,trivial,hi.und,hi.kind,hi.agg,hi.s1,hi.st⟩
end
end Go.AM
