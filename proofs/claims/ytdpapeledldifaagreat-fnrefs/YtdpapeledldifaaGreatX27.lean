/- Part 28 of the proof that the law FnRefs holds of every input; no condition. -/
import Derived.Test.YtdpapeledldifaaGreatX26
import Derived.Shelf.Sort.Plain
import Derived.Shelf.Slices.In.SortNone
import Derived.Shelf.Slices.CompactS
set_option autoImplicit true
set_option relaxedAutoImplicit true
set_option linter.all false
noncomputable section
namespace Go.Proofs.YtdpapeledldifaaGreat
open Go Go.AM Go.TM
set_option maxRecDepth 100000
def zQW:Go.Shelf.Ren:=⟨fun|190=>116|125=>207|258=>206|128=>270|129=>271|302=>261|303=>262|304=>263|305=>264|306=>265|307=>266|308=>267|309=>268|310=>269|333=>295|329=>296|330=>297|334=>298|335=>299|336=>300|344=>323|n=>n,fun|31=>65|9=>9|3=>3|46=>200|0=>0|51=>244|53=>246|4=>4|183=>236|182=>235|131=>241|5=>5|218=>266|222=>270|228=>280|229=>193|n=>n,fun|n=>n⟩
theorem zVS:Go.Proofs.Lays.n190 Tryz.prog zQW where
 mixed:=by kernel_rfl
 f125:=Tryz.func207.trans (congrArg some (by kernel_rfl))
 f128:=Tryz.func270.trans (congrArg some (by kernel_rfl))
 f129:=Tryz.func271.trans (congrArg some (by kernel_rfl))
 f190:=Tryz.func116.trans (congrArg some (by kernel_rfl))
 f258:=Tryz.func206.trans (congrArg some (by kernel_rfl))
 f302:=Tryz.func261.trans (congrArg some (by kernel_rfl))
 f303:=Tryz.func262.trans (congrArg some (by kernel_rfl))
 f304:=Tryz.func263.trans (congrArg some (by kernel_rfl))
 f305:=Tryz.func264.trans (congrArg some (by kernel_rfl))
 f306:=Tryz.func265.trans (congrArg some (by kernel_rfl))
 f307:=Tryz.func266.trans (congrArg some (by kernel_rfl))
 f308:=Tryz.func267.trans (congrArg some (by kernel_rfl))
 f309:=Tryz.func268.trans (congrArg some (by kernel_rfl))
 f310:=Tryz.func269.trans (congrArg some (by kernel_rfl))
 f329:=Tryz.func296.trans (congrArg some (by kernel_rfl))
 f330:=Tryz.func297.trans (congrArg some (by kernel_rfl))
 f333:=Tryz.func295.trans (congrArg some (by kernel_rfl))
 f334:=Tryz.func298.trans (congrArg some (by kernel_rfl))
 f335:=Tryz.func299.trans (congrArg some (by kernel_rfl))
 f336:=Tryz.func300.trans (congrArg some (by kernel_rfl))
 f344:=Tryz.func323.trans (congrArg some (by kernel_rfl))
 t0:=Tryz.underlying0
 a0:=Tryz.isAgg0
 z0:=Tryz.sizeOf0
 v0:=Tryz.zeroValue0
 t3:=Tryz.underlying3
 a3:=Tryz.isAgg3
 z3:=Tryz.sizeOf3
 v3:=Tryz.zeroValue3
 t4:=Tryz.underlying4
 a4:=Tryz.isAgg4
 z4:=Tryz.sizeOf4
 v4:=Tryz.zeroValue4
 t5:=Tryz.underlying5
 a5:=Tryz.isAgg5
 z5:=Tryz.sizeOf5
 v5:=Tryz.zeroValue5
 t9:=Tryz.underlying9
 a9:=Tryz.isAgg9
 z9:=Tryz.sizeOf9
 v9:=Tryz.zeroValue9
 t31:=Tryz.underlying65
 a31:=Tryz.isAgg65
 z31:=Tryz.sizeOf65
 v31:=Tryz.zeroValue65
 t46:=Tryz.underlying200
 a46:=Tryz.isAgg200
 z46:=Tryz.sizeOf200
 v46:=Tryz.zeroValue200
 t51:=Tryz.underlying244
 a51:=Tryz.isAgg244
 z51:=Tryz.sizeOf244
 v51:=Tryz.zeroValue244
 t53:=Tryz.underlying246
 a53:=Tryz.isAgg246
 z53:=Tryz.sizeOf246
 v53:=Tryz.zeroValue246
 t131:=Tryz.underlying241
 a131:=Tryz.isAgg241
 z131:=Tryz.sizeOf241
 v131:=Tryz.zeroValue241
 t182:=Tryz.underlying235
 a182:=Tryz.isAgg235
 z182:=Tryz.sizeOf235
 v182:=Tryz.zeroValue235
 t183:=Tryz.underlying236
 a183:=Tryz.isAgg236
 z183:=Tryz.sizeOf236
 v183:=Tryz.zeroValue236
 t218:=Tryz.underlying266
 a218:=Tryz.isAgg266
 z218:=Tryz.sizeOf266
 v218:=Tryz.zeroValue266
 t222:=Tryz.underlying270
 a222:=Tryz.isAgg270
 z222:=Tryz.sizeOf270
 v222:=Tryz.zeroValue270
 t228:=Tryz.underlying280
 a228:=Tryz.isAgg280
 z228:=Tryz.sizeOf280
 v228:=Tryz.zeroValue280
 t229:=Tryz.underlying193
 a229:=Tryz.isAgg193
 z229:=Tryz.sizeOf193
 v229:=Tryz.zeroValue193
abbrev ti116:SPat:=⟨[(0,.ar 100000)],[.arr 100000 .str true]⟩
abbrev to116:SPat:=⟨[],[.arr 100000 .str true]⟩
def srt (l:List (List UInt8)):List (List UInt8):=l.mergeSort fun x y=>decide (x≤y)
def F116:List (List UInt8)→Option (List (List UInt8)):=fun l=>grdO (decide (l.length<4611686018427387904)) (some (srt l))
def te116:TEnt:=⟨116,false,[(0,[])],ti116,to116.Den,F116,fun y=>some (.tup [],[.arr 100000 .str true y])⟩
theorem zUU (l:List (List UInt8)):(srt l).length=l.length:=List.length_mergeSort l
theorem zHO {w:World}{G:Gh}{d:Bool}:∀(l:List (List UInt8)) (vs:List Value) (f:FP),RLL w G (l.map (encC d .str)) vs f↔f=zf∧∃r,vs=l.map encStr++r
 |[],vs,f=>by simp[RLL]
 | x::l,vs,f=>by
   simp only[List.map_cons,RLL,encC,RL,R,List.length_cons,List.length_nil,Nat.zero_add]
   constructor
   ·rintro⟨f1,f2,⟨v,vs',f3,f4,rfl,⟨rfl,rfl⟩,rfl,rfl⟩,_,h4,rfl⟩
    obtain⟨rfl,r,hr⟩:=(zHO (d:=d) l _ _).1 h4
    simp only[List.drop_succ_cons,List.drop_zero]at hr
    exact⟨funext fun g=>rfl,r,by rw[hr];rfl⟩
   ·rintro⟨rfl,r,rfl⟩
    refine⟨zf,zf,⟨_,_,zf,zf,rfl,⟨rfl,rfl⟩,rfl,funext fun g=>rfl⟩,?_,?_,funext fun g=>rfl⟩
    ·intro j v hj hv
     have:j=0:=by omega
     subst this
     simp only[List.cons_append,List.getElem?_cons_zero,zSe]at hv
     rw[←hv];rfl
    ·exact(zHO (d:=d) l _ _).2 ⟨rfl,r,by simp⟩
theorem ac116 (l:List (List UInt8))(hl:l.length<4611686018427387904){Post:SV→List Ob→Prop}(h5:Post (.tup []) [⟨100000,1,(srt l).map (encC true .str),false⟩]) :
  AC Tryz.prog 116 [.ar 100000] [⟨100000,1,l.map (encC true .str),false⟩] Post:=by
 intro w G vs fO hlen hr hO hown
 simp only[RL,R]at hr
 obtain⟨v0,r0,f1,f2,e1,⟨rfl,r,hrb,hm⟩,rfl,_⟩:=hr
 have hvs:vs = #[v0]:=by
  have hsz:vs.toList.length=1:=hlen
  rw[e1]at hsz
  have:r0=[]:=by simpa using hsz
  subst this
  exact Array.toList_inj.1 e1
 obtain⟨g1,g2,⟨r',hrb',hk,hn,hrows,hm'⟩,rfl,hff⟩:=hO
 rw[hrb]at hrb'
 obtain rfl:=Option.some.inj hrb'
 have hff:fO=g1:=by rw[hff];funext g;simp[zf]
 subst hff
 have hrn:r.n=l.length:=by rw[hn];simp
 have hsn:(srt l).length=l.length:=zUU l
 have hrow':∀row∈(srt l).map (encC true .str),row.length=1:=fun row hrow=>by
  obtain⟨x,_,rfl⟩:=List.mem_map.1 hrow;rfl
 refine .inl ⟨zDz Tryz.func116 (by kernel_rfl) (by kernel_rfl),?_⟩
 cases hb:r.blk with
 | none =>
   rw[hb]at hm hm'
   obtain⟨hm0,a,rfl⟩:=hm
   obtain⟨hl0,rfl⟩:=hm'
   have hl0:l=[]:=List.map_eq_nil_iff.1 hl0
   subst hl0
   rw[hvs]
   refine(Any.slices_Sort_string_none zVS a 0 w).mono fun ex w' ⟨he,hw⟩=>?_
   subst hw
   refine⟨_,he,_,_,G,zf,zf,h5,?_,?_,hown,fun g h=>h,fun g _ h=>.inl h,fun g _ h=>by simp[zf]at h,fun g _ _=>rfl,fun n _=>rfl,by simp[names],Nat.le_refl _,rfl,rfl,rfl⟩
   ·simp only[R,RL];exact⟨#[],rfl,rfl,trivial⟩
   ·refine⟨zf,zf,⟨r,hrb,hk,?_,hrow',?_⟩,rfl,funext fun g=>rfl⟩
    ·simp only[List.length_map];rw[hsn,hrn]
    ·rw[hb];exact⟨by simp[srt],by first|rfl|trivial⟩
 | some q =>
   obtain⟨g,base,csz⟩:=q
   rw[hb]at hm hm'
   obtain⟨cap,rfl,hcap,hcs⟩:=hm
   obtain⟨c,et,f',hheap,hsz,hle,hrll,hfo⟩:=hm'
   obtain⟨rfl,rest,hcells⟩:=(zHO l _ _).1 hrll
   rw[hk,hrn]at hle
   simp only[Nat.mul_one]at hle
   have hcl:c.toList=c.toList.take base++(l.map encStr++rest):=by rw[←hcells,List.take_append_drop]
   have htl:(c.toList.take base).length=base:=by simp only[List.length_take,Array.length_toList];omega
   have hcj:∀j (hj:j<l.length),c[base+j]? = some (encStr l[j]):=fun j hj=>by
    rw[←Array.getElem?_toList,hcl,List.getElem?_append_right (by omega),htl,Nat.add_sub_cancel_left,List.getElem?_append_left (by simpa using hj),List.getElem?_map,List.getElem?_eq_getElem hj];rfl
   rw[hvs,hrn]
   have hlt:g<w.heap.size:=(Array.getElem?_eq_some_iff.1 hheap).1
   refine(Any.slices_Sort_string zVS g base cap l w ?_ hlt hl).mono fun ex w' ⟨he,n,os,hw⟩=>?_
   ·intro j hj
    have hj:j<l.length:=by simpa using hj
    refine⟨?_,?_⟩
    ·simp only[World.cell?,hheap,Option.isSome_none,Bool.false_eq_true,if_false]
     rw[hcj j hj,getElem!_pos _ j (by simpa using hj)];simp
    ·simp only[World.frozen?,hheap];simp
   ·have hsrt:(l.mergeSort fun x y=>decide (x≤y))=srt l:=rfl
    rw[hsrt]at hw
    have hnew:w'.heap[g]? = some (.cells (Go.Sort.putCells encStr base (srt l).toArray c) et (0,0)):=by
     rw[hw]
     simp only[Go.Sort.grow,Go.Sort.putRow,Go.Sort.mapBlock,Go.Sort.ahead]
     rw[Array.getElem?_append_left (by simpa using hlt),Array.getElem?_modify,if_pos rfl,hheap];rfl
    have hold:∀k,k<w.heap.size→k≠g→w'.heap[k]? = w.heap[k]?:=fun k hk hkg=>by
     rw[hw]
     simp only[Go.Sort.grow,Go.Sort.putRow,Go.Sort.mapBlock,Go.Sort.ahead]
     rw[Array.getElem?_append_left (by simpa using hk),Array.getElem?_modify,if_neg (fun h=>hkg h.symm)]
    have hsize:w.heap.size≤w'.heap.size:=by rw[hw];simp[Go.Sort.grow,Go.Sort.putRow,Go.Sort.mapBlock,Go.Sort.ahead]
    have hdrop:(Go.Sort.putCells encStr base (srt l).toArray c).toList.drop base=(srt l).map encStr++rest:=by
     apply List.ext_getElem?
     intro j
     rw[List.getElem?_drop,Array.getElem?_toList]
     simp only[Go.Sort.putCells,Array.getElem?_mapIdx]
     by_cases hj:j<l.length
     ·rw[hcj j hj]
      have:base≤base+j∧base+j<base+(srt l).toArray.size:=by simp only[List.size_toArray];omega
      simp only[Option.map_some,if_pos this,Nat.add_sub_cancel_left]
      rw[List.getElem?_append_left (by simp only[List.length_map];omega),List.getElem?_map,List.getElem?_eq_getElem (by omega),getElem!_pos _ j (by simp only[List.size_toArray];omega)]
      simp
     ·have:¬(base≤base+j∧base+j<base+(srt l).toArray.size):=by simp only[List.size_toArray];omega
      simp only[if_neg this,Option.map_id']
      rw[List.getElem?_append_right (by simp only[List.length_map];omega),←Array.getElem?_toList,hcl,List.getElem?_append_right (by omega),htl,Nat.add_sub_cancel_left,List.getElem?_append_right (by simp only[List.length_map];omega)]
      simp only[List.length_map,hsn]
    have hown1:fO g=1:=by rw[hfo];simp[AM.one,zf]
    refine⟨_,he,_,_,G,zf,fO,h5,?_,?_,?_,fun k h=>h,fun k _ h=>.inl h,fun k _ h=>by simpa[zf]using h,?_,fun k _=>rfl,by simp[names],hsize,?_,?_,?_⟩
    ·simp only[R,RL];exact⟨#[],rfl,rfl,trivial⟩
    ·refine⟨fO,zf,⟨r,hrb,hk,?_,hrow',?_⟩,rfl,funext fun k=>rfl⟩
     ·simp only[List.length_map];rw[hsn,hrn]
     ·rw[hb]
      refine⟨_,et,zf,hnew,by simp only[Go.Sort.putCells,Array.size_mapIdx];exact hsz,?_,(zHO (srt l) _ _).2 ⟨rfl,rest,hdrop⟩,hfo⟩
      rw[hk,hrn];simp only[Nat.mul_one];omega
    ·obtain⟨o1,o2,o3,o4⟩:=hown
     refine⟨fun k=>by simpa[zf]using o1 k,fun k hk=>by simpa[zf]using o2 k hk,fun k hk=>Nat.lt_of_lt_of_le (o3 k hk) hsize,fun k hk=>Nat.lt_of_lt_of_le (o4 k (by simpa[zf]using hk)) hsize⟩
    ·intro k hk h0
     exact hold k hk (fun h=>by rw[h,hown1]at h0;cases h0)
    ·rw[hw];rfl
    ·rw[hw];rfl
    ·rw[hw];rfl
theorem c116:zHG Tryz.prog 116 te116.W:=by
 rintro args ob K ⟨l,y,v,obs,h1,h2,h3,h4,h5⟩
 obtain⟨hl,h3⟩:=zAM (show grdO (decide (List.length (α:=List UInt8) l<4611686018427387904)) (some (srt l))=some y from h3)
 obtain⟨rfl⟩:=Option.some.inj h3
 have h4:some (V.tup [],[TO.arr 100000 .str true (srt l)])=some (v,obs):=h4
 obtain⟨rfl,rfl⟩:=Prod.mk.inj (Option.some.inj h4)
 exact AC.le h1 h2 (ac116 l (of_decide_eq_true hl) h5)
noncomputable def tb116:Nat→Option TEnt:=insT 116 te116 tb274
theorem ok116:zTb tb116:=TbOk.ins ok274 c116
def zQV:Go.Shelf.Ren:=⟨fun|194=>117|n=>n,fun|31=>65|9=>9|3=>3|4=>4|0=>0|n=>n,fun|n=>n⟩
theorem lays194:Go.Proofs.Lays.n194 Tryz.prog zQV where
 mixed:=by kernel_rfl
 f194:=Tryz.func117.trans (congrArg some (by kernel_rfl))
 t0:=Tryz.underlying0
 a0:=Tryz.isAgg0
 z0:=Tryz.sizeOf0
 v0:=Tryz.zeroValue0
 t3:=Tryz.underlying3
 a3:=Tryz.isAgg3
 z3:=Tryz.sizeOf3
 v3:=Tryz.zeroValue3
 t4:=Tryz.underlying4
 a4:=Tryz.isAgg4
 z4:=Tryz.sizeOf4
 v4:=Tryz.zeroValue4
 t9:=Tryz.underlying9
 a9:=Tryz.isAgg9
 z9:=Tryz.sizeOf9
 v9:=Tryz.zeroValue9
 t31:=Tryz.underlying65
 a31:=Tryz.isAgg65
 z31:=Tryz.sizeOf65
 v31:=Tryz.zeroValue65
theorem ac117 {P:Program}{ρ:Shelf.Ren}(L:Lays.n194 P ρ){fn:Func}(hf:P.funcs[ρ.f 194]? = some fn)(hn:(fn.name == "runtime.NumGoroutine")=false) (hb:fn.body.isNone=false)
  (l:List (List UInt8)) (hl:l.length<4611686018427387904) {Post:SV→List Ob→Prop} (h5:Post (.own 1 ((Lib.compact l).map (encC true .str))) []) :
  AC P (ρ.f 194) [.ar 100000] [⟨100000,1,l.map (encC true .str),false⟩] Post:=by
 intro w G vs fO hlen hr hO hown
 simp only[RL,R]at hr
 obtain⟨v0,r0,f1,f2,e1,⟨rfl,r,hrb,hm⟩,rfl,_⟩:=hr
 have hvs:vs = #[v0]:=by
  have hsz:vs.toList.length=1:=hlen
  rw[e1]at hsz
  have:r0=[]:=by simpa using hsz
  subst this
  exact Array.toList_inj.1 e1
 obtain⟨g1,g2,⟨r',hrb',hk,hn',hrows,hm'⟩,rfl,hff⟩:=hO
 rw[hrb]at hrb'
 obtain rfl:=Option.some.inj hrb'
 have hff:fO=g1:=by rw[hff];funext g;simp[zf]
 subst hff
 have hrn:r.n=l.length:=by rw[hn'];simp
 have hcl0:(Lib.compact l).length≤l.length:=by
  simp only[Lib.compact,Lib.compactUpTo,List.length_map]
  exact Nat.le_trans (List.length_filter_le _ _) (by simp)
 have hrow':∀row∈(Lib.compact l).map (encC true .str),row.length=1:=fun row hrow=>by
  obtain⟨x,_,rfl⟩:=List.mem_map.1 hrow;rfl
 refine .inl ⟨zDz hf hn hb,?_⟩
 cases hbk:r.blk with
 | none =>
   rw[hbk]at hm hm'
   obtain⟨hm0,a,rfl⟩:=hm
   obtain⟨hl0,rfl⟩:=hm'
   have hl0:l=[]:=List.map_eq_nil_iff.1 hl0
   subst hl0
   rw[hvs]
   refine(Any.slices_Compact_string_empty L a 0 w).mono fun ex w' ⟨he,hw⟩=>?_
   subst hw
   refine⟨_,he,_,_,G,zf,zf,h5,?_,rfl,⟨fun g=>by simp[zf],fun g _=>by simp[zf],hown.2.2.1,fun g hg=>by simp[zf]at hg⟩,fun g h=>h,fun g _ h=>.inl h,fun g _ h=>by simp[zf]at h,fun g _ _=>rfl,fun n _=>rfl,by simp[names],Nat.le_refl _,rfl,rfl,rfl⟩
   simp only[R]
   exact .inl ⟨by simp[Lib.compact,Lib.compactUpTo],by trivial,a,rfl⟩
 | some q =>
   obtain⟨g,base,csz⟩:=q
   rw[hbk]at hm hm'
   obtain⟨cap,rfl,hcap,hcs⟩:=hm
   obtain⟨c,et,f',hheap,hsz,hle,hrll,hfo⟩:=hm'
   obtain⟨rfl,rest,hcells⟩:=(zHO l _ _).1 hrll
   rw[hk,hrn]at hle
   simp only[Nat.mul_one]at hle
   rw[hk]at hcs
   simp only[Nat.mul_one]at hcs
   have hcl:c.toList=c.toList.take base++(l.map encStr++rest):=by rw[←hcells,List.take_append_drop]
   have htl:(c.toList.take base).length=base:=by simp only[List.length_take,Array.length_toList];omega
   have hcj:∀j (hj:j<l.length),c[base+j]? = some (encStr l[j]):=fun j hj=>by
    rw[←Array.getElem?_toList,hcl,List.getElem?_append_right (by omega),htl,Nat.add_sub_cancel_left,List.getElem?_append_left (by simpa using hj),List.getElem?_map,List.getElem?_eq_getElem hj];rfl
   rw[hvs,hrn]
   have hlt:g<w.heap.size:=(Array.getElem?_eq_some_iff.1 hheap).1
   refine(Any.slices_Compact_string L g base cap l w ?_ (by omega) (by omega)).mono fun ex w' ⟨he,n,hw⟩=>?_
   ·intro j hj
    have hj:j<l.length:=by simpa using hj
    refine⟨?_,?_⟩
    ·simp only[World.cell?,hheap,Option.isSome_none,Bool.false_eq_true,if_false]
     rw[hcj j hj,getElem!_pos _ j (by simpa using hj)];simp
    ·simp only[World.frozen?,hheap];simp
   ·generalize hzs:Lib.compact l=zs at *
    generalize hns:zs++List.replicate (l.length-zs.length) []=ns at *
    have hnl:ns.length=l.length:=by rw[←hns];simp;omega
    have hnew:w'.heap[g]? = some (.cells (Go.Sort.putCells encStr base ns.toArray c) et (0,0)):=by
     rw[hw]
     simp only[Go.Sort.putRow,Go.Sort.mapBlock,Go.Sort.ahead]
     rw[Array.getElem?_modify,if_pos rfl,hheap];rfl
    have hold:∀k,k<w.heap.size→k≠g→w'.heap[k]? = w.heap[k]?:=fun k hk hkg=>by
     rw[hw]
     simp only[Go.Sort.putRow,Go.Sort.mapBlock,Go.Sort.ahead]
     rw[Array.getElem?_modify,if_neg (fun h=>hkg h.symm)]
    have hsize:w.heap.size≤w'.heap.size:=by rw[hw];simp[Go.Sort.putRow,Go.Sort.mapBlock,Go.Sort.ahead]
    have hdrop:(Go.Sort.putCells encStr base ns.toArray c).toList.drop base=ns.map encStr++rest:=by
     apply List.ext_getElem?
     intro j
     rw[List.getElem?_drop,Array.getElem?_toList]
     simp only[Go.Sort.putCells,Array.getElem?_mapIdx]
     by_cases hj:j<l.length
     ·rw[hcj j hj]
      have:base≤base+j∧base+j<base+ns.toArray.size:=by simp only[List.size_toArray];omega
      simp only[Option.map_some,if_pos this,Nat.add_sub_cancel_left]
      rw[List.getElem?_append_left (by simp only[List.length_map];omega),List.getElem?_map,List.getElem?_eq_getElem (by omega),getElem!_pos _ j (by simp only[List.size_toArray];omega)]
      simp
     ·have:¬(base≤base+j∧base+j<base+ns.toArray.size):=by simp only[List.size_toArray];omega
      simp only[if_neg this,Option.map_id']
      rw[List.getElem?_append_right (by simp only[List.length_map];omega),←Array.getElem?_toList,hcl,List.getElem?_append_right (by omega),htl,Nat.add_sub_cancel_left,List.getElem?_append_right (by simp only[List.length_map];omega)]
      simp only[List.length_map,hnl]
    refine⟨_,he,_,_,G,fO,zf,h5,?_,rfl,?_,fun k h=>h,fun k _ h=>.inl h,fun k _ h=>by simpa[zf]using h,?_,fun k _=>rfl,by simp[names],hsize,?_,?_,?_⟩
    ·simp only[R,List.length_map]
     refine .inr ⟨g,base,cap,_,et,zf,rfl,by omega,hnew,?_,hrow',?_,hfo⟩
     ·simp only[Go.Sort.putCells,Array.size_mapIdx];omega
     ·exact(zHO zs _ _).2 ⟨rfl,(List.replicate (l.length-zs.length) []).map encStr++rest,by rw[hdrop,←hns];simp⟩
    ·obtain⟨o1,o2,o3,o4⟩:=hown
     refine⟨fun k=>by simpa[zf]using o1 k,fun k hk=>by simpa[zf]using o2 k hk,fun k hk=>Nat.lt_of_lt_of_le (o3 k hk) hsize,fun k hk=>Nat.lt_of_lt_of_le (o4 k (by simpa[zf]using hk)) hsize⟩
    ·intro k hk h0
     have hown1:fO g=1:=by rw[hfo];simp[AM.one,zf]
     exact hold k hk (fun h=>by rw[h,hown1]at h0;cases h0)
    ·rw[hw];rfl
    ·rw[hw];rfl
    ·rw[hw];rfl
abbrev to117:SPat:=⟨[(0,.own .str true)],[]⟩
def F117:List (List UInt8)→Option (List (List UInt8)):=fun l=>grdO (decide (l.length<4611686018427387904)) (some (Lib.compact l))
def te117:TEnt:=⟨117,false,[(0,[])],ti116,to117.Den,F117,fun y=>some (.own .str true y,[])⟩
theorem c117:zHG Tryz.prog 117 te117.W:=by
 rintro args ob K ⟨l,y,v,obs,h1,h2,h3,h4,h5⟩
 obtain⟨hl,h3⟩:=zAM (show grdO (decide (List.length (α:=List UInt8) l<4611686018427387904)) (some (Lib.compact l))=some y from h3)
 obtain⟨rfl⟩:=Option.some.inj h3
 have h4:some (V.own .str true (Lib.compact l),([]:List TO))=some (v,obs):=h4
 obtain⟨rfl,rfl⟩:=Prod.mk.inj (Option.some.inj h4)
 exact AC.le h1 h2 (ac117 lays194 Tryz.func117 (by kernel_rfl) (by kernel_rfl) l (of_decide_eq_true hl) h5)
noncomputable def tb117:Nat→Option TEnt:=insT 117 te117 tb116
theorem ok117:zTb tb117:=TbOk.ins ok116 c117
end Go.Proofs.YtdpapeledldifaaGreat
end
noncomputable section
namespace Go.Proofs.YtdpapeledldifaaGreat
open Go Go.AM Go.TM
open Go.Proofs.Tryz
open Sum (inl inr)
open Go.IntKind (wrap)
set_option maxRecDepth 100000
set_option maxHeartbeats 4000000
abbrev ti49:SPat:=⟨[(0,.sl .byte)],[]⟩
abbrev to49:SPat:=⟨[(2,.ptr 10 0)],[.box 10 (pl plR)]⟩
def F49:List UInt8→Option (List UInt8×Int):=fun code =>
 cndO (decide (2000<(code.length:Int)))
 (grdO (decide (2000≤(code.length:Int))) (some ((List.drop (0:Nat) (List.take (2000:Nat) code),(0:Int)))))
 (some ((code,(0:Int))))
def tb49:=insT 49 (mkE 49 false [] ti49 to49 F49 [.tmp 2] 11 [10]) tb117
theorem ok49:zTb tb49:=okI ok117 noPl noIv func49 rfl call49
abbrev ti51:SPat:=⟨[(0,.ptr 100000 0),(1,.i .i64)],zo0⟩
abbrev to51:SPat:=⟨[(4,.i .i64)],zo0⟩
def tv51:Nat→Option SPat:=fun k=>bif k==1000004 then some ti51 else none
def tp51:Nat→List Nat×Plan:=fun id=>bif id==7 then([0,1,2,3,4,5,6,7,8,9,10,11,12,13,14,15,16,17,18,19,20,21,22,23,24,25,26,27,28,29,30,31,32,33,34,35,36,37,38,39,40,41,42,43,44],(.br 45 [44,43,42,41,40,39,38,37,36,35,34,33,32,31,30,29,28,27,26,25,24,23,22,21,20,19,18,17,16,15,14,13,12,11,10,9,8,7,6,5,4,3,2,1,0] [] [] .fin .fin))else([],.fin)
def F51:Int×List UInt8×Int→Option (Int×List UInt8×Int):=fun(v1,o0,o1) =>
 bindE (Y:=Int×List UInt8×Int) (cndO (decide (v1<1))
 (some (inr ((0:Int),o0,wrap .i64 (o1+1))))
 (cndO (decide ((o0.length:Int)=0))
 (some (inr ((0:Int),o0,wrap .i64 (o1+1))))
 (some (inl (v1,o0,wrap .i64 (o1+1)))))) fun(v11,o01,o11) =>
 cndO (decide (wrap .i64 (o11-1)<(o01.length:Int)))
 (grdO (decide (0≤wrap .i64 (o11-1))) (atO o01 (Int.toNat (wrap .i64 (o11-1))) fun x=>grdO (!decide (v11=0)) (some ((Int.tmod (wrap .i64 (x.toNat:Int)) v11,o01,o11)))))
 (grdO (!decide ((o01.length:Int)=0)) (grdO (decide (0≤Int.tmod (wrap .i64 (o11-1)) (o01.length:Int))) (atO o01 (Int.toNat (Int.tmod (wrap .i64 (o11-1)) (o01.length:Int))) fun x=>grdO (!decide ((o01.length:Int)=0)) (grdO (decide (0≤Int.tmod (wrap .i64 (wrap .i64 (wrap .i64 (o11-1)*7)+3)) (o01.length:Int))) (atO o01 (Int.toNat (Int.tmod (wrap .i64 (wrap .i64 (wrap .i64 (o11-1)*7)+3)) (o01.length:Int))) fun x1=>grdO (!decide ((o01.length:Int)=0)) (grdO (!decide (v11=0)) (some ((Int.tmod (xorI IntKind.i64 (wrap .i64 (wrap .i64 (wrap .i64 (wrap .i64 (wrap .i64 (x.toNat:Int)*131)+wrap .i64 (wrap .i64 (x1.toNat:Int)*1117))+wrap .i64 (wrap .i64 (o11-1)*29))+wrap .i64 (wrap .i64 (Int.tdiv (wrap .i64 (o11-1)) (o01.length:Int))*53))) (wrap .i64 (Int.tdiv (wrap .i64 (wrap .i64 (wrap .i64 (wrap .i64 (wrap .i64 (x.toNat:Int)*131)+wrap .i64 (wrap .i64 (x1.toNat:Int)*1117))+wrap .i64 (wrap .i64 (o11-1)*29))+wrap .i64 (wrap .i64 (Int.tdiv (wrap .i64 (o11-1)) (o01.length:Int))*53))) (64:Int)))) v11,o01,o11)))))))))
def tb51:=insT 51 (mkE 51 false [(0,[])] ti51 to51 F51 [.tmp 4] 99 [100000]) tb49
theorem ok51:zTb tb51:=okI ok49 tp51 tv51 func51 rfl call51
abbrev ti119:SPat:=⟨[(0,.ptr 100000 0),(1,.sl .str)],zo0⟩
abbrev to119:SPat:=⟨[(4,.s)],zo0⟩
def F119:List (List UInt8)×List UInt8×Int→Option (List UInt8×List UInt8×Int):=fun(list,o0,o1) =>
 zAA (F51 ((list.length:Int),o0,o1)) fun(y,y1,y2) =>
 grdO (decide (0≤y)) (atO list y.toNat fun x=>some ((x,y1,y2)))
def tb119:=insT 119 (mkE 119 false [(0,[])] ti119 to119 F119 [.tmp 4] 12 [100000]) tb51
theorem ok119:zTb tb119:=okI ok51 noPl noIv func119 rfl call119
abbrev zCj:SPat:=⟨[],[]⟩
def F302:PUnit→Option (List (List UInt8)):=fun _ =>
 some ([[(110:UInt8),111,112],[(112:UInt8),117,115,104],[(110:UInt8),117,108,108],[(108:UInt8),111,97,100],[(115:UInt8),116,111,114,101],[(114:UInt8),101,102,108,111,97,100],[(114:UInt8),101,102,115,116,111,114,101],[(112:UInt8),111,112],[(100:UInt8),117,112],[(115:UInt8),119,97,112],[(97:UInt8),100,100],[(115:UInt8),117,98],[(109:UInt8),117,108],[(100:UInt8),105,118],[(105:UInt8),102,122,101,114,111],[(105:UInt8),102,110,101,103],[(105:UInt8),102,110,117,108,108],[(105:UInt8),102,115,97,109,101],[(103:UInt8),111],[(110:UInt8),101,119],[(103:UInt8),101,116],[(112:UInt8),117,116],[(103:UInt8),101,116,97,108,108],[(112:UInt8),117,116,97,108,108],[(118:UInt8),105,114,116,117,97,108],[(115:UInt8),112,101,99,105,97,108],[(115:UInt8),116,97,116,105,99],[(102:UInt8),97,99,101],[(99:UInt8),97,115,116],[(105:UInt8),115],[(103:UInt8),105,118,101,105,110,116],[(103:UInt8),105,118,101,114,101,102],[(103:UInt8),105,118,101],[(116:UInt8),104,114,111,119],[(112:UInt8),114,105,110,116]])
def tb302:=insT 302 (mkE 302 true [] zCj to117 F302 [.tmp 0] 2 []) tb119
theorem ok302:zTb tb302:=okI ok119 noPl noIv func302 rfl call302
abbrev ti278:SPat:=⟨[(0,.s),(1,.i .u8),(2,.i .i64)],[]⟩
abbrev to278:SPat:=⟨[(6,.own .str true)],[]⟩
abbrev zPh:SPat:=⟨[(0,.s),(1,.i .u8),(2,.i .i64),(7,.own .str true),(8,.i .i64),(9,.i .i64)],[]⟩
abbrev zLc:SPat:=⟨[(0,.s),(7,.own .str true),(8,.i .i64)],[]⟩
def tv278:Nat→Option SPat:=fun k=>bif k==4 then some zPh else bif k==1000006 then some zPh else bif k==2000000 then some zLc else bif k==2000001 then some zPh else none
def F278:List UInt8×Int×Int→Option (List (List UInt8)):=fun(s,b,most) =>
 bindE (Y:=List UInt8×List (List UInt8)×Int) (zAG (fun(s1,b1,most1,out,from_,i) =>
 bindE (Y:=List UInt8×Int×Int×List (List UInt8)×Int×Int) (cndO (decide (i<(s1.length:Int)))
 (cndO (decide ((out.length:Int)<most1))
 (some (inl (s1,b1,most1,out,from_,i)))
 (some (inr (inr (inl (s1,out,from_))))))
 (some (inr (inr (inl (s1,out,from_)))))) fun(s2,b2,most2,out1,from_1,i1) =>
 bindE (Y:=List UInt8×Int×Int×List (List UInt8)×Int×Int) (grdO (decide (0≤i1)) (atO s2 i1.toNat fun x=>cndO (decide ((x.toNat:Int)=b2))
 (grdO (decide (0≤from_1)&&decide (from_1≤i1)&&decide (i1≤(s2.length:Int))) (grdO (decide (out1.length+1≤9223372036854775807)&&decide ((out1.length+1)*16≤140737488355328)) (some (inl (s2,b2,most2,out1++[List.drop from_1.toNat (List.take i1.toNat s2)],wrap .i64 (i1+1),i1)))))
 (some (inl (s2,b2,most2,out1,from_1,i1))))) fun(s3,b3,most3,out2,from_2,i2) =>
 some (inl (s3,b3,most3,out2,from_2,wrap .i64 (i2+1)))) ((s,b,most,[],(0:Int),(0:Int)))) fun(s1,out,from_) =>
 grdO (decide (0≤from_)&&decide (from_≤(s1.length:Int))&&decide ((s1.length:Int)≤(s1.length:Int))) (grdO (decide (out.length+1≤9223372036854775807)&&decide ((out.length+1)*16≤140737488355328)) (some (out++[List.drop from_.toNat (List.take (Int.toNat (s1.length:Int)) s1)])))
def tb278:=insT 278 (mkE 278 true [] ti278 to278 F278 [.tmp 6] 43 []) tb302
theorem ok278:zTb tb278:=okI ok302 noPl tv278 func278 rfl call278
abbrev ti301:SPat:=⟨[(0,.sl .str),(1,.s)],[]⟩
abbrev zMH:SPat:=⟨[(4,.i .i64)],[]⟩
abbrev zLL:SPat:=⟨[(0,.sl .str),(1,.s),(5,.i .i64)],[]⟩
def tv301:Nat→Option SPat:=fun k=>bif k==2 then some zLL else bif k==2000000 then some zCj else none
def F301:List (List UInt8)×List UInt8→Option Int:=fun(list,s) =>
 bindE (zAG (fun(list1,s1,i) =>
 cndO (decide (i<(list1.length:Int)))
 (grdO (decide (0≤i)) (atO list1 i.toNat fun x=>cndO (decide (x=s1))
 (some (inr (inr i)))
 (some (inl (list1,s1,wrap .i64 (i+1))))))
 (some (inr (inl ())))) ((list,s,(0:Int)))) fun _ =>
 some ((-1:Int))
def tb301:=insT 301 (mkE 301 true [] ti301 zMH F301 [.tmp 4] 19 []) tb278
theorem ok301:zTb tb301:=okI ok278 noPl tv301 func301 rfl call301
abbrev ti107:SPat:=⟨[(0,.i .i64),(1,.i .i64),(2,.i .i64)],[]⟩
abbrev zJu:SPat:=⟨[(6,.b)],[]⟩
def F107:Int×Int×Int→Option Bool:=fun(n,low,high) =>
 cndO (decide (low≤n))
 (some (decide (n≤high)))
 (some false)
def tb107:=insT 107 (mkE 107 true [] ti107 zJu F107 [.tmp 6] 15 []) tb301
theorem ok107:zTb tb107:=okI ok301 noPl noIv func107 rfl call107
def tv251:Nat→Option SPat:=fun k=>bif k==2000000 then some zFv else none
def F251:Int→Option Int:=fun op_ =>
 bindE (cndO (decide (op_=1))
 (some (inr (2:Int)))
 (cndO (decide (op_=3))
 (some (inr (1:Int)))
 (cndO (decide (op_=4))
 (some (inr (1:Int)))
 (cndO (decide (op_=5))
 (some (inr (1:Int)))
 (cndO (decide (op_=6))
 (some (inr (1:Int)))
 (some (inl op_))))))) fun op_1 =>
 zAA (F107 (op_1,14,18)) fun y =>
 cndO (y)
 (some ((2:Int)))
 (zAA (F107 (op_1,19,29)) fun y1 =>
 cndO (y1)
 (some ((2:Int)))
 (zAA (F107 (op_1,0,34)) fun y2 =>
 cndO (y2)
 (some ((0:Int)))
 (some ((-1:Int)))))
def tb251:=insT 251 (mkE 251 true [] zFv zIB F251 [.tmp 2] 19 []) tb107
theorem ok251:zTb tb251:=okI ok107 noPl tv251 func251 rfl call251
abbrev ti273:SPat:=⟨[(0,.ptr 100000 0),(1,.s)],zo1⟩
abbrev zIC:SPat:=⟨[],zo1⟩
def tp273:Nat→List Nat×Plan:=fun id=>bif id==1 then([0,1,2,3,4,5,7],(.br 6 [] [0,1,2,3,4,5,7] [] (.br 8 [7,6] zn1 [9,10] (.br 11 [10,9,8,7,6] zn1 [] (.br 12 [11,10,9,8,7,6] zn1 [13,14,15] (.br 16 zn2 [] [] .fin .fin) .fin) .fin) .fin) .fin))else([],.fin)
def F273:List UInt8×(List UInt8×List UInt8×List UInt8×Int×List UInt8)×List UInt8×Int→Option ((List UInt8×List UInt8×List UInt8×Int×List UInt8)×List UInt8×Int):=fun(s,(o1,o2,o3,o4,o5),o0,o11) =>
 grdO (decide (o1.length+2≤9223372036854775807)) (grdO (decide (List.length (o1++[(32:UInt8),32])+s.length≤9223372036854775807)) (grdO (decide (List.length (o1++[(32:UInt8),32]++s)+1≤9223372036854775807)) (zAA (F302 ()) fun y =>
 seqU (seqU (grdO (decide (o4=o4)) (some ())) (seqU (grdO (decide (wrap .i64 (o4+1)=wrap .i64 (o4+1))) (some ())) (seqU (grdO (decide (s=s)) (some ())) (some ())))) (zAA (F278 (s,32,1)) fun y1 =>
 seqU (seqU (grdO (decide (o4=o4)) (some ())) (seqU (grdO (decide (wrap .i64 (o4+1)=wrap .i64 (o4+1))) (some ())) (some ()))) (atO y1 ((0:Nat)) fun x=>zAA (F301 (y,x)) fun y2 =>
 seqU (seqU (grdO (decide (o4=o4)) (some ())) (seqU (grdO (decide (wrap .i64 (o4+1)=wrap .i64 (o4+1))) (some ())) (some ()))) (zAA (F251 y2) fun y3 =>
 seqU (seqU (grdO (decide (o4=o4)) (some ())) (seqU (grdO (decide (wrap .i64 (o4+1)=wrap .i64 (o4+1))) (some ())) (some ()))) (some (((o1++[(32:UInt8),32]++s++[(10:UInt8)],o2,o3,wrap .i64 (wrap .i64 (o4+1)+y3),o5),o0,o11)))))))))
def tb273:=insT 273 (mkE 273 false [(0,[]),(0,[0])] ti273 zIC F273 [] 31 [100000,100001]) tb251
theorem ok273:zTb tb273:=okI ok251 tp273 noIv func273 rfl call273
abbrev zPt:SPat:=⟨[(0,.ptr 100000 0)],zo1⟩
abbrev to277:SPat:=⟨[(2,.s)],zo1⟩
def F277:(List UInt8×List UInt8×List UInt8×Int×List UInt8)×List UInt8×Int→Option (List UInt8×(List UInt8×List UInt8×List UInt8×Int×List UInt8)×List UInt8×Int):=fun((o1,o2,o3,o4,o5),o0,o11) =>
 zAA (F51 (3,o0,o11)) fun(y,y1,y2) =>
 zAA (F274 y) fun y3 =>
 some ((y3,(o1,o2,o3,o4,o5),y1,y2))
def tb277:=insT 277 (mkE 277 false [(0,[]),(0,[0])] zPt to277 F277 [.tmp 2] 9 [100000,100001]) tb273
theorem ok277:zTb tb277:=okI ok273 noPl noIv func277 rfl call277
abbrev ti105:SPat:=⟨[(0,.ptr 100000 0),(1,.sl (.int .i64))],zo0⟩
def F105:List Int×List UInt8×Int→Option (Int×List UInt8×Int):=fun(list,o0,o1) =>
 zAA (F51 ((list.length:Int),o0,o1)) fun(y,y1,y2) =>
 grdO (decide (0≤y)) (atO list y.toNat fun x=>some ((x,y1,y2)))
def tb105:=insT 105 (mkE 105 false [(0,[])] ti105 to51 F105 [.tmp 4] 12 [100000]) tb277
theorem ok105:zTb tb105:=okI ok277 noPl noIv func105 rfl call105
def tv303:Nat→Option SPat:=fun k=>bif k==2000000 then some zIC else none
def F303:(List UInt8×List UInt8×List UInt8×Int×List UInt8)×List UInt8×Int→Option ((List UInt8×List UInt8×List UInt8×Int×List UInt8)×List UInt8×Int):=fun((o1,o2,o3,o4,o5),o0,o11)=>let zb0:=[(114:UInt8),101,102,108,111,97,100,32];let zb1:=[(112:UInt8),117,115,104,32];zAA (F51 (6,o0,o11)) fun(y,y1,y2) =>
 bindE (Y:=(List UInt8×List UInt8×List UInt8×Int×List UInt8)×List UInt8×Int) (cndO (decide (y=0))
 (zAA (F277 ((o1,o2,o3,o4,o5),y1,y2)) fun(y3,(y4,y5,y6,y7,y8),x,x1) =>
 grdO (decide ((8:Nat)+y3.length≤9223372036854775807)) (zAA (F273 (zb0++y3,(y4,y5,y6,y7,y8),x,x1)) fun((y9,y10,y11,y12,y13),y14,x2) =>
 zAA (F273 ([(103:UInt8),101,116,32,65,32,120,32,73],(y9,y10,y11,y12,y13),y14,x2)) fun((y15,y16,y17,y18,y19),y20,x3) =>
 some (inl ((y15,y16,y17,y18,y19),y20,x3))))
 (cndO (decide (y=1))
 (zAA (F277 ((o1,o2,o3,o4,o5),y1,y2)) fun(y3,(y4,y5,y6,y7,y8),x,x1) =>
 grdO (decide ((8:Nat)+y3.length≤9223372036854775807)) (zAA (F273 (zb0++y3,(y4,y5,y6,y7,y8),x,x1)) fun((y9,y10,y11,y12,y13),y14,x2) =>
 zAA (F273 ([(118:UInt8),105,114,116,117,97,108,32,65,32,103,101,116,32,40,41,73],(y9,y10,y11,y12,y13),y14,x2)) fun((y15,y16,y17,y18,y19),y20,x3) =>
 some (inl ((y15,y16,y17,y18,y19),y20,x3))))
 (cndO (decide (y=2))
 (zAA (F273 ([(103:UInt8),101,116,97,108,108,32,65,32,115,32,73],(o1,o2,o3,o4,o5),y1,y2)) fun((y3,y4,y5,y6,y7),y8,x) =>
 some (inl ((y3,y4,y5,y6,y7),y8,x)))
 (cndO (decide (y=3))
 (zAA (F105 ([(0:Int),1,2,7,32767,(-32768:Int),(-1:Int)],y1,y2)) fun(y3,y4,y5) =>
 zAA (F274 y3) fun y6 =>
 grdO (decide ((5:Nat)+y6.length≤9223372036854775807)) (zAA (F273 (zb1++y6,(o1,o2,o3,o4,o5),y4,y5)) fun((y7,y8,y9,y10,y11),y12,x) =>
 zAA (F105 ([(0:Int),1,3,(-2:Int)],y12,x)) fun(y13,y14,y15) =>
 zAA (F274 y13) fun y16 =>
 grdO (decide ((5:Nat)+y16.length≤9223372036854775807)) (zAA (F273 (zb1++y16,(y7,y8,y9,y10,y11),y14,y15)) fun((y17,y18,y19,y20,y21),y22,x1) =>
 zAA (F119 ([[(97:UInt8),100,100],[(115:UInt8),117,98],[(109:UInt8),117,108],[(100:UInt8),105,118]],y22,x1)) fun(y23,y24,y25) =>
 zAA (F273 (y23,(y17,y18,y19,y20,y21),y24,y25)) fun((y26,y27,y28,y29,y30),y31,x2) =>
 some (inl ((y26,y27,y28,y29,y30),y31,x2)))))
 (zAA (F105 ([(0:Int),1,2,5,(-1:Int),(100:Int)],y1,y2)) fun(y3,y4,y5) =>
 zAA (F274 y3) fun y6 =>
 grdO (decide ((5:Nat)+y6.length≤9223372036854775807)) (zAA (F273 (zb1++y6,(o1,o2,o3,o4,o5),y4,y5)) fun((y7,y8,y9,y10,y11),y12,x) =>
 some (inl ((y7,y8,y9,y10,y11),y12,x)))))))) fun((o12,o21,o31,o41,o51),o01,o13) =>
 some (((o12,o21,o31,o41,o51),o01,o13))
def tb303:=insT 303 (mkE 303 false [(0,[]),(0,[0])] zPt zIC F303 [] 59 [100000,100001]) tb105
theorem ok303:zTb tb303:=okI ok105 noPl tv303 func303 rfl call303
abbrev zLK:SPat:=⟨[(0,.ptr 100000 0),(2,.ptr 100001 0),(8,.i .i64),(15,.b)],zo1⟩
def tv304:Nat→Option SPat:=fun k=>bif k==1000007 then some zLK else bif k==2000000 then some zIC else none
def F304:(List UInt8×List UInt8×List UInt8×Int×List UInt8)×List UInt8×Int→Option ((List UInt8×List UInt8×List UInt8×Int×List UInt8)×List UInt8×Int):=fun((o1,o2,o3,o4,o5),o0,o11)=>let zb0:=[(114:UInt8),101,102,108,111,97,100,32];zAA (F51 (10,o0,o11)) fun(y,y1,y2) =>
 bindE (Y:=(List UInt8×List UInt8×List UInt8×Int×List UInt8)×List UInt8×Int) (cndO (decide (y=0))
 (zAA (F273 ([(110:UInt8),117,108,108],(o1,o2,o3,o4,o5),y1,y2)) fun((y3,y4,y5,y6,y7),y8,x) =>
 some (inl ((y3,y4,y5,y6,y7),y8,x)))
 (bindE (Y:=Int×Bool×(List UInt8×List UInt8×List UInt8×Int×List UInt8)×List UInt8×Int) (cndO (decide (y=1))
 (some (inl (y,true,(o1,o2,o3,o4,o5),y1,y2)))
 (some (inl (y,decide (y=2),(o1,o2,o3,o4,o5),y1,y2)))) fun(v8,v15,(o12,o21,o31,o41,o51),o01,o13) =>
 cndO (v15)
 (zAA (F273 ([(110:UInt8),101,119,32,66],(o12,o21,o31,o41,o51),o01,o13)) fun((y3,y4,y5,y6,y7),y8,x) =>
 some (inl ((y3,y4,y5,y6,y7),y8,x)))
 (cndO (decide (v8=3))
 (zAA (F273 ([(115:UInt8),116,97,116,105,99,32,65,32,109,107,32,40,41,76,65,59],(o12,o21,o31,o41,o51),o01,o13)) fun((y3,y4,y5,y6,y7),y8,x) =>
 some (inl ((y3,y4,y5,y6,y7),y8,x)))
 (cndO (decide (v8=4))
 (zAA (F277 ((o12,o21,o31,o41,o51),o01,o13)) fun(y3,(y4,y5,y6,y7,y8),x,x1) =>
 grdO (decide ((8:Nat)+y3.length≤9223372036854775807)) (zAA (F273 (zb0++y3,(y4,y5,y6,y7,y8),x,x1)) fun((y9,y10,y11,y12,y13),y14,x2) =>
 zAA (F119 ([[(66:UInt8)],[(65:UInt8)],[(67:UInt8)],[(70:UInt8)]],y14,x2)) fun(y15,y16,y17) =>
 grdO (decide ((5:Nat)+y15.length≤9223372036854775807)) (zAA (F273 ([(99:UInt8),97,115,116,32]++y15,(y9,y10,y11,y12,y13),y16,y17)) fun((y18,y19,y20,y21,y22),y23,x3) =>
 some (inl ((y18,y19,y20,y21,y22),y23,x3)))))
 (cndO (decide (v8=5))
 (zAA (F277 ((o12,o21,o31,o41,o51),o01,o13)) fun(y3,(y4,y5,y6,y7,y8),x,x1) =>
 grdO (decide ((8:Nat)+y3.length≤9223372036854775807)) (zAA (F273 (zb0++y3,(y4,y5,y6,y7,y8),x,x1)) fun((y9,y10,y11,y12,y13),y14,x2) =>
 zAA (F273 ([(118:UInt8),105,114,116,117,97,108,32,65,32,110,101,120,116,32,40,41,76,65,59],(y9,y10,y11,y12,y13),y14,x2)) fun((y15,y16,y17,y18,y19),y20,x3) =>
 some (inl ((y15,y16,y17,y18,y19),y20,x3))))
 (cndO (decide (v8=6))
 (zAA (F119 ([[(67:UInt8)],[(65:UInt8)],[(79:UInt8),98,106],[(70:UInt8)]],o01,o13)) fun(y3,y4,y5) =>
 grdO (decide ((4:Nat)+y3.length≤9223372036854775807)) (zAA (F273 ([(110:UInt8),101,119,32]++y3,(o12,o21,o31,o41,o51),y4,y5)) fun((y6,y7,y8,y9,y10),y11,x) =>
 some (inl ((y6,y7,y8,y9,y10),y11,x))))
 (zAA (F273 ([(110:UInt8),101,119,32,65],(o12,o21,o31,o41,o51),o01,o13)) fun((y3,y4,y5,y6,y7),y8,x) =>
 some (inl ((y3,y4,y5,y6,y7),y8,x))))))))) fun((o12,o21,o31,o41,o51),o01,o13) =>
 some (((o12,o21,o31,o41,o51),o01,o13))
def tb304:=insT 304 (mkE 304 false [(0,[]),(0,[0])] zPt zIC F304 [] 54 [100000,100001]) tb303
theorem ok304:zTb tb304:=okI ok303 noPl tv304 func304 rfl call304
def tp308:Nat→List Nat×Plan:=fun id=>bif id==1 then([0,1,2,3,4,5,6,7,8,9,10,11,12,13,14,15],(.br 16 zn2 [] [] .fin .fin))else([],.fin)
def F308:(List UInt8×List UInt8×List UInt8×Int×List UInt8)×List UInt8×Int→Option (List UInt8×(List UInt8×List UInt8×List UInt8×Int×List UInt8)×List UInt8×Int):=fun((o1,o2,o3,o4,o5),o0,o11)=>let zb0:=[(44:UInt8)];grdO (decide (o5.length+1≤9223372036854775807)) (grdO (decide (List.length (o5++zb0)+o5.length≤9223372036854775807)) (grdO (decide (List.length (o5++zb0++o5)+1≤9223372036854775807)) (grdO (decide (List.length (o5++zb0++o5++zb0)+o5.length≤9223372036854775807)) (some ((o5++zb0++o5++zb0++o5,(o1,o2,o3,o4,o5),o0,o11))))))
def tb308:=insT 308 (mkE 308 false [(0,[]),(0,[0])] zPt to277 F308 [.tmp 2] 19 [100000,100001]) tb304
theorem ok308:zTb tb308:=okI ok304 tp308 noIv func308 rfl call308
abbrev ti307:SPat:=⟨[(0,.ptr 100000 0),(1,.s),(2,.s)],zo1⟩
def tp307:Nat→List Nat×Plan:=fun id=>bif id==0 then([0,1,2,3,4,5,6,7,8,9,13,16],(.br 10 [9,8,7,6] [0,1,2,3,4,5,13,16] [11,12,14,15,17,18,19,20] (.br 21 zn3 [] [] .fin .fin) .fin))else([],.fin)
def F307:List UInt8×List UInt8×(List UInt8×List UInt8×List UInt8×Int×List UInt8)×List UInt8×Int→Option ((List UInt8×List UInt8×List UInt8×Int×List UInt8)×List UInt8×Int):=fun(locals,stack,(o1,o2,o3,o4,o5),o0,o11)=>let zb0:=[(102:UInt8),114,97,109,101,32];let zb1:=[(32:UInt8)];grdO (decide (o3.length+6≤9223372036854775807)) (zAA (F274 o4) fun y =>
 seqU (seqU (grdO (decide (o3=o3)) (some ())) (seqU (grdO (decide (o3.length+6≤9223372036854775807)) (grdO (decide (o3++zb0=o3++zb0)) (some ()))) (seqU (grdO (decide (locals=locals)) (some ())) (seqU (grdO (decide (stack=stack)) (some ())) (some ()))))) (grdO (decide (List.length (o3++zb0)+y.length≤9223372036854775807)) (grdO (decide (List.length (o3++zb0++y)+1≤9223372036854775807)) (grdO (decide (List.length (o3++zb0++y++zb1)+locals.length≤9223372036854775807)) (grdO (decide (List.length (o3++zb0++y++zb1++locals)+1≤9223372036854775807)) (grdO (decide (List.length (o3++zb0++y++zb1++locals++zb1)+stack.length≤9223372036854775807)) (grdO (decide (List.length (o3++zb0++y++zb1++locals++zb1++stack)+1≤9223372036854775807)) (some (((o1,o2,o3++zb0++y++zb1++locals++zb1++stack++[(10:UInt8)],o4,o5),o0,o11))))))))))
def tb307:=insT 307 (mkE 307 false [(0,[]),(0,[0])] ti307 zIC F307 [] 27 [100000,100001]) tb308
theorem ok307:zTb tb307:=okI ok308 tp307 noIv func307 rfl call307
abbrev zLJ:SPat:=⟨[(0,.ptr 100000 0),(2,.ptr 100001 0),(3,.s)],zo1⟩
def tv305:Nat→Option SPat:=fun k=>bif k==2000000 then some zLJ else none
def F305:(List UInt8×List UInt8×List UInt8×Int×List UInt8)×List UInt8×Int→Option ((List UInt8×List UInt8×List UInt8×Int×List UInt8)×List UInt8×Int):=fun((o1,o2,o3,o4,o5),o0,o11)=>let zb0:=[(114:UInt8),101,102,108,111,97,100,32];let zb1:=[(105:UInt8),102,110,117,108,108];let zb2:=[(105:UInt8),102,115,97,109,101];let zb3:=[(46:UInt8)];zAA (F119 ([[(105:UInt8),102,122,101,114,111],[(105:UInt8),102,110,101,103],zb1,zb2],o0,o11)) fun(y,y1,y2) =>
 bindE (Y:=List UInt8×(List UInt8×List UInt8×List UInt8×Int×List UInt8)×List UInt8×Int) (cndO (decide (y=zb1))
 (zAA (F277 ((o1,o2,o3,o4,o5),y1,y2)) fun(y3,(y4,y5,y6,y7,y8),x,x1) =>
 grdO (decide ((8:Nat)+y3.length≤9223372036854775807)) (zAA (F273 (zb0++y3,(y4,y5,y6,y7,y8),x,x1)) fun((y9,y10,y11,y12,y13),y14,x2) =>
 some (inl (y,(y9,y10,y11,y12,y13),y14,x2))))
 (cndO (decide (y=zb2))
 (zAA (F277 ((o1,o2,o3,o4,o5),y1,y2)) fun(y3,(y4,y5,y6,y7,y8),x,x1) =>
 grdO (decide ((8:Nat)+y3.length≤9223372036854775807)) (zAA (F273 (zb0++y3,(y4,y5,y6,y7,y8),x,x1)) fun((y9,y10,y11,y12,y13),y14,x2) =>
 zAA (F277 ((y9,y10,y11,y12,y13),y14,x2)) fun(y15,(y16,y17,y18,y19,y20),x3,x4) =>
 grdO (decide ((8:Nat)+y15.length≤9223372036854775807)) (zAA (F273 (zb0++y15,(y16,y17,y18,y19,y20),x3,x4)) fun((y21,y22,y23,y24,y25),y26,x5) =>
 some (inl (y,(y21,y22,y23,y24,y25),y26,x5)))))
 (zAA (F303 ((o1,o2,o3,o4,o5),y1,y2)) fun((y3,y4,y5,y6,y7),y8,x) =>
 some (inl (y,(y3,y4,y5,y6,y7),y8,x))))) fun(test,(o12,o21,o31,o41,o51),o01,o13) =>
 grdO (decide (test.length+1≤9223372036854775807)) (zAA (F274 (wrap .i64 (wrap .i64 (o41+3)+4))) fun y3 =>
 grdO (decide (List.length (test++[(32:UInt8)])+y3.length≤9223372036854775807)) (zAA (F273 (test++[(32:UInt8)]++y3,(o12,o21,o31,o41,o51),o01,o13)) fun((y4,y5,y6,y7,y8),y9,x) =>
 zAA (F273 ([(112:UInt8),117,115,104,32,53,48],(y4,y5,y6,y7,y8),y9,x)) fun((y10,y11,y12,y13,y14),y15,x1) =>
 zAA (F273 ([(112:UInt8),114,105,110,116],(y10,y11,y12,y13,y14),y15,x1)) fun((y16,y17,y18,y19,y20),y21,x2) =>
 zAA (F308 ((y16,y17,y18,y19,y20),y21,x2)) fun(y22,(y23,y24,y25,y26,y27),x3,x4) =>
 zAA (F119 ([zb3,zb3,zb3,zb3,zb3,zb3,zb3,[(73:UInt8)]],x3,x4)) fun(y28,y29,y30) =>
 zAA (F307 (y22,y28,(y23,y24,y25,y26,y27),y29,y30)) fun((y31,y32,y33,y34,y35),y36,x5) =>
 some (((y31,y32,y33,y34,y35),y36,x5))))
def tb305:=insT 305 (mkE 305 false [(0,[]),(0,[0])] zPt zIC F305 [] 58 [100000,100001]) tb307
theorem ok305:zTb tb305:=okI ok307 noPl tv305 func305 rfl call305
def tv306:Nat→Option SPat:=fun k=>bif k==2000000 then some zIC else none
def F306:(List UInt8×List UInt8×List UInt8×Int×List UInt8)×List UInt8×Int→Option ((List UInt8×List UInt8×List UInt8×Int×List UInt8)×List UInt8×Int):=fun((o1,o2,o3,o4,o5),o0,o11)=>let zb0:=[(114:UInt8),101,102,108,111,97,100,32];let zb1:=[(112:UInt8),114,105,110,116];zAA (F51 (5,o0,o11)) fun(y,y1,y2)=>bindE (Y:=(List UInt8×List UInt8×List UInt8×Int×List UInt8)×List UInt8×Int) (cndO (decide (y=0)) (zAA (F277 ((o1,o2,o3,o4,o5),y1,y2)) fun(y3,(y4,y5,y6,y7,y8),x,x1)=>grdO (decide ((8:Nat)+y3.length≤9223372036854775807)) (zAA (F273 (zb0++y3,(y4,y5,y6,y7,y8),x,x1)) fun((y9,y10,y11,y12,y13),y14,x2)=>zAA (F273 ([(115:UInt8),116,97,116,105,99,32,85,32,101,97,116,32,40,76,65,59,41,73],(y9,y10,y11,y12,y13),y14,x2)) fun((y15,y16,y17,y18,y19),y20,x3)=>zAA (F273 (zb1,(y15,y16,y17,y18,y19),y20,x3)) fun((y21,y22,y23,y24,y25),y26,x4)=>some (inl ((y21,y22,y23,y24,y25),y26,x4)))) (let q1:=fun(x:Int) (y3:List UInt8) (y4:List UInt8) (y5:List UInt8) (y6:Int) (y7:List UInt8) (y8:List UInt8)=>zAA (F277 ((y3,y4,y5,y6,y7),y8,x)) fun(y9,(y10,y11,y12,y13,y14),x1,x2)=>grdO (decide ((9:Nat)+y9.length≤9223372036854775807)) (zAA (F273 ([(114:UInt8),101,102,115,116,111,114,101,32]++y9,(y10,y11,y12,y13,y14),x1,x2)) fun((y15,y16,y17,y18,y19),y20,x3)=>some (inl ((y15,y16,y17,y18,y19),y20,x3)));cndO (decide (y=1)) (zAA (F273 ([(115:UInt8),116,97,116,105,99,32,85,32,109,97,107,101,32,40,41,76,65,59],(o1,o2,o3,o4,o5),y1,y2)) fun((y3,y4,y5,y6,y7),y8,x)=>q1 x y3 y4 y5 y6 y7 y8) (cndO (decide (y=2)) (zAA (F273 ([(103:UInt8),101,116,97,108,108,32,85,32,97,32,76,65,59],(o1,o2,o3,o4,o5),y1,y2)) fun((y3,y4,y5,y6,y7),y8,x)=>q1 x y3 y4 y5 y6 y7 y8) (cndO (decide (y=3)) (zAA (F277 ((o1,o2,o3,o4,o5),y1,y2)) fun(y3,(y4,y5,y6,y7,y8),x,x1)=>grdO (decide ((8:Nat)+y3.length≤9223372036854775807)) (zAA (F273 (zb0++y3,(y4,y5,y6,y7,y8),x,x1)) fun((y9,y10,y11,y12,y13),y14,x2)=>zAA (F273 ([(112:UInt8),117,116,97,108,108,32,85,32,97,32,76,65,59],(y9,y10,y11,y12,y13),y14,x2)) fun((y15,y16,y17,y18,y19),y20,x3)=>some (inl ((y15,y16,y17,y18,y19),y20,x3)))) (zAA (F273 ([(110:UInt8),101,119,32,67],(o1,o2,o3,o4,o5),y1,y2)) fun((y3,y4,y5,y6,y7),y8,x)=>zAA (F277 ((y3,y4,y5,y6,y7),y8,x)) fun(y9,(y10,y11,y12,y13,y14),x1,x2)=>grdO (decide ((8:Nat)+y9.length≤9223372036854775807)) (zAA (F273 (zb0++y9,(y10,y11,y12,y13,y14),x1,x2)) fun((y15,y16,y17,y18,y19),y20,x3)=>zAA (F273 ([(102:UInt8),97,99,101,32,70,32,116,97,107,101,32,40,76,65,59,41,73],(y15,y16,y17,y18,y19),y20,x3)) fun((y21,y22,y23,y24,y25),y26,x4)=>zAA (F273 (zb1,(y21,y22,y23,y24,y25),y26,x4)) fun((y27,y28,y29,y30,y31),y32,x5)=>some (inl ((y27,y28,y29,y30,y31),y32,x5)))))))) fun((o12,o21,o31,o41,o51),o01,o13)=>some (((o12,o21,o31,o41,o51),o01,o13))
def tb306:=insT 306 (mkE 306 false [(0,[]),(0,[0])] zPt zIC F306 [] 58 [100000,100001]) tb305
theorem ok306:zTb tb306:=okI ok305 noPl tv306 func306 rfl call306
abbrev zLf:SPat:=⟨[(0,.ptr 100000 0),(2,.ptr 100001 0),(8,.i .i64),(11,.b)],zo1⟩
abbrev zLe:SPat:=⟨[(0,.ptr 100000 0),(2,.ptr 100001 0),(8,.i .i64),(18,.b)],zo1⟩
def tv275:Nat→Option SPat:=fun k=>bif k==1000005 then some zLf else bif k==1000010 then some zLe else bif k==2000000 then some zIC else none
def F275:(List UInt8×List UInt8×List UInt8×Int×List UInt8)×List UInt8×Int→Option ((List UInt8×List UInt8×List UInt8×Int×List UInt8)×List UInt8×Int):=fun((o1,o2,o3,o4,o5),o0,o11)=>let zb0:=[(114:UInt8),101,102,108,111,97,100,32];let zb1:=[(112:UInt8),114,105,110,116];let zb2:=[(110:UInt8),111,112];let zb3:=[(67:UInt8)];zAA (F51 (14,o0,o11)) fun(y,y1,y2) =>
 bindE (Y:=(List UInt8×List UInt8×List UInt8×Int×List UInt8)×List UInt8×Int) (bindE (Y:=Int×Bool×(List UInt8×List UInt8×List UInt8×Int×List UInt8)×List UInt8×Int) (cndO (decide (y=0))
 (some (inl (y,true,(o1,o2,o3,o4,o5),y1,y2)))
 (some (inl (y,decide (y=1),(o1,o2,o3,o4,o5),y1,y2)))) fun(v8,v11,(o12,o21,o31,o41,o51),o01,o13) =>
 cndO (v11)
 (zAA (F303 ((o12,o21,o31,o41,o51),o01,o13)) fun((y3,y4,y5,y6,y7),y8,x) =>
 zAA (F273 (zb1,(y3,y4,y5,y6,y7),y8,x)) fun((y9,y10,y11,y12,y13),y14,x1) =>
 some (inl ((y9,y10,y11,y12,y13),y14,x1)))
 (bindE (Y:=Int×Bool×(List UInt8×List UInt8×List UInt8×Int×List UInt8)×List UInt8×Int) (cndO (decide (v8=2))
 (some (inl (v8,true,(o12,o21,o31,o41,o51),o01,o13)))
 (cndO (decide (v8=3))
 (some (inl (v8,true,(o12,o21,o31,o41,o51),o01,o13)))
 (some (inl (v8,decide (v8=4),(o12,o21,o31,o41,o51),o01,o13))))) fun(v81,v18,(o14,o22,o32,o42,o52),o02,o15) =>
 cndO (v18)
 (zAA (F304 ((o14,o22,o32,o42,o52),o02,o15)) fun((y3,y4,y5,y6,y7),y8,x) =>
 zAA (F277 ((y3,y4,y5,y6,y7),y8,x)) fun(y9,(y10,y11,y12,y13,y14),x1,x2) =>
 grdO (decide ((9:Nat)+y9.length≤9223372036854775807)) (zAA (F273 ([(114:UInt8),101,102,115,116,111,114,101,32]++y9,(y10,y11,y12,y13,y14),x1,x2)) fun((y15,y16,y17,y18,y19),y20,x3) =>
 some (inl ((y15,y16,y17,y18,y19),y20,x3))))
 (cndO (decide (v81=5))
 (zAA (F277 ((o14,o22,o32,o42,o52),o02,o15)) fun(y3,(y4,y5,y6,y7,y8),x,x1) =>
 grdO (decide ((8:Nat)+y3.length≤9223372036854775807)) (zAA (F273 (zb0++y3,(y4,y5,y6,y7,y8),x,x1)) fun((y9,y10,y11,y12,y13),y14,x2) =>
 zAA (F303 ((y9,y10,y11,y12,y13),y14,x2)) fun((y15,y16,y17,y18,y19),y20,x3) =>
 zAA (F273 ([(112:UInt8),117,116,32,65,32,120,32,73],(y15,y16,y17,y18,y19),y20,x3)) fun((y21,y22,y23,y24,y25),y26,x4) =>
 some (inl ((y21,y22,y23,y24,y25),y26,x4))))
 (cndO (decide (v81=6))
 (zAA (F305 ((o14,o22,o32,o42,o52),o02,o15)) fun((y3,y4,y5,y6,y7),y8,x) =>
 some (inl ((y3,y4,y5,y6,y7),y8,x)))
 (cndO (decide (v81=7))
 (zAA (F303 ((o14,o22,o32,o42,o52),o02,o15)) fun((y3,y4,y5,y6,y7),y8,x) =>
 zAA (F273 ([(112:UInt8),117,116,97,108,108,32,65,32,115,32,73],(y3,y4,y5,y6,y7),y8,x)) fun((y9,y10,y11,y12,y13),y14,x1) =>
 some (inl ((y9,y10,y11,y12,y13),y14,x1)))
 (cndO (decide (v81=8))
 (zAA (F119 ([zb3,zb3,zb3,[(65:UInt8)]],o02,o15)) fun(y3,y4,y5) =>
 grdO (decide ((4:Nat)+y3.length≤9223372036854775807)) (zAA (F273 ([(110:UInt8),101,119,32]++y3,(o14,o22,o32,o42,o52),y4,y5)) fun((y6,y7,y8,y9,y10),y11,x) =>
 zAA (F273 ([(102:UInt8),97,99,101,32,70,32,103,101,116,32,40,41,73],(y6,y7,y8,y9,y10),y11,x)) fun((y12,y13,y14,y15,y16),y17,x1) =>
 zAA (F273 (zb1,(y12,y13,y14,y15,y16),y17,x1)) fun((y18,y19,y20,y21,y22),y23,x2) =>
 some (inl ((y18,y19,y20,y21,y22),y23,x2))))
 (cndO (decide (v81=9))
 (zAA (F277 ((o14,o22,o32,o42,o52),o02,o15)) fun(y3,(y4,y5,y6,y7,y8),x,x1) =>
 grdO (decide ((8:Nat)+y3.length≤9223372036854775807)) (zAA (F273 (zb0++y3,(y4,y5,y6,y7,y8),x,x1)) fun((y9,y10,y11,y12,y13),y14,x2) =>
 zAA (F119 ([[(66:UInt8)],[(65:UInt8)],[(70:UInt8)],zb3],y14,x2)) fun(y15,y16,y17) =>
 grdO (decide ((3:Nat)+y15.length≤9223372036854775807)) (zAA (F273 ([(105:UInt8),115,32]++y15,(y9,y10,y11,y12,y13),y16,y17)) fun((y18,y19,y20,y21,y22),y23,x3) =>
 zAA (F273 (zb1,(y18,y19,y20,y21,y22),y23,x3)) fun((y24,y25,y26,y27,y28),y29,x4) =>
 some (inl ((y24,y25,y26,y27,y28),y29,x4)))))
 (cndO (decide (v81=10))
 (zAA (F277 ((o14,o22,o32,o42,o52),o02,o15)) fun(y3,(y4,y5,y6,y7,y8),x,x1) =>
 grdO (decide ((8:Nat)+y3.length≤9223372036854775807)) (zAA (F273 (zb0++y3,(y4,y5,y6,y7,y8),x,x1)) fun((y9,y10,y11,y12,y13),y14,x2) =>
 zAA (F304 ((y9,y10,y11,y12,y13),y14,x2)) fun((y15,y16,y17,y18,y19),y20,x3) =>
 zAA (F273 ([(112:UInt8),117,116,32,65,32,110,32,76,65,59],(y15,y16,y17,y18,y19),y20,x3)) fun((y21,y22,y23,y24,y25),y26,x4) =>
 some (inl ((y21,y22,y23,y24,y25),y26,x4))))
 (cndO (decide (v81=11))
 (zAA (F119 ([zb2,zb2,[(110:UInt8),117,108,108],[(97:UInt8),100,100],[(118:UInt8),105,114,116,117,97,108,32,65,32,104,105,100,32,40,41,86],[(115:UInt8),112,101,99,105,97,108,32,65,32,103,101,116,32,40,41,73],[(103:UInt8),101,116,97,108,108,32,65,32,120,32,73],[(108:UInt8),111,97,100,32,48],[(112:UInt8),117,115,104,32,49]],o02,o15)) fun(y3,y4,y5) =>
 zAA (F273 (y3,(o14,o22,o32,o42,o52),y4,y5)) fun((y6,y7,y8,y9,y10),y11,x) =>
 zAA (F119 ([zb2,[(112:UInt8),111,112],[(112:UInt8),111,112],[(100:UInt8),117,112],[(115:UInt8),119,97,112]],y11,x)) fun(y12,y13,y14) =>
 zAA (F273 (y12,(y6,y7,y8,y9,y10),y13,y14)) fun((y15,y16,y17,y18,y19),y20,x1) =>
 some (inl ((y15,y16,y17,y18,y19),y20,x1)))
 (zAA (F306 ((o14,o22,o32,o42,o52),o02,o15)) fun((y3,y4,y5,y6,y7),y8,x) =>
 some (inl ((y3,y4,y5,y6,y7),y8,x)))))))))))) fun((o12,o21,o31,o41,o51),o01,o13) =>
 some (((o12,o21,o31,o41,o51),o01,o13))
def tb275:=insT 275 (mkE 275 false [(0,[]),(0,[0])] zPt zIC F275 [] 100 [100000,100001]) tb306
theorem ok275:zTb tb275:=okI ok306 noPl tv275 func275 rfl call275
abbrev ti276:SPat:=⟨[(0,.ptr 100000 0),(1,.i .i64)],zo1⟩
abbrev zLd:SPat:=⟨[(0,.ptr 100000 0),(1,.i .i64),(4,.s),(5,.s)],zo1⟩
def tv276:Nat→Option SPat:=fun k=>bif k==1000004 then some zLd else none
def tp276:Nat→List Nat×Plan:=fun id=>bif id==6 then([0,1,5,9,10,11,12,16],(.br 2 [1] [0,5,9,10,11,12,16] [3,4] (.br 6 [5,2,1] [0,9,10,11,12,16,3,4] [7,8] (.br 13 [12,11,10,9,6,5,2,1] [0,16,3,4,7,8] [14,15,17,18,19,20] (.br 21 zn3 [] [] .fin .fin) .fin) .fin) .fin))else([],.fin)
def F276:Int×(List UInt8×List UInt8×List UInt8×Int×List UInt8)×List UInt8×Int→Option ((List UInt8×List UInt8×List UInt8×Int×List UInt8)×List UInt8×Int):=fun(v1,(o1,o2,o3,o4,o5),o0,o11)=>let zb0:=[(116:UInt8),114,97,112,32];let zb1:=[(32:UInt8)];zAA (F119 ([[(45:UInt8)],[(69:UInt8),114,114],[(69:UInt8),114,114],[(65:UInt8)],[(66:UInt8)]],o0,o11)) fun(y,y1,y2)=>grdO (decide ((1:Nat)+y.length≤9223372036854775807)) (grdO (decide (List.length ([(76:UInt8)]++y)+1≤9223372036854775807)) (bindE (Y:=Int×List UInt8×List UInt8×(List UInt8×List UInt8×List UInt8×Int×List UInt8)×List UInt8×Int) (cndO (decide (y=[(45:UInt8)])) (some (inl (v1,y,[(76:UInt8),79,98,106,59],(o1,o2,o3,o4,o5),y1,y2))) (some (inl (v1,y,[(76:UInt8)]++y++[(59:UInt8)],(o1,o2,o3,o4,o5),y1,y2)))) fun(v11,v4,v5,(o12,o21,o31,o41,o51),o01,o13)=>zAA (F274 (wrap .i64 (wrap .i64 (o41+3)+5))) fun y3=>grdO (decide ((3:Nat)+y3.length≤9223372036854775807)) (zAA (F273 ([(103:UInt8),111,32]++y3,(o12,o21,o31,o41,o51),o01,o13)) fun((y4,y5,y6,y7,y8),y9,x)=>zAA (F274 v11) fun y10=>seqU (seqU (grdO (decide (o41=o41)) (some ())) (seqU (grdO (decide (y7=y7)) (some ())) (seqU (grdO (decide (v4=v4)) (some ())) (some ())))) (grdO (decide ((5:Nat)+y10.length≤9223372036854775807)) (grdO (decide (List.length (zb0++y10)+1≤9223372036854775807)) (zAA (F274 o41) fun y11=>let q1:=grdO (decide (List.length (zb0++y10)+1≤9223372036854775807)) (grdO (decide (zb0++y10++zb1=zb0++y10++zb1)) (some ()));let q2:=grdO (decide ((5:Nat)+y10.length≤9223372036854775807)) (grdO (decide (zb0++y10=zb0++y10)) (some ()));seqU (seqU (grdO (decide (y7=y7)) (some ())) (seqU (grdO (decide (v4=v4)) (some ())) (seqU q2 (seqU q1 (some ()))))) (grdO (decide (List.length (zb0++y10++zb1)+y11.length≤9223372036854775807)) (grdO (decide (List.length (zb0++y10++zb1++y11)+1≤9223372036854775807)) (zAA (F274 y7) fun y12=>seqU (seqU (grdO (decide (v4=v4)) (some ())) (seqU q2 (seqU q1 (seqU (grdO (decide (List.length (zb0++y10++zb1)+y11.length≤9223372036854775807)) (grdO (decide (zb0++y10++zb1++y11=zb0++y10++zb1++y11)) (some ()))) (seqU (grdO (decide (List.length (zb0++y10++zb1++y11)+1≤9223372036854775807)) (grdO (decide (zb0++y10++zb1++y11++zb1=zb0++y10++zb1++y11++zb1)) (some ()))) (some ())))))) (grdO (decide (List.length (zb0++y10++zb1++y11++zb1)+y12.length≤9223372036854775807)) (grdO (decide (List.length (zb0++y10++zb1++y11++zb1++y12)+1≤9223372036854775807)) (grdO (decide (List.length (zb0++y10++zb1++y11++zb1++y12++zb1)+v4.length≤9223372036854775807)) (grdO (decide (List.length (zb0++y10++zb1++y11++zb1++y12++zb1++v4)+1≤9223372036854775807)) (zAA (F308 ((y4,zb0++y10++zb1++y11++zb1++y12++zb1++v4++[(10:UInt8)],y6,y7,y8),y9,x)) fun(y13,(y14,y15,y16,y17,y18),x1,x2)=>zAA (F307 (y13,v5,(y14,y15,y16,y17,y18),x1,x2)) fun((y19,y20,y21,y22,y23),y24,x3)=>zAA (F273 ([(112:UInt8),111,112],(y19,y20,y21,y22,y23),y24,x3)) fun((y25,y26,y27,y28,y29),y30,x4)=>zAA (F273 ([(112:UInt8),117,115,104,32,55,55],(y25,y26,y27,y28,y29),y30,x4)) fun((y31,y32,y33,y34,y35),y36,x5)=>zAA (F273 ([(112:UInt8),114,105,110,116],(y31,y32,y33,y34,y35),y36,x5)) fun((y37,y38,y39,y40,y41),y42,x6)=>zAA (F308 ((y37,y38,y39,y40,y41),y42,x6)) fun(y43,(y44,y45,y46,y47,y48),x7,x8)=>zAA (F307 (y43,[(46:UInt8)],(y44,y45,y46,y47,y48),x7,x8)) fun((y49,y50,y51,y52,y53),y54,x9)=>some (((y49,y50,y51,y52,y53),y54,x9))))))))))))))))
def tb276:=insT 276 (mkE 276 false [(0,[]),(0,[0])] ti276 zIC F276 [] 68 [100000,100001]) tb275
theorem ok276:zTb tb276:=okI ok275 tp276 tv276 func276 rfl call276
abbrev ti217:SPat:=⟨[(0,.ptr 100000 0),(1,.s)],zo0⟩
abbrev ts217_3:SPat:=⟨[(0,.ptr 100000 0),(1,.s),(5,.ptr 11 0),(6,.i .i64)],[.box 11 (pl zo2),.box 100000 (pl plR)]⟩
abbrev ts217_9:SPat:=⟨[(0,.ptr 100000 0),(1,.s),(5,.ptr 11 0),(7,.i .i64),(8,.i .i64)],[.box 11 (pl zo2),.box 100000 (pl plR)]⟩
abbrev zGQ:SPat:=⟨[(0,.ptr 100000 0),(1,.s),(5,.ptr 11 0)],[.box 11 (pl zo2),.box 100000 (pl plR)]⟩
abbrev zLp:SPat:=⟨[(1,.s),(5,.ptr 11 0)],[.box 11 (pl zo2),.box 100000 (pl plR)]⟩
abbrev zLo:SPat:=⟨[(0,.ptr 100000 0),(1,.s),(5,.ptr 11 0),(7,.i .i64)],[.box 11 (pl zo2),.box 100000 (pl plR)]⟩
def tv217:Nat→Option SPat:=fun k=>bif k==3 then some ts217_3 else bif k==9 then some ts217_9 else bif k==1000014 then some zGQ else bif k==1000018 then some zLp else bif k==2000000 then some zGQ else bif k==2000002 then some zLo else none
def tp217:Nat→List Nat×Plan:=fun id=>bif id==18 then([0,1,2,3,4,5,6,7,8,9,10,11,12,13,14,15,16,17],(.br 18 zn4 [] [] .fin .fin))else([],.fin)
def F217:List UInt8×List UInt8×Int→Option (List UInt8×List UInt8×Int):=fun(v1,o0,o1)=>let zb0:=[(32:UInt8),40,41,86,32,49,32,51,32,51,10];let zb1:=[(109:UInt8),101,116,104,111,100,32];bindE (Y:=List UInt8×(List UInt8×List UInt8×List UInt8×Int×List UInt8)×List UInt8×Int) (zAG (fun(v11,v6,(o11,o2,o3,o4,o5),o01,o12) =>
 cndO (decide (v6<3))
 (zAA (F119 ([[(110:UInt8),117,108,108],[(110:UInt8),117,108,108],[(110:UInt8),101,119,32,65]],o01,o12)) fun(y,y1,y2) =>
 zAA (F273 (y,(o11,o2,o3,o4,o5),y1,y2)) fun((y3,y4,y5,y6,y7),y8,x) =>
 zAA (F274 v6) fun y9 =>
 grdO (decide ((9:Nat)+y9.length≤9223372036854775807)) (zAA (F273 ([(114:UInt8),101,102,115,116,111,114,101,32]++y9,(y3,y4,y5,y6,y7),y8,x)) fun((y10,y11,y12,y13,y14),y15,x1) =>
 some (inl (v11,wrap .i64 (v6+1),(y10,y11,y12,y13,y14),y15,x1))))
 (some (inr (inl (v11,(o11,o2,o3,o4,o5),o01,o12))))) ((v1,(0:Int),([],[],[],(0:Int),[(76:UInt8),65,59]),o0,o1))) fun(v11,(o11,o2,o3,o4,o5),o01,o12) =>
 zAA (F51 (6,o01,o12)) fun(y,y1,y2) =>
 bindE (Y:=List UInt8×Int×(List UInt8×List UInt8×List UInt8×Int×List UInt8)×List UInt8×Int) (zAG (fun(v12,v7,v8,(o13,o21,o31,o41,o51),o02,o14) =>
 cndO (decide (0<v8))
 (cndO (decide (o41<80))
 (zAA (F275 ((o13,o21,o31,o41,o51),o02,o14)) fun((y3,y4,y5,y6,y7),y8,x) =>
 some (inl (v12,v7,wrap .i64 (v8-1),(y3,y4,y5,y6,y7),y8,x)))
 (some (inr (inl (v12,v7,(o13,o21,o31,o41,o51),o02,o14)))))
 (some (inr (inl (v12,v7,(o13,o21,o31,o41,o51),o02,o14))))) ((v11,o4,wrap .i64 ((1:Int)+y),(o11,o2,o3,o4,o5),y1,y2))) fun(v12,v7,(o13,o21,o31,o41,o51),o02,o14) =>
 bindE (Y:=List UInt8×(List UInt8×List UInt8×List UInt8×Int×List UInt8)×List UInt8×Int) (zAA (F51 (3,o02,o14)) fun(y3,y4,y5) =>
 cndO (decide (y3=0))
 (zAA (F276 (v7,(o13,o21,o31,o41,o51),y4,y5)) fun((y6,y7,y8,y9,y10),y11,x) =>
 some (inl (v12,(y6,y7,y8,y9,y10),y11,x)))
 (some (inl (v12,(o13,o21,o31,o41,o51),y4,y5)))) fun(v13,(o15,o22,o32,o42,o52),o03,o16) =>
 bindE (Y:=List UInt8×(List UInt8×List UInt8×List UInt8×Int×List UInt8)×List UInt8×Int) (zAA (F51 (8,o03,o16)) fun(y3,y4,y5) =>
 cndO (decide (y3=0))
 (zAA (F277 ((o15,o22,o32,o42,o52),y4,y5)) fun(y6,(y7,y8,y9,y10,y11),x,x1) =>
 grdO (decide ((8:Nat)+y6.length≤9223372036854775807)) (zAA (F273 ([(114:UInt8),101,102,108,111,97,100,32]++y6,(y7,y8,y9,y10,y11),x,x1)) fun((y12,y13,y14,y15,y16),y17,x2) =>
 zAA (F273 ([(116:UInt8),104,114,111,119],(y12,y13,y14,y15,y16),y17,x2)) fun((y18,y19,y20,y21,y22),y23,x3) =>
 some (inl (v13,(y18,y19,y20,y21,y22),y23,x3))))
 (zAA (F273 ([(103:UInt8),105,118,101],(o15,o22,o32,o42,o52),y4,y5)) fun((y6,y7,y8,y9,y10),y11,x) =>
 some (inl (v13,(y6,y7,y8,y9,y10),y11,x)))) fun(v14,(o17,o23,o33,o43,o53),o04,o18) =>
 grdO (decide ((7:Nat)+v14.length≤9223372036854775807)) (grdO (decide (List.length (zb1++v14)+11≤9223372036854775807)) (grdO (decide (List.length (zb1++v14++zb0)+o17.length≤9223372036854775807)) (grdO (decide (List.length (zb1++v14++zb0++o17)+o23.length≤9223372036854775807)) (grdO (decide (List.length (zb1++v14++zb0++o17++o23)+o33.length≤9223372036854775807)) (some ((zb1++v14++zb0++o17++o23++o33,o04,o18)))))))
def tb217:=insT 217 (mkE 217 false [(0,[])] ti217 to119 F217 [.tmp 4] 82 [100000]) tb276
theorem ok217:zTb tb217:=okI ok276 tp217 tv217 func217 rfl call217
abbrev zLO:SPat:=⟨[(3,.i .i64),(4,.b)],[]⟩
abbrev zLN:SPat:=⟨[(3,.i .i64),(8,.b)],[]⟩
abbrev zLM:SPat:=⟨[(3,.i .i64),(13,.b)],[]⟩
def tv291:Nat→Option SPat:=fun k=>bif k==1000005 then some zLO else bif k==1000010 then some zLN else bif k==1000014 then some zLM else none
def F291:Int→Option Int:=fun op_ =>
 bindE (cndO (decide (op_=19))
 (some (inl (op_,true)))
 (cndO (decide (op_=28))
 (some (inl (op_,true)))
 (some (inl (op_,decide (op_=29)))))) fun(v3,v4) =>
 cndO (v4)
 (some ((2:Int)))
 (bindE (cndO (decide (v3=20))
 (some (inl (v3,true)))
 (cndO (decide (v3=21))
 (some (inl (v3,true)))
 (cndO (decide (v3=22))
 (some (inl (v3,true)))
 (some (inl (v3,decide (v3=23))))))) fun(v31,v8) =>
 cndO (v8)
 (some ((4:Int)))
 (bindE (cndO (decide (v31=24))
 (some (inl (v31,true)))
 (cndO (decide (v31=25))
 (some (inl (v31,true)))
 (some (inl (v31,decide (v31=26)))))) fun(v32,v13) =>
 cndO (v13)
 (some ((5:Int)))
 (cndO (decide (v32=27))
 (some ((6:Int)))
 (some ((0:Int))))))
def tb291:=insT 291 (mkE 291 true [] zFv zIB F291 [.tmp 2] 19 []) tb217
theorem ok291:zTb tb291:=okI ok217 noPl tv291 func291 rfl call291
abbrev ti326:SPat:=⟨[(0,.ptr 100000 0),(1,.agg (pl zo4))],zo3⟩
abbrev to326:SPat:=⟨[(4,.i .i64)],zo3⟩
abbrev ts326_2:SPat:=⟨[(0,.ptr 100000 0),(3,.ptr 3 0),(5,.i .i64)],[.box 3 (pl zo4),.box 100000 (pl plB)]⟩
abbrev zKu:SPat:=⟨[(0,.ptr 100000 0),(3,.ptr 3 0)],[.box 3 (pl zo4),.box 100000 (pl plB)]⟩
def tv326:Nat→Option SPat:=fun k=>bif k==2 then some ts326_2 else bif k==2000000 then some zKu else none
def tp326:Nat→List Nat×Plan:=fun id=>bif id==4 then(zn5,.fin)else bif id==6 then(zn6,(.br 7 [6] zn1 [] (.br 8 zn7 [0] [9,10,11] (.br 12 zn8 [] [] .fin .fin) .fin) .fin))else([],.fin)
def F326:(Cst)×List Cst×Int×Int×Int×List Int×List Fld×List Mth×Bool→Option (Int×List Cst×Int×Int×Int×List Int×List Fld×List Mth×Bool):=fun((c0,c1,c2,c3),o0,o1,o2,o3,o4,o5,o6,o7) =>
 bindE (Y:=(Cst)×List Cst×Int×Int×Int×List Int×List Fld×List Mth×Bool) (zAG (fun(i,(o01,o11,o21,o31),o02,o12,o22,o32,o41,o51,o61,o71) =>
 cndO (decide (i<(o02.length:Int)))
 (grdO (decide (0≤i)&&decide (i<(o02.length:Int))) (atO o02 i.toNat fun x=>cndO (decide (x.1=o01)&&(decide (x.2.1=o11)&&(decide (x.2.2.1=o21)&&(decide (x.2.2.2=o31)&&true))))
 (some (inr (inr (wrap .i64 (i+1),o02,o12,o22,o32,o41,o51,o61,o71))))
 (some (inl (wrap .i64 (i+1),(o01,o11,o21,o31),o02,o12,o22,o32,o41,o51,o61,o71)))))
 (some (inr (inl ((o01,o11,o21,o31),o02,o12,o22,o32,o41,o51,o61,o71))))) (((0:Int),(c0,c1,c2,c3),o0,o1,o2,o3,o4,o5,o6,o7))) fun((o01,o11,o21,o31),o02,o12,o22,o32,o41,o51,o61,o71) =>
 grdO (decide (o02.length+1≤9223372036854775807)&&decide ((o02.length+1)*40≤140737488355328)) (some (((↑(List.length (o02++[(o01,o11,o21,o31)])):Int),o02++[(o01,o11,o21,o31)],o12,o22,o32,o41,o51,o61,o71)))
def tb326:=insT 326 (mkE 326 false [(0,[])] ti326 to326 F326 [.tmp 4] 46 [100000]) tb291
theorem ok326:zTb tb326:=okI ok291 tp326 tv326 func326 rfl call326
abbrev ti312:SPat:=⟨[(0,.ptr 100000 0),(1,.s)],zo3⟩
def F312:List UInt8×List Cst×Int×Int×Int×List Int×List Fld×List Mth×Bool→Option (Int×List Cst×Int×Int×Int×List Int×List Fld×List Mth×Bool):=fun(s,o0,o1,o2,o3,o4,o5,o6,o7) =>
 cndO (decide (60<(s.length:Int)))
 (some (((0:Int),o0,o1,o2,o3,o4,o5,o6,true)))
 (zAA (F326 (((1:Int),s,(0:Int),(0:Int)),o0,o1,o2,o3,o4,o5,o6,o7)) fun(y,y1,y2,y3,y4,y5,x,x1,x2) =>
 some ((y,y1,y2,y3,y4,y5,x,x1,x2)))
def tb312:=insT 312 (mkE 312 false [(0,[])] ti312 to326 F312 [.tmp 4] 15 [100000]) tb326
theorem ok312:zTb tb312:=okI ok326 noPl noIv func312 rfl call312
def F310:List UInt8×List Cst×Int×Int×Int×List Int×List Fld×List Mth×Bool→Option (Int×List Cst×Int×Int×Int×List Int×List Fld×List Mth×Bool):=fun(s,o0,o1,o2,o3,o4,o5,o6,o7) =>
 zAA (F312 (s,o0,o1,o2,o3,o4,o5,o6,o7)) fun(y,y1,y2,y3,y4,y5,x,x1,x2) =>
 zAA (F326 (((2:Int),[],y,(0:Int)),y1,y2,y3,y4,y5,x,x1,x2)) fun(y6,y7,y8,y9,y10,y11,x3,x4,x5) =>
 some ((y6,y7,y8,y9,y10,y11,x3,x4,x5))
def tb310:=insT 310 (mkE 310 false [(0,[])] ti312 to326 F310 [.tmp 4] 11 [100000]) tb312
theorem ok310:zTb tb310:=okI ok312 noPl noIv func310 rfl call310
abbrev ti324:SPat:=⟨[(0,.ptr 100000 0),(1,.i .i64),(2,.s),(3,.s),(4,.s)],zo3⟩
abbrev to324:SPat:=⟨[(10,.i .i64)],zo3⟩
def F324:Int×List UInt8×List UInt8×List UInt8×List Cst×Int×Int×Int×List Int×List Fld×List Mth×Bool→Option (Int×List Cst×Int×Int×Int×List Int×List Fld×List Mth×Bool):=fun(kind_,class_,name,t,o0,o1,o2,o3,o4,o5,o6,o7) =>
 zAA (F310 (class_,o0,o1,o2,o3,o4,o5,o6,o7)) fun(y,y1,y2,y3,y4,y5,x,x1,x2) =>
 zAA (F312 (name,y1,y2,y3,y4,y5,x,x1,x2)) fun(y6,y7,y8,y9,y10,y11,x3,x4,x5) =>
 zAA (F312 (t,y7,y8,y9,y10,y11,x3,x4,x5)) fun(y12,y13,y14,y15,y16,y17,x6,x7,x8) =>
 zAA (F326 (((3:Int),[],y6,y12),y13,y14,y15,y16,y17,x6,x7,x8)) fun(y18,y19,y20,y21,y22,y23,x9,x10,x11) =>
 zAA (F326 ((kind_,[],y,y18),y19,y20,y21,y22,y23,x9,x10,x11)) fun(y24,y25,y26,y27,y28,y29,x12,x13,x14) =>
 some ((y24,y25,y26,y27,y28,y29,x12,x13,x14))
def tb324:=insT 324 (mkE 324 false [(0,[])] ti324 to324 F324 [.tmp 10] 33 [100000]) tb310
theorem ok324:zTb tb324:=okI ok310 noPl noIv func324 rfl call324
abbrev zCt:SPat:=⟨[(0,.s)],[]⟩
abbrev zTo:SPat:=⟨[(0,.s),(3,.i .i64),(4,.i .i64)],[]⟩
abbrev zEQ:SPat:=⟨[(0,.s),(3,.i .i64)],[]⟩
def tv327:Nat→Option SPat:=fun k=>bif k==3 then some zTo else bif k==1000007 then some zTo else bif k==2000000 then some zEQ else none
def F327:List UInt8→Option Int:=fun s =>
 bindE (Y:=List UInt8×Int) (zAG (fun(s1,n,i) =>
 cndO (decide (i<(s1.length:Int)))
 (bindE (Y:=List UInt8×Int×Int) (grdO (decide (0≤i)) (atO s1 i.toNat fun x=>cndO (decide ((x.toNat:Int)<48))
 (some (inr (inr (inr (-1:Int)))))
 (grdO (decide (0≤i)) (atO s1 i.toNat fun x1=>cndO (decide (57<(x1.toNat:Int)))
 (some (inr (inr (inr (-1:Int)))))
 (cndO (decide (5≤i))
 (some (inr (inr (inr (-1:Int)))))
 (some (inl (s1,n,i)))))))) fun(s2,n1,i1) =>
 grdO (decide (0≤i1)) (atO s2 i1.toNat fun x=>some (inl (s2,wrap .i64 (wrap .i64 (n1*10)+wrap .i64 (wrap .u8 ((x.toNat:Int)-48))),wrap .i64 (i1+1)))))
 (some (inr (inl (s1,n))))) ((s,(0:Int),(0:Int)))) fun(s1,n) =>
 cndO (decide ((s1.length:Int)=0))
 (some ((-1:Int)))
 (cndO (decide (1<(s1.length:Int)))
 (atO s1 ((0:Nat)) fun x=>cndO (decide ((x.toNat:Int)=48))
 (some ((-1:Int)))
 (some n))
 (some n))
def tb327:=insT 327 (mkE 327 true [] zCt zIB F327 [.tmp 2] 47 []) tb324
theorem ok327:zTb tb327:=okI ok324 noPl tv327 func327 rfl call327
abbrev to325:SPat:=⟨[(2,.i .i64),(3,.b)],[]⟩
abbrev zKv:SPat:=⟨[(0,.s),(13,.b)],[]⟩
def tv325:Nat→Option SPat:=fun k=>bif k==1000002 then some zKv else none
def F325:List UInt8→Option (Int×Bool):=fun s =>
 bindE (Y:=List UInt8×Bool) (cndO (decide (1<(s.length:Int)))
 (atO s ((0:Nat)) fun x=>some (inl (s,decide ((x.toNat:Int)=45))))
 (some (inl (s,false)))) fun(s1,v13) =>
 cndO (v13)
 (grdO (decide (1≤(s1.length:Int))&&decide ((s1.length:Int)≤(s1.length:Int))) (zAA (F327 (List.drop (1:Nat) (List.take (Int.toNat (s1.length:Int)) s1))) fun y =>
 some ((wrap .i64 ((0:Int)-y),decide (0<y)))))
 (zAA (F327 s1) fun y =>
 some ((y,decide (0≤y))))
def tb325:=insT 325 (mkE 325 true [] zCt to325 F325 [.tmp 2,.tmp 3] 26 []) tb327
theorem ok325:zTb tb325:=okI ok327 noPl tv325 func325 rfl call325
def F311:List UInt8×List Cst×Int×Int×Int×List Int×List Fld×List Mth×Bool→Option (Int×List Cst×Int×Int×Int×List Int×List Fld×List Mth×Bool):=fun(s,o0,o1,o2,o3,o4,o5,o6,o7) =>
 zAA (F327 s) fun y =>
 cndO (decide (y<0))
 (some (((0:Int),o0,o1,o2,o3,o4,o5,o6,true)))
 (some ((y,o0,o1,o2,o3,o4,o5,o6,o7)))
def tb311:=insT 311 (mkE 311 false [(0,[])] ti312 to326 F311 [.tmp 4] 14 [100000]) tb325
theorem ok311:zTb tb311:=okI ok325 noPl noIv func311 rfl call311
abbrev ti315:SPat:=⟨[(0,.ptr 100000 0)],zo3⟩
abbrev to315:SPat:=⟨[(2,.ptrI 7007 0)],[.arr 7007 tg53 true,.box 100000 (pl [.own tg27 true,.i .i64,.i .i64,.i .i64,.own (.int .i64) true,.own tg89 true,.ar 7007,.b])]⟩
def tp315:Nat→List Nat×Plan:=fun id=>bif id==1 then(zn9,(.br 13 zn10 [] [] .fin .fin))else([],.fin)
def F315:List Cst×Int×Int×Int×List Int×List Fld×List Mth×Bool→Option (Nat×List Mth×List Cst×Int×Int×Int×List Int×List Fld×Bool):=fun(o0,o1,o2,o3,o4,o5,o6,o7) =>
 grdO (decide (0≤wrap .i64 ((o6.length:Int)-1))&&decide (wrap .i64 ((o6.length:Int)-1)<(o6.length:Int))) (some ((Int.toNat (wrap .i64 ((o6.length:Int)-1)),o6,o0,o1,o2,o3,o4,o5,o7)))
def tb315:=insT 315 (mkE 315 false [(0,[])] ti315 to315 F315 [.tmp 2] 16 [7007,100000]) tb311
theorem ok315:zTb tb315:=okI ok311 tp315 noIv func315 rfl call315
abbrev zUL:SPat:=⟨[(0,.ptr 100000 0)],[.box 100000 (pl zo5),.arr 100001 tg53 true]⟩
abbrev zUH:SPat:=⟨[(2,.ptrI 100001 0)],[.box 100000 (pl zo5),.arr 100001 tg53 true]⟩
def zUD:Nat→List Nat×Plan:=fun id=>bif id==1 then(zn9,(.br 13 zn10 [] [] .fin .fin))else([],.fin)
def F7000315:(List Cst×Int×Int×Int×List Int×List Fld×Bool)×List Mth→Option (Nat×(List Cst×Int×Int×Int×List Int×List Fld×Bool)×List Mth):=fun((o0,o1,o2,o3,o4,o5,o7),l100001) =>
 grdO (decide (0≤wrap .i64 ((l100001.length:Int)-1))&&decide (wrap .i64 ((l100001.length:Int)-1)<(l100001.length:Int))) (some ((Int.toNat (wrap .i64 ((l100001.length:Int)-1)),(o0,o1,o2,o3,o4,o5,o7),l100001)))
def zNu:=insT 7000315 (mkE 315 false [(0,[]),(0,[6])] zUL zUH F7000315 [.tmp 2] 16 [100000,100001]) tb315
theorem zUx:zTb zNu:=okI ok315 zUD noIv func315 rfl call315
def F134:Int→Option (List UInt8):=fun n =>
 grdO (decide (0≤wrap .u8 n)&&decide (wrap .u8 n≤255)) (some ([UInt8.ofNat (Int.toNat (wrap .u8 n))]))
def tb134:=insT 134 (mkE 134 true [] zFv zEU F134 [.tmp 2] 7 []) zNu
theorem ok134:zTb tb134:=okI zUx noPl noIv func134 rfl call134
def F136:Int→Option (List UInt8):=fun n =>
 grdO (decide (0≤wrap .u8 (wrap .i64 (Int.tdiv n (256:Int))))&&decide (wrap .u8 (wrap .i64 (Int.tdiv n (256:Int)))≤255)) (grdO (decide (0≤wrap .u8 (Int.tmod n (256:Int)))&&decide (wrap .u8 (Int.tmod n (256:Int))≤255)) (some ([UInt8.ofNat (Int.toNat (wrap .u8 (wrap .i64 (Int.tdiv n (256:Int))))),UInt8.ofNat (Int.toNat (wrap .u8 (Int.tmod n (256:Int))))])))
def tb136:=insT 136 (mkE 136 true [] zFv zEU F136 [.tmp 2] 11 []) tb134
theorem ok136:zTb tb136:=okI ok134 noPl noIv func136 rfl call136
abbrev ti194:SPat:=⟨[(0,.sl tg89)],[]⟩
abbrev zTx:SPat:=⟨[(0,.sl tg89),(3,.s),(4,.i .i64)],[]⟩
abbrev zBk:SPat:=⟨[(3,.s)],[]⟩
def tv194:Nat→Option SPat:=fun k=>bif k==3 then some zTx else bif k==2000000 then some zBk else bif k==2000002 then some zTx else none
def F194:List Fld→Option (List UInt8):=fun list =>
 bindE (Y:=List UInt8) (zAG (fun(list1,out,i) =>
 cndO (decide (i<(list1.length:Int)))
 (grdO (decide (0≤i)) (atO list1 i.toNat fun x=>zAA (F134 x.2.1) fun y =>
 grdO (decide (out.length+y.length≤9223372036854775807)) (zAA (F251 x.2.1) fun y1 =>
 bindE (Y:=List Fld×List UInt8×Int) (cndO (decide (y1=1))
 (zAA (F134 x.2.2) fun y2 =>
 grdO (decide (List.length (out++y)+y2.length≤9223372036854775807)) (some (inl (list1,out++y++y2,i))))
 (cndO (decide (y1=2))
 (zAA (F136 (Int.tmod (wrap .i64 (x.2.2+65536)) (65536:Int))) fun y2 =>
 grdO (decide (List.length (out++y)+y2.length≤9223372036854775807)) (some (inl (list1,out++y++y2,i))))
 (some (inl (list1,out++y,i))))) fun(list2,out1,i1) =>
 some (inl (list2,out1,wrap .i64 (i1+1))))))
 (some (inr (inl out)))) ((list,[],(0:Int)))) fun out =>
 some (out)
def tb194:=insT 194 (mkE 194 true [] ti194 zEU F194 [.tmp 2] 41 []) tb136
theorem ok194:zTb tb194:=okI ok136 noPl tv194 func194 rfl call194
abbrev ti309:SPat:=⟨[(0,.ptr 100000 0),(1,.sl .str)],zo3⟩
abbrev zUI:SPat:=⟨[],zo3⟩
abbrev zLI:SPat:=⟨[(0,.ptr 100000 0),(1,.sl .str),(4,.ptr 4 0)],[.box 4 (pl zo6),.box 100000 (pl plB)]⟩
abbrev zLH:SPat:=⟨[(0,.ptr 100000 0),(1,.sl .str),(4,.ptr 4 0),(5,.i .i64),(35,.b)],[.box 4 (pl zo6),.box 100000 (pl plB)]⟩
abbrev zLG:SPat:=⟨[(0,.ptr 100000 0),(1,.sl .str),(4,.ptr 4 0),(5,.i .i64),(49,.b)],[.box 4 (pl zo6),.box 100000 (pl plB)]⟩
abbrev zLF:SPat:=⟨[(0,.ptr 100000 0),(1,.sl .str),(4,.ptr 4 0),(5,.i .i64),(70,.b)],[.box 4 (pl zo6),.box 100000 (pl plB)]⟩
abbrev zLE:SPat:=⟨[(0,.ptr 100000 0),(1,.sl .str),(4,.ptr 4 0),(5,.i .i64),(93,.b)],[.box 4 (pl zo6),.box 100000 (pl plB)]⟩
abbrev zLD:SPat:=⟨[(0,.ptr 100000 0),(4,.ptr 4 0)],[.box 4 (pl zo6),.box 100000 (pl plB)]⟩
def tv309:Nat→Option SPat:=fun k=>bif k==1000003 then some zLI else bif k==1000006 then some zLH else bif k==1000008 then some zLG else bif k==1000010 then some zLF else bif k==1000015 then some zLE else bif k==2000000 then some zLD else none
def tp309:Nat→List Nat×Plan:=fun id=>bif id==0 then([1,2,3],(.br 0 [] [1,2,3] [] (.br 4 [3,2,1,0] [] [5] (.br 6 [] [1,2,3,5] [] (.br 7 zn11 [] [] .fin .fin) .fin) (.br 6 [] [1,2,3] [] (.br 4 [3,2,1,0] [] [5] (.br 7 zn11 [] [] .fin .fin) .fin) .fin)) (.br 6 [] [1,2,3] [] (.br 0 [] [1,2,3] [] (.br 4 [3,2,1,0] [] [5] (.br 7 zn11 [] [] .fin .fin) .fin) .fin) .fin)))else bif id==8 then(zn12,(.br 11 zn13 [] [12] (.br 13 zn10 [] [] .fin .fin) .fin))else bif id==19 then([0,2,7],(.br 1 [0] [2,7] [] (.br 3 zn14 [7] zn15 (.br 8 [7] [0,2,4,5,6] [] (.br 9 [8,7,3,2,1,0] zn15 [10,11,12] (.br 13 zn10 [] [] .fin .fin) .fin) .fin) (.br 8 [7] [0,2] [] (.br 3 zn14 [7] zn15 (.br 9 [8,7,3,2,1,0] zn15 [10,11,12] (.br 13 zn10 [] [] .fin .fin) .fin) .fin) .fin)) (.br 8 [7] [0,2] [] (.br 1 [0] [2,7] [] (.br 3 zn14 [7] zn15 (.br 9 [8,7,3,2,1,0] zn15 [10,11,12] (.br 13 zn10 [] [] .fin .fin) .fin) .fin) .fin) .fin)))else([],.fin)
def F309:List (List UInt8)×List Cst×Int×Int×Int×List Int×List Fld×List Mth×Bool→Option (List Cst×Int×Int×Int×List Int×List Fld×List Mth×Bool):=fun(v1,o0,o1,o2,o3,o4,o5,o6,o7)=>atO v1 ((0:Nat)) fun x=>let q1:=fun(y1:Int)=>bindE (Y:=List (List UInt8)×(Int×Int×Int)×List Cst×Int×Int×Int×List Int×List Fld×List Mth×Bool) (cndO (decide ((o6.length:Int)=0)) (some (inr (o0,o1,o2,o3,o4,o5,o6,true))) (cndO (decide (y1<0)) (some (inr (o0,o1,o2,o3,o4,o5,o6,true))) (some (inl (v1,((0:Int),y1,(0:Int)),o0,o1,o2,o3,o4,o5,o6,o7))))) fun(v11,(o01,o11,o21),o02,o12,o22,o31,o41,o51,o61,o71)=>zAA (F291 o11) fun y2=>bindE (Y:=(Int×Int×Int)×List Cst×Int×Int×Int×List Int×List Fld×List Mth×Bool) (bindE (Y:=List (List UInt8)×Int×Bool×(Int×Int×Int)×List Cst×Int×Int×Int×List Int×List Fld×List Mth×Bool) (cndO (decide (y2=2)) (some (inl (v11,y2,decide ((v11.length:Int)=2),(o01,o11,o21),o02,o12,o22,o31,o41,o51,o61,o71))) (some (inl (v11,y2,false,(o01,o11,o21),o02,o12,o22,o31,o41,o51,o61,o71)))) fun(v12,v5,v35,(o03,o13,o23),o04,o14,o24,o32,o42,o52,o62,o72)=>cndO v35 (atO v12 ((1:Nat)) fun x1=>zAA (F310 (x1,o04,o14,o24,o32,o42,o52,o62,o72)) fun(y3,y4,y5,y6,y7,y8,x2,x3,x4)=>some (inl ((o03,o13,y3),y4,y5,y6,y7,y8,x2,x3,x4))) (bindE (Y:=List (List UInt8)×Int×Bool×(Int×Int×Int)×List Cst×Int×Int×Int×List Int×List Fld×List Mth×Bool) (cndO (decide (2<v5)) (some (inl (v12,v5,decide ((v12.length:Int)=4),(o03,o13,o23),o04,o14,o24,o32,o42,o52,o62,o72))) (some (inl (v12,v5,false,(o03,o13,o23),o04,o14,o24,o32,o42,o52,o62,o72)))) fun(v13,v51,v49,(o05,o15,o25),o06,o16,o26,o33,o43,o53,o63,o73)=>cndO v49 (atO v13 ((1:Nat)) fun x1=>atO v13 ((2:Nat)) fun x2=>atO v13 ((3:Nat)) fun x3=>zAA (F324 (v51,x1,x2,x3,o06,o16,o26,o33,o43,o53,o63,o73)) fun(y3,y4,y5,y6,y7,y8,x4,x5,x6)=>some (inl ((o05,o15,y3),y4,y5,y6,y7,y8,x4,x5,x6))) (bindE (Y:=List (List UInt8)×Int×Bool×(Int×Int×Int)×List Cst×Int×Int×Int×List Int×List Fld×List Mth×Bool) (cndO (decide (o15=1)) (some (inl (v13,v51,decide ((v13.length:Int)=2),(o05,o15,o25),o06,o16,o26,o33,o43,o53,o63,o73))) (some (inl (v13,v51,false,(o05,o15,o25),o06,o16,o26,o33,o43,o53,o63,o73)))) fun(v14,v52,v70,(o07,o17,o27),o08,o18,o28,o34,o44,o54,o64,o74)=>cndO v70 (atO v14 ((1:Nat)) fun x1=>zAA (F325 x1) fun(y3,y4)=>cndO (!y4) (some (inl ((o07,o17,y3),o08,o18,o28,o34,o44,o54,o64,true))) (some (inl ((o07,o17,y3),o08,o18,o28,o34,o44,o54,o64,o74)))) (bindE (Y:=List (List UInt8)×Int×Bool×(Int×Int×Int)×List Cst×Int×Int×Int×List Int×List Fld×List Mth×Bool) (cndO (decide (v52=0)) (zAA (F251 o17) fun y3=>cndO (decide (0<y3)) (some (inl (v14,v52,decide ((v14.length:Int)=2),(o07,o17,o27),o08,o18,o28,o34,o44,o54,o64,o74))) (some (inl (v14,v52,false,(o07,o17,o27),o08,o18,o28,o34,o44,o54,o64,o74)))) (some (inl (v14,v52,false,(o07,o17,o27),o08,o18,o28,o34,o44,o54,o64,o74)))) fun(v15,v53,v93,(o09,o19,o29),o010,o110,o210,o35,o45,o55,o65,o75)=>cndO v93 (atO v15 ((1:Nat)) fun x1=>zAA (F311 (x1,o010,o110,o210,o35,o45,o55,o65,o75)) fun(y3,y4,y5,y6,y7,y8,x2,x3,x4)=>some (inl ((o09,o19,y3),y4,y5,y6,y7,y8,x2,x3,x4))) (cndO (decide (v53=0)) (zAA (F251 o19) fun y3=>cndO (decide (y3=0)) (cndO (decide ((v15.length:Int)=1)) (some (inl ((o09,o19,o29),o010,o110,o210,o35,o45,o55,o65,o75))) (some (inr (o010,o110,o210,o35,o45,o55,o65,true)))) (some (inr (o010,o110,o210,o35,o45,o55,o65,true)))) (some (inr (o010,o110,o210,o35,o45,o55,o65,true)))))))) fun((o03,o13,o23),o04,o14,o24,o32,o42,o52,o62,o72)=>zAA (F107 (o23,(-32768:Int),65535)) fun y3=>cndO (!y3) (some ((o04,o14,o24,o32,o42,o52,o62,true))) (let q2:=fun(x4:List Fld) (x5:Bool) (x6:List Mth) (x7:Mth) (y10:Nat) (y11:List Cst) (y12:Int) (y13:Int) (y14:Int) (y15:List Int) (y4:Nat)=>zAA (F194 [(o03,o13,o23)]) fun y16=>seqU (seqU (grdO (y10==y10&&true) (some ())) (seqU (grdO (y10==y10&&true) (some ())) (seqU (atO x6 y10 fun x8=>grdO (decide (x8.2.2.2.2.2.1=x7.2.2.2.2.2.1)) (some ())) (some ())))) (grdO (decide (x7.2.2.2.2.2.1.length+y16.length≤9223372036854775807)) (atO x6 y4 fun x8=>some ((y11,y12,y13,y14,y15,x4,List.set x6 y4 (x8.1,x8.2.1,x8.2.2.1,x8.2.2.2.1,x8.2.2.2.2.1,x7.2.2.2.2.2.1++y16,x8.2.2.2.2.2.2.1,x8.2.2.2.2.2.2.2),x5))));let q3:=fun(x1:List Int) (x2:List Fld) (x3:Bool) (y4:Nat) (y5:List Mth) (y6:List Cst) (y7:Int) (y8:Int) (y9:Int)=>zAA (F7000315 ((y6,y7,y8,y9,x1,x2,x3),y5)) fun(y10,(y11,y12,y13,y14,y15,x4,x5),x6)=>seqU (seqU (grdO (decide (o03=o03)&&(decide (o13=o13)&&(decide (o23=o23)&&true))) (some ())) (some ())) (atO x6 y10 fun x7=>q2 x4 x5 x6 x7 y10 y11 y12 y13 y14 y15 y4);zBV (zAA (F315 (o04,o14,o24,o32,o42,o52,o62,o72)) fun(y4,y5,y6,y7,y8,y9,x1,x2,x3)=>seqU (seqU (grdO (decide (o03=o03)&&(decide (o13=o13)&&(decide (o23=o23)&&true))) (some ())) (some ())) (zBV (zAA (F7000315 ((y6,y7,y8,y9,x1,x2,x3),y5)) fun(y10,(y11,y12,y13,y14,y15,x4,x5),x6)=>seqU (seqU (grdO (decide (o03=o03)&&(decide (o13=o13)&&(decide (o23=o23)&&true))) (some ())) (some ())) (atO x6 y10 fun x7=>seqU (seqU (grdO (y10==y10&&true) (some ())) (seqU (grdO (y10==y10&&true) (some ())) (seqU (atO x6 y10 fun x8=>grdO (decide (x8.2.2.2.2.2.1=x7.2.2.2.2.2.1)) (some ())) (some ())))) (q2 x4 x5 x6 x7 y10 y11 y12 y13 y14 y15 y4))) (q3 x1 x2 x3 y4 y5 y6 y7 y8 y9))) (zAA (F315 (o04,o14,o24,o32,o42,o52,o62,o72)) fun(y4,y5,y6,y7,y8,y9,x1,x2,x3)=>seqU (seqU (grdO (decide (o03=o03)&&(decide (o13=o13)&&(decide (o23=o23)&&true))) (some ())) (some ())) (q3 x1 x2 x3 y4 y5 y6 y7 y8 y9)));let q4:=fun(y:List (List UInt8))=>seqU (seqU (grdO (decide (v1=v1)) (some ())) (seqU (atO v1 ((0:Nat)) fun x1=>grdO (decide (x1=x)&&true) (some ())) (seqU (grdO (decide (x=x)) (some ())) (some ())))) (zAA (F301 (y,x)) fun y1=>q1 y1);zBV (zAA (F302 ()) fun y=>seqU (seqU (grdO (decide (v1=v1)) (some ())) (seqU (atO v1 ((0:Nat)) fun x1=>grdO (decide (x1=x)&&true) (some ())) (seqU (grdO (decide (x=x)) (some ())) (some ())))) (zBV (zAA (F301 (y,x)) fun y1=>seqU (seqU (grdO (decide (v1=v1)) (some ())) (seqU (atO v1 ((0:Nat)) fun x1=>grdO (decide (x1=x)&&true) (some ())) (seqU (grdO (decide (x=x)) (some ())) (seqU (grdO (decide (y1=y1)&&true) (some ())) (some ()))))) (q1 y1)) (q4 y))) (seqU (seqU (grdO (decide (v1=v1)) (some ())) (seqU (atO v1 ((0:Nat)) fun x1=>grdO (decide (x1=x)&&true) (some ())) (seqU (grdO (decide (x=x)) (some ())) (some ())))) (zAA (F302 ()) fun y=>q4 y))
def tb309:=insT 309 (mkE 309 false [(0,[])] ti309 zUI F309 [] 147 [100000]) tb194
theorem ok309:zTb tb309:=okI ok194 tp309 tv309 func309 rfl call309
abbrev zUN:SPat:=⟨[(0,.ptr 100000 0),(1,.agg (pl zo4))],[.box 100000 (pl zo7),.arr 100001 (.int .i64) true]⟩
abbrev zIf:SPat:=⟨[(4,.i .i64)],[.box 100000 (pl zo7),.arr 100001 (.int .i64) true]⟩
abbrev zPf:SPat:=⟨[(0,.ptr 100000 0),(3,.ptr 3 0),(5,.i .i64)],[.box 3 (pl zo4),.box 100000 (pl zo7),.arr 100001 (.int .i64) true]⟩
abbrev zHJ:SPat:=⟨[(0,.ptr 100000 0),(3,.ptr 3 0)],[.box 3 (pl zo4),.box 100000 (pl zo7),.arr 100001 (.int .i64) true]⟩
def zTf:Nat→Option SPat:=fun k=>bif k==2 then some zPf else bif k==2000000 then some zHJ else none
def zUF:Nat→List Nat×Plan:=fun id=>bif id==4 then(zn5,.fin)else bif id==6 then(zn6,(.br 7 [6] zn1 [] (.br 8 zn7 [0] [9,10,11] (.br 12 zn8 [] [] .fin .fin) .fin) .fin))else([],.fin)
def F5000326:(Cst)×(List Cst×Int×Int×Int×List Fld×List Mth×Bool)×List Int→Option (Int×(List Cst×Int×Int×Int×List Fld×List Mth×Bool)×List Int):=fun((c0,c1,c2,c3),(o0,o1,o2,o3,o5,o6,o7),l100001) =>
 bindE (Y:=(Cst)×(List Cst×Int×Int×Int×List Fld×List Mth×Bool)×List Int) (zAG (fun(i,(o01,o11,o21,o31),(o02,o12,o22,o32,o51,o61,o71),l1000011) =>
 cndO (decide (i<(o02.length:Int)))
 (grdO (decide (0≤i)&&decide (i<(o02.length:Int))) (atO o02 i.toNat fun x=>cndO (decide (x.1=o01)&&(decide (x.2.1=o11)&&(decide (x.2.2.1=o21)&&(decide (x.2.2.2=o31)&&true))))
 (some (inr (inr (wrap .i64 (i+1),(o02,o12,o22,o32,o51,o61,o71),l1000011))))
 (some (inl (wrap .i64 (i+1),(o01,o11,o21,o31),(o02,o12,o22,o32,o51,o61,o71),l1000011)))))
 (some (inr (inl ((o01,o11,o21,o31),(o02,o12,o22,o32,o51,o61,o71),l1000011))))) (((0:Int),(c0,c1,c2,c3),(o0,o1,o2,o3,o5,o6,o7),l100001))) fun((o01,o11,o21,o31),(o02,o12,o22,o32,o51,o61,o71),l1000011) =>
 grdO (decide (o02.length+1≤9223372036854775807)&&decide ((o02.length+1)*40≤140737488355328)) (some (((↑(List.length (o02++[(o01,o11,o21,o31)])):Int),(o02++[(o01,o11,o21,o31)],o12,o22,o32,o51,o61,o71),l1000011)))
def zNy:=insT 5000326 (mkE 326 false [(0,[]),(0,[4])] zUN zIf F5000326 [.tmp 4] 46 [100000,100001]) tb309
theorem zVB:zTb zNy:=okI ok309 zUF zTf func326 rfl call326
abbrev zNt:SPat:=⟨[(0,.ptr 100000 0),(1,.s)],[.box 100000 (pl zo7),.arr 100001 (.int .i64) true]⟩
def F5000312:List UInt8×(List Cst×Int×Int×Int×List Fld×List Mth×Bool)×List Int→Option (Int×(List Cst×Int×Int×Int×List Fld×List Mth×Bool)×List Int):=fun(s,(o0,o1,o2,o3,o5,o6,o7),l100001) =>
 cndO (decide (60<(s.length:Int)))
 (some (((0:Int),(o0,o1,o2,o3,o5,o6,true),l100001)))
 (zAA (F5000326 (((1:Int),s,(0:Int),(0:Int)),(o0,o1,o2,o3,o5,o6,o7),l100001)) fun(y,(y1,y2,y3,y4,y5,x,x1),x2) =>
 some ((y,(y1,y2,y3,y4,y5,x,x1),x2)))
def zNz:=insT 5000312 (mkE 312 false [(0,[]),(0,[4])] zNt zIf F5000312 [.tmp 4] 15 [100000,100001]) zNy
theorem zVC:zTb zNz:=okI zVB noPl noIv func312 rfl call312
def F5000310:List UInt8×(List Cst×Int×Int×Int×List Fld×List Mth×Bool)×List Int→Option (Int×(List Cst×Int×Int×Int×List Fld×List Mth×Bool)×List Int):=fun(s,(o0,o1,o2,o3,o5,o6,o7),l100001) =>
 zAA (F5000312 (s,(o0,o1,o2,o3,o5,o6,o7),l100001)) fun(y,(y1,y2,y3,y4,y5,x,x1),x2) =>
 zAA (F5000326 (((2:Int),[],y,(0:Int)),(y1,y2,y3,y4,y5,x,x1),x2)) fun(y6,(y7,y8,y9,y10,y11,x3,x4),x5) =>
 some ((y6,(y7,y8,y9,y10,y11,x3,x4),x5))
def zOA:=insT 5000310 (mkE 310 false [(0,[]),(0,[4])] zNt zIf F5000310 [.tmp 4] 11 [100000,100001]) zNz
theorem zVD:zTb zOA:=okI zVC noPl noIv func310 rfl call310
abbrev zUM:SPat:=⟨[(0,.ptr 100000 0),(1,.agg (pl zo4))],[.box 100000 (pl zo8),.arr 100001 tg89 true]⟩
abbrev zIe:SPat:=⟨[(4,.i .i64)],[.box 100000 (pl zo8),.arr 100001 tg89 true]⟩
abbrev zPe:SPat:=⟨[(0,.ptr 100000 0),(3,.ptr 3 0),(5,.i .i64)],[.box 3 (pl zo4),.box 100000 (pl zo8),.arr 100001 tg89 true]⟩
abbrev zHI:SPat:=⟨[(0,.ptr 100000 0),(3,.ptr 3 0)],[.box 3 (pl zo4),.box 100000 (pl zo8),.arr 100001 tg89 true]⟩
def zTe:Nat→Option SPat:=fun k=>bif k==2 then some zPe else bif k==2000000 then some zHI else none
def zUE:Nat→List Nat×Plan:=fun id=>bif id==4 then(zn5,.fin)else bif id==6 then(zn6,(.br 7 [6] zn1 [] (.br 8 zn7 [0] [9,10,11] (.br 12 zn8 [] [] .fin .fin) .fin) .fin))else([],.fin)
def F6000326:(Cst)×(List Cst×Int×Int×Int×List Int×List Mth×Bool)×List Fld→Option (Int×(List Cst×Int×Int×Int×List Int×List Mth×Bool)×List Fld):=fun((c0,c1,c2,c3),(o0,o1,o2,o3,o4,o6,o7),l100001) =>
 bindE (Y:=(Cst)×(List Cst×Int×Int×Int×List Int×List Mth×Bool)×List Fld) (zAG (fun(i,(o01,o11,o21,o31),(o02,o12,o22,o32,o41,o61,o71),l1000011) =>
 cndO (decide (i<(o02.length:Int)))
 (grdO (decide (0≤i)&&decide (i<(o02.length:Int))) (atO o02 i.toNat fun x=>cndO (decide (x.1=o01)&&(decide (x.2.1=o11)&&(decide (x.2.2.1=o21)&&(decide (x.2.2.2=o31)&&true))))
 (some (inr (inr (wrap .i64 (i+1),(o02,o12,o22,o32,o41,o61,o71),l1000011))))
 (some (inl (wrap .i64 (i+1),(o01,o11,o21,o31),(o02,o12,o22,o32,o41,o61,o71),l1000011)))))
 (some (inr (inl ((o01,o11,o21,o31),(o02,o12,o22,o32,o41,o61,o71),l1000011))))) (((0:Int),(c0,c1,c2,c3),(o0,o1,o2,o3,o4,o6,o7),l100001))) fun((o01,o11,o21,o31),(o02,o12,o22,o32,o41,o61,o71),l1000011) =>
 grdO (decide (o02.length+1≤9223372036854775807)&&decide ((o02.length+1)*40≤140737488355328)) (some (((↑(List.length (o02++[(o01,o11,o21,o31)])):Int),(o02++[(o01,o11,o21,o31)],o12,o22,o32,o41,o61,o71),l1000011)))
def zNv:=insT 6000326 (mkE 326 false [(0,[]),(0,[5])] zUM zIe F6000326 [.tmp 4] 46 [100000,100001]) zOA
theorem zUy:zTb zNv:=okI zVD zUE zTe func326 rfl call326
abbrev zNs:SPat:=⟨[(0,.ptr 100000 0),(1,.s)],[.box 100000 (pl zo8),.arr 100001 tg89 true]⟩
def F6000312:List UInt8×(List Cst×Int×Int×Int×List Int×List Mth×Bool)×List Fld→Option (Int×(List Cst×Int×Int×Int×List Int×List Mth×Bool)×List Fld):=fun(s,(o0,o1,o2,o3,o4,o6,o7),l100001) =>
 cndO (decide (60<(s.length:Int)))
 (some (((0:Int),(o0,o1,o2,o3,o4,o6,true),l100001)))
 (zAA (F6000326 (((1:Int),s,(0:Int),(0:Int)),(o0,o1,o2,o3,o4,o6,o7),l100001)) fun(y,(y1,y2,y3,y4,y5,x,x1),x2) =>
 some ((y,(y1,y2,y3,y4,y5,x,x1),x2)))
def zNw:=insT 6000312 (mkE 312 false [(0,[]),(0,[5])] zNs zIe F6000312 [.tmp 4] 15 [100000,100001]) zNv
theorem zUz:zTb zNw:=okI zUy noPl noIv func312 rfl call312
def F6000311:List UInt8×(List Cst×Int×Int×Int×List Int×List Mth×Bool)×List Fld→Option (Int×(List Cst×Int×Int×Int×List Int×List Mth×Bool)×List Fld):=fun(s,(o0,o1,o2,o3,o4,o6,o7),l100001) =>
 zAA (F327 s) fun y =>
 cndO (decide (y<0))
 (some (((0:Int),(o0,o1,o2,o3,o4,o6,true),l100001)))
 (some ((y,(o0,o1,o2,o3,o4,o6,o7),l100001)))
def zNx:=insT 6000311 (mkE 311 false [(0,[]),(0,[5])] zNs zIe F6000311 [.tmp 4] 14 [100000,100001]) zNw
theorem zVA:zTb zNx:=okI zUz noPl noIv func311 rfl call311
end Go.Proofs.YtdpapeledldifaaGreat
end
