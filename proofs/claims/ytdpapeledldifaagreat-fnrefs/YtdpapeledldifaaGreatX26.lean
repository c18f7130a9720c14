/- Part 27 of the proof that the law FnRefs holds of every input; no condition. -/
import Derived.Test.YtdpapeledldifaaGreatX25
import Derived.Lib.Bytealg
import Derived.Laws.Externs
set_option autoImplicit true
set_option relaxedAutoImplicit true
set_option linter.all false
noncomputable section
namespace Go.Proofs.YtdpapeledldifaaGreat
open Go Go.AM Go.TM
open Go.Proofs.Tryz
open Sum (inl inr)
set_option maxRecDepth 100000
abbrev ti322:SPat:=⟨[(0,.s),(1,.i .u8)],[]⟩
abbrev zIB:SPat:=⟨[(2,.i .i64)],[]⟩
def F322:List UInt8×Int→Option Int:=fun(s,c)=>some (Lib.indexByte s c.toNat.toUInt8)
def te322:TEnt:=⟨322,true,[],ti322,zIB.Den,F322,fun y=>some (.i .i64 y,[])⟩
theorem c322:zHG Tryz.prog 322 te322.W:=by
 rintro args ob K ⟨⟨s,c⟩,y,v,obs,h1,h2,h3,h4,h5⟩
 refine AC.le h1 h2 ?_
 have h3:some (Lib.indexByte s c.toNat.toUInt8)=some y:=h3
 have h4:some (V.i .i64 y,([]:List TO))=some (v,obs):=h4
 obtain⟨rfl,rfl⟩:=Prod.mk.inj (Option.some.inj h4)
 have hy:y=Lib.indexByte s c.toNat.toUInt8:=(Option.some.inj h3).symm
 subst hy
 intro w G vs fO hlen hr hO hown
 have hr:RL w G [SV.s s,SV.i .u8 c] vs.toList zf:=hr
 have hO:ROs w G [] fO:=hO
 have hz:fO=zf:=hO
 subst hz
 have hvs:vs = #[.string ⟨s.toArray⟩,.int .u8 c]:=by
  simp only[RL,R]at hr
  obtain⟨v1,r1,f1,f2,e1,⟨_,rfl⟩,⟨v2,r2,f3,f4,e2,⟨_,rfl⟩,_,_⟩,_⟩:=hr
  have hsz:vs.toList.length=2:=hlen
  rw[e1,e2]at hsz
  have:r2=[]:=by simpa using hsz
  rw[this]at e2
  rw[e2]at e1
  exact Array.toList_inj.1 (by rw[e1])
 refine .inr ⟨.int .i64 (Lib.indexByte s c.toNat.toUInt8),w,?_,?_⟩
 ·rw[run_callFunc_extern func322 (by kernel_rfl) (by kernel_rfl) (by kernel_rfl) (e:=Extern.BytealgIndexByte.indexByte) (by kernel_rfl),hvs]
  have hrun:=Lib.run_indexByteString (P:=Tryz.prog) ⟨(s:List UInt8).toArray⟩ (c:Int) w
  exact(congrArg (fun r=>Result.andThen r fun v w'=>Result.ok (Next.value v) w') hrun).trans rfl
 ·exact⟨_,[],G,zf,zf,h5,by simp[e,R],rfl,⟨fun g=>by simp[zf],fun g _=>by simp[zf],hown.2.2.1,fun g hg=>by simp[zf]at hg⟩,fun g h=>h,fun g _ h=>.inl h,fun g _ h=>by simp[zf]at h,fun g _ _=>rfl,fun n _=>rfl,by simp[names,eOs],Nat.le_refl _,rfl,rfl,rfl⟩
def tb322:=insT 322 te322 tbT0
theorem ok322:zTb tb322:=TbOk.ins TbOk.nil c322
end Go.Proofs.YtdpapeledldifaaGreat
end
noncomputable section
namespace Go.Proofs.YtdpapeledldifaaGreat
open Go Go.AM Go.TM
open Go.Proofs.Tryz
open Sum (inl inr)
set_option maxRecDepth 100000
set_option maxHeartbeats 4000000
abbrev zFv:SPat:=⟨[(0,.i .i64)],[]⟩
abbrev zEU:SPat:=⟨[(2,.s)],[]⟩
def tp274:Nat→List Nat×Plan:=fun id=>bif id==7 then([0,1,3,4,5,6],(.br 2 [1,0] [3,4,5,6] [] (.br 7 [6,5,4,3] [0,1] [8,9] (.br 10 zn0 [] [] .fin .fin) .fin) (.br 7 [6,5,4,3] [0,1] [8] (.br 2 [1,0] [3,4,5,6,8] [9] (.br 10 zn0 [] [] .fin .fin) .fin) .fin)))else([],.fin)
def zUO (R:zFv.Den→Option zEU.Den):TEnt:=⟨274,true,[],zFv,zEU.Den,R,resF T [.tmp 2] 28 zEU []⟩
def H274 (R274:Int→Option (List UInt8)):Int→Option (List UInt8):=fun n =>
 cndO (decide (n < -9223372036854775807))
  (some ([(45:UInt8),57,50,50,51,51,55,50,48,51,54,56,53,52,55,55,53,56,48,56]))
  (cndO (decide (n<0))
   (zAA (R274 (IntKind.wrap .i64 ((0:Int)-n))) fun y =>
   grdO (decide ((1:Nat)+List.length y≤9223372036854775807)) (some ([(45:UInt8)]++y)))
   (cndO (decide (n<10))
    (grdO (decide (0≤IntKind.wrap .u8 (IntKind.wrap .i64 ((48:Int)+n)))&&decide (IntKind.wrap .u8 (IntKind.wrap .i64 ((48:Int)+n))≤255)) (some ([UInt8.ofNat (Int.toNat (IntKind.wrap .u8 (IntKind.wrap .i64 ((48:Int)+n))))])))
    (zBV
     (zAA (R274 (IntKind.wrap .i64 (Int.tdiv n (10:Int)))) fun y =>
     seqU (seqU (grdO (decide (n=n)) (some ())) (seqU (grdO (decide (Int.tmod n (10:Int)=Int.tmod n (10:Int))) (some ())) (seqU (grdO (decide (IntKind.wrap .i64 ((48:Int)+Int.tmod n (10:Int))=IntKind.wrap .i64 ((48:Int)+Int.tmod n (10:Int)))) (some ())) (seqU (grdO (decide (IntKind.wrap .u8 (IntKind.wrap .i64 ((48:Int)+Int.tmod n (10:Int)))=IntKind.wrap .u8 (IntKind.wrap .i64 ((48:Int)+Int.tmod n (10:Int))))) (some ())) (some ()))))) (grdO (decide (0≤IntKind.wrap .u8 (IntKind.wrap .i64 ((48:Int)+Int.tmod n (10:Int))))&&decide (IntKind.wrap .u8 (IntKind.wrap .i64 ((48:Int)+Int.tmod n (10:Int)))≤255)) (seqU (seqU (grdO (decide (n=n)) (some ())) (seqU (grdO (decide (IntKind.wrap .i64 (Int.tdiv n (10:Int))=IntKind.wrap .i64 (Int.tdiv n (10:Int)))) (some ())) (some ()))) (grdO (decide (List.length y+1≤9223372036854775807)) (some (y++[UInt8.ofNat (Int.toNat (IntKind.wrap .u8 (IntKind.wrap .i64 ((48:Int)+Int.tmod n (10:Int)))))]))))))
     (grdO (decide (0≤IntKind.wrap .u8 (IntKind.wrap .i64 ((48:Int)+Int.tmod n (10:Int))))&&decide (IntKind.wrap .u8 (IntKind.wrap .i64 ((48:Int)+Int.tmod n (10:Int)))≤255)) (seqU (seqU (grdO (decide (n=n)) (some ())) (seqU (grdO (decide (IntKind.wrap .i64 (Int.tdiv n (10:Int))=IntKind.wrap .i64 (Int.tdiv n (10:Int)))) (some ())) (some ()))) (zAA (R274 (IntKind.wrap .i64 (Int.tdiv n (10:Int)))) fun y =>
     seqU (seqU (grdO (decide (n=n)) (some ())) (seqU (grdO (decide (Int.tmod n (10:Int)=Int.tmod n (10:Int))) (some ())) (seqU (grdO (decide (IntKind.wrap .i64 ((48:Int)+Int.tmod n (10:Int))=IntKind.wrap .i64 ((48:Int)+Int.tmod n (10:Int)))) (some ())) (seqU (grdO (decide (IntKind.wrap .u8 (IntKind.wrap .i64 ((48:Int)+Int.tmod n (10:Int)))=IntKind.wrap .u8 (IntKind.wrap .i64 ((48:Int)+Int.tmod n (10:Int))))) (some ())) (seqU (grdO (decide ([UInt8.ofNat (Int.toNat (IntKind.wrap .u8 (IntKind.wrap .i64 ((48:Int)+Int.tmod n (10:Int)))))]=[UInt8.ofNat (Int.toNat (IntKind.wrap .u8 (IntKind.wrap .i64 ((48:Int)+Int.tmod n (10:Int)))))])) (some ())) (some ())))))) (grdO (decide (List.length y+1≤9223372036854775807)) (some (y++[UInt8.ofNat (Int.toNat (IntKind.wrap .u8 (IntKind.wrap .i64 ((48:Int)+Int.tmod n (10:Int)))))])))))))))
theorem r274 (R274:Int→Option (List UInt8))(x:Int):funT T (insT 274 (zUO R274) tb322) tp274 28 noIv (bodyOf Tryz.f274) zFv zEU x=H274 R274 x:=by kernel_rfl
def G274:Nat→Int→Option (List UInt8)
 |0=>fun _=>none
 |n+1=>H274 (G274 n)
theorem cR274:∀n,zHG Tryz.prog 274 (zUO (G274 n)).W
 |0=>fun args ob K ⟨x,y,v,obs,h1,h2,h3,_⟩=>by cases h3
 |n+1=>zVi (TbOk.ins ok322 (cR274 n)) layOk mixed true [] zFv zEU [] tp274 noIv func274 rfl results274 ntmps274 (by kernel_rfl) (by kernel_rfl) call274 (G274 (n+1)) fun x _ h=>(r274 (G274 n) x).trans h
def F274:Int→Option (List UInt8):=G274 24
def te274:TEnt:=zUO F274
def tb274:=insT 274 te274 tb322
theorem ok274:zTb tb274:=TbOk.ins ok322 (cR274 24)
end Go.Proofs.YtdpapeledldifaaGreat
end
