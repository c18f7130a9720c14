/- Part 31 of the proof that the law FnPool holds of every input; no condition. -/
import Derived.Test.YtdpapeledldifaaGreatX29
set_option autoImplicit true
set_option relaxedAutoImplicit true
set_option linter.all false
noncomputable section
namespace Go.Proofs.YtdpapeledldifaaGreat
open Go Go.AM Go.TM
set_option maxRecDepth 100000
set_option maxHeartbeats 4000000
abbrev ti140:SPat:=⟨[(0,.ptr 100000 0),(1,.s)],[.box 100000 (pl [.sl .byte,.i .i64])]⟩
abbrev to140:SPat:=⟨[(4,.s)],[.box 100000 (pl [.sl .byte,.i .i64])]⟩
def F140:List UInt8×List UInt8×Int→Option (List UInt8×List UInt8×Int):=fun (v1,o0,o1) =>
 cndO (decide (v1=[(65:UInt8)]))
  (bindO (F119 ([[],[],[(102:UInt8),105,101,108,100,32,122,32,73,32,48,10]],o0,o1)) fun (y,y1,y2) =>
  grdO (decide ((52:Nat)+List.length y≤(9223372036854775807:Nat))) (grdO (decide (List.length ([(99:UInt8),108,97,115,115,32,65,32,79,98,106,32,48,10,102,105,101,108,100,32,120,32,73,32,48,10,102,105,101,108,100,32,110,32,76,65,59,32,48,10,102,105,101,108,100,32,115,32,73,32,49,10]++y)+(55:Nat)≤(9223372036854775807:Nat))) (grdO (decide (List.length ([(99:UInt8),108,97,115,115,32,65,32,79,98,106,32,48,10,102,105,101,108,100,32,120,32,73,32,48,10,102,105,101,108,100,32,110,32,76,65,59,32,48,10,102,105,101,108,100,32,115,32,73,32,49,10]++y++[(109:UInt8),101,116,104,111,100,32,103,101,116,32,40,41,73,32,48,32,50,32,49,10,32,32,114,101,102,108,111,97,100,32,48,10,32,32,103,101,116,32,65,32,120,32,73,10,32,32,103,105,118,101,105,110,116,10])+(60:Nat)≤(9223372036854775807:Nat))) (grdO (decide (List.length ([(99:UInt8),108,97,115,115,32,65,32,79,98,106,32,48,10,102,105,101,108,100,32,120,32,73,32,48,10,102,105,101,108,100,32,110,32,76,65,59,32,48,10,102,105,101,108,100,32,115,32,73,32,49,10]++y++[(109:UInt8),101,116,104,111,100,32,103,101,116,32,40,41,73,32,48,32,50,32,49,10,32,32,114,101,102,108,111,97,100,32,48,10,32,32,103,101,116,32,65,32,120,32,73,10,32,32,103,105,118,101,105,110,116,10]++[(109:UInt8),101,116,104,111,100,32,110,101,120,116,32,40,41,76,65,59,32,48,32,50,32,49,10,32,32,114,101,102,108,111,97,100,32,48,10,32,32,103,101,116,32,65,32,110,32,76,65,59,10,32,32,103,105,118,101,114,101,102,10])+(40:Nat)≤(9223372036854775807:Nat))) (bindO (F119 ([[],[(109:UInt8),101,116,104,111,100,32,104,105,100,32,40,41,86,32,50,32,48,32,49,10,32,32,103,105,118,101,10]],y1,y2)) fun (y3,y4,y5) =>
  grdO (decide (List.length ([(99:UInt8),108,97,115,115,32,65,32,79,98,106,32,48,10,102,105,101,108,100,32,120,32,73,32,48,10,102,105,101,108,100,32,110,32,76,65,59,32,48,10,102,105,101,108,100,32,115,32,73,32,49,10]++y++[(109:UInt8),101,116,104,111,100,32,103,101,116,32,40,41,73,32,48,32,50,32,49,10,32,32,114,101,102,108,111,97,100,32,48,10,32,32,103,101,116,32,65,32,120,32,73,10,32,32,103,105,118,101,105,110,116,10]++[(109:UInt8),101,116,104,111,100,32,110,101,120,116,32,40,41,76,65,59,32,48,32,50,32,49,10,32,32,114,101,102,108,111,97,100,32,48,10,32,32,103,101,116,32,65,32,110,32,76,65,59,10,32,32,103,105,118,101,114,101,102,10]++[(109:UInt8),101,116,104,111,100,32,109,107,32,40,41,76,65,59,32,49,32,49,32,48,10,32,32,110,101,119,32,65,10,32,32,103,105,118,101,114,101,102,10])+List.length y3≤(9223372036854775807:Nat))) (bindO (F119 ([[],List.append [(109:UInt8),101,116,104,111,100,32,98,101,103,105,110,32,40,41,86,32,49,32,49,32,48,10,32,32,112,117,115,104,32,49,48,10,32,32,112] [(114:UInt8),105,110,116,10,32,32,112,117,115,104,32,51,10,32,32,112,117,116,97,108,108,32,65,32,115,32,73,10,32,32,103,105,118,101,10],[(109:UInt8),101,116,104,111,100,32,98,101,103,105,110,32,40,41,86,32,49,32,50,32,48,10,32,32,112,117,115,104,32,49,10,32,32,112,117,115,104,32,48,10,32,32,100,105,118,10,32,32,112,114,105,110,116,10,32,32,103,105,118,101,10]],y4,y5)) fun (y6,y7,y8) =>
  grdO (decide (List.length ([(99:UInt8),108,97,115,115,32,65,32,79,98,106,32,48,10,102,105,101,108,100,32,120,32,73,32,48,10,102,105,101,108,100,32,110,32,76,65,59,32,48,10,102,105,101,108,100,32,115,32,73,32,49,10]++y++[(109:UInt8),101,116,104,111,100,32,103,101,116,32,40,41,73,32,48,32,50,32,49,10,32,32,114,101,102,108,111,97,100,32,48,10,32,32,103,101,116,32,65,32,120,32,73,10,32,32,103,105,118,101,105,110,116,10]++[(109:UInt8),101,116,104,111,100,32,110,101,120,116,32,40,41,76,65,59,32,48,32,50,32,49,10,32,32,114,101,102,108,111,97,100,32,48,10,32,32,103,101,116,32,65,32,110,32,76,65,59,10,32,32,103,105,118,101,114,101,102,10]++[(109:UInt8),101,116,104,111,100,32,109,107,32,40,41,76,65,59,32,49,32,49,32,48,10,32,32,110,101,119,32,65,10,32,32,103,105,118,101,114,101,102,10]++y3)+List.length y6≤(9223372036854775807:Nat))) (some (([(99:UInt8),108,97,115,115,32,65,32,79,98,106,32,48,10,102,105,101,108,100,32,120,32,73,32,48,10,102,105,101,108,100,32,110,32,76,65,59,32,48,10,102,105,101,108,100,32,115,32,73,32,49,10]++y++[(109:UInt8),101,116,104,111,100,32,103,101,116,32,40,41,73,32,48,32,50,32,49,10,32,32,114,101,102,108,111,97,100,32,48,10,32,32,103,101,116,32,65,32,120,32,73,10,32,32,103,105,118,101,105,110,116,10]++[(109:UInt8),101,116,104,111,100,32,110,101,120,116,32,40,41,76,65,59,32,48,32,50,32,49,10,32,32,114,101,102,108,111,97,100,32,48,10,32,32,103,101,116,32,65,32,110,32,76,65,59,10,32,32,103,105,118,101,114,101,102,10]++[(109:UInt8),101,116,104,111,100,32,109,107,32,40,41,76,65,59,32,49,32,49,32,48,10,32,32,110,101,119,32,65,10,32,32,103,105,118,101,114,101,102,10]++y3++y6,y7,y8)))))))))
  (cndO (decide (v1=[(66:UInt8)]))
   (bindO (F119 ([[(48:UInt8)],[(48:UInt8)],[(50:UInt8)]],o0,o1)) fun (y,y1,y2) =>
   grdO (decide ((10:Nat)+List.length y≤(9223372036854775807:Nat))) (grdO (decide (List.length ([(99:UInt8),108,97,115,115,32,66,32,65,32]++y)+(13:Nat)≤(9223372036854775807:Nat))) (bindO (F119 ([[(109:UInt8),101,116,104,111,100,32,103,101,116,32,40,41,73,32,48,32,49,32,49,10,32,32,112,117,115,104,32,53,10,32,32,103,105,118,101,105,110,116,10],List.append [(109:UInt8),101,116,104,111,100,32,103,101,116,32,40,41,73,32,48,32,50,32,49,10,32,32,114,101,102,108,111,97,100,32,48,10,32,32,115,112,101,99] [(105:UInt8),97,108,32,65,32,103,101,116,32,40,41,73,10,32,32,112,117,115,104,32,49,10,32,32,97,100,100,10,32,32,103,105,118,101,105,110,116,10],[(109:UInt8),101,116,104,111,100,32,103,101,116,32,40,41,73,32,50,32,49,32,49,10,32,32,112,117,115,104,32,57,10,32,32,103,105,118,101,105,110,116,10],[(109:UInt8),101,116,104,111,100,32,110,101,120,116,32,40,41,76,65,59,32,48,32,49,32,49,10,32,32,110,101,119,32,66,10,32,32,103,105,118,101,114,101,102,10],[(109:UInt8),101,116,104,111,100,32,103,101,116,32,40,41,73,32,48,32,49,32,49,10,32,32,110,117,108,108,10,32,32,103,105,118,101,105,110,116,10],[(109:UInt8),101,116,104,111,100,32,98,101,103,105,110,32,40,41,86,32,49,32,49,32,48,10,32,32,112,117,115,104,32,50,48,10,32,32,112,114,105,110,116,10,32,32,103,105,118,101,10]],y1,y2)) fun (y3,y4,y5) =>
   grdO (decide (List.length ([(99:UInt8),108,97,115,115,32,66,32,65,32]++y++[(10:UInt8),102,105,101,108,100,32,121,32,73,32,48,10])+List.length y3≤(9223372036854775807:Nat))) (some (([(99:UInt8),108,97,115,115,32,66,32,65,32]++y++[(10:UInt8),102,105,101,108,100,32,121,32,73,32,48,10]++y3,y4,y5))))))
   (cndO (decide (v1=[(67:UInt8)]))
    (bindO (F119 ([[],[(109:UInt8),101,116,104,111,100,32,103,101,116,32,40,41,73,32,48,32,49,32,49,10,32,32,112,117,115,104,32,54,10,32,32,103,105,118,101,105,110,116,10],[(109:UInt8),101,116,104,111,100,32,103,101,116,32,40,41,73,32,48,32,49,32,49,10,32,32,112,117,115,104,32,54,10,32,32,103,105,118,101,105,110,116,10]],o0,o1)) fun (y,y1,y2) =>
    grdO (decide ((21:Nat)+List.length y≤(9223372036854775807:Nat))) (grdO (decide (List.length ([(99:UInt8),108,97,115,115,32,67,32,79,98,106,32,48,10,102,97,99,101,32,70,10]++y)+(39:Nat)≤(9223372036854775807:Nat))) (bindO (F119 ([[(118:UInt8),105,114,116,117,97,108,32,65,32,103,101,116,32,40,41,73],[(103:UInt8),101,116,32,65,32,120,32,73]],y1,y2)) fun (y3,y4,y5) =>
    grdO (decide (List.length ([(99:UInt8),108,97,115,115,32,67,32,79,98,106,32,48,10,102,97,99,101,32,70,10]++y++[(109:UInt8),101,116,104,111,100,32,116,97,107,101,32,40,76,65,59,41,73,32,48,32,50,32,50,10,32,32,114,101,102,108,111,97,100,32,49,10,32,32])+List.length y3≤(9223372036854775807:Nat))) (grdO (decide (List.length ([(99:UInt8),108,97,115,115,32,67,32,79,98,106,32,48,10,102,97,99,101,32,70,10]++y++[(109:UInt8),101,116,104,111,100,32,116,97,107,101,32,40,76,65,59,41,73,32,48,32,50,32,50,10,32,32,114,101,102,108,111,97,100,32,49,10,32,32]++y3)+(11:Nat)≤(9223372036854775807:Nat))) (some (([(99:UInt8),108,97,115,115,32,67,32,79,98,106,32,48,10,102,97,99,101,32,70,10]++y++[(109:UInt8),101,116,104,111,100,32,116,97,107,101,32,40,76,65,59,41,73,32,48,32,50,32,50,10,32,32,114,101,102,108,111,97,100,32,49,10,32,32]++y3++[(10:UInt8),32,32,103,105,118,101,105,110,116,10],y4,y5)))))))
    (cndO (decide (v1=[(70:UInt8)]))
     (bindO (F119 ([[(53:UInt8)],[(53:UInt8)],[(53:UInt8)],[(52:UInt8)]],o0,o1)) fun (y,y1,y2) =>
     grdO (decide ((12:Nat)+List.length y≤(9223372036854775807:Nat))) (grdO (decide (List.length ([(99:UInt8),108,97,115,115,32,70,32,79,98,106,32]++y)+(39:Nat)≤(9223372036854775807:Nat))) (some (([(99:UInt8),108,97,115,115,32,70,32,79,98,106,32]++y++[(10:UInt8),109,101,116,104,111,100,32,103,101,116,32,40,41,73,32,56,10,109,101,116,104,111,100,32,116,97,107,101,32,40,76,65,59,41,73,32,56,10],y1,y2)))))
     (bindO (F119 ([[(65:UInt8)],[(65:UInt8)],[(66:UInt8)]],o0,o1)) fun (y,y1,y2) =>
     grdO (decide ((116:Nat)+List.length y≤(9223372036854775807:Nat))) (grdO (decide (List.length (List.append [(99:UInt8),108,97,115,115,32,85,32,79,98,106,32,48,10,102,105,101,108,100,32,97,32,76,65,59,32,49,10,109,101,116,104,111,100,32,101,97,116,32,40,76,65,59] [(41:UInt8),73,32,49,32,50,32,49,10,32,32,114,101,102,108,111,97,100,32,48,10,32,32,103,101,116,32,65,32,120,32,73,10,32,32,103,105,118,101,105,110,116,10]++[(109:UInt8),101,116,104,111,100,32,109,97,107,101,32,40,41,76,65,59,32,49,32,49,32,48,10,32,32,110,101,119,32]++y)+(11:Nat)≤(9223372036854775807:Nat))) (some ((List.append [(99:UInt8),108,97,115,115,32,85,32,79,98,106,32,48,10,102,105,101,108,100,32,97,32,76,65,59,32,49,10,109,101,116,104,111,100,32,101,97,116,32,40,76,65,59] [(41:UInt8),73,32,49,32,50,32,49,10,32,32,114,101,102,108,111,97,100,32,48,10,32,32,103,101,116,32,65,32,120,32,73,10,32,32,103,105,118,101,105,110,116,10]++[(109:UInt8),101,116,104,111,100,32,109,97,107,101,32,40,41,76,65,59,32,49,32,49,32,48,10,32,32,110,101,119,32]++y++[(10:UInt8),32,32,103,105,118,101,114,101,102,10],y1,y2))))))))
theorem r140 (x:List UInt8×List UInt8×Int):funT T tb138 noPl 71 noIv (bodyOf Tryz.f140) ti140 to140 x=F140 x:=by kernel_rfl
def te140:TEnt:=⟨140,false,[(0,[])],ti140,to140.Den,F140,resF T [.tmp 4] 71 to140 [100000]⟩
def tb140:Nat→Option TEnt:=insT 140 te140 tb138
theorem ok140:TbOk Tryz.prog tb140:=TbOk.ins ok138 (fun_ok ok138 layOk mixed false _ ti140 to140 [100000] noPl noIv Tryz.func140 rfl Tryz.results140 Tryz.ntmps140 (by kernel_rfl) (by kernel_rfl) Tryz.call140 F140 fun x _ h=>(r140 x).trans h)
abbrev ti56:SPat:=⟨[(0,.ptr 100000 0)],[.box 100000 (pl [.sl .byte,.i .i64])]⟩
abbrev to56:SPat:=⟨[(2,.ptr 2 0)],[.box 2 (pl plD),.box 100000 (pl [.sl .byte,.i .i64])]⟩
abbrev ts56_1000006:SPat:=⟨[(2,.ptr 2 0),(4,.s)],[.box 2 (pl plD),.box 100000 (pl [.sl .byte,.i .i64])]⟩
def tv56:Nat→Option SPat:=fun k=>bif k == 1000006 then some ts56_1000006 else none
def F56:List UInt8×Int→Option ((Cls)×List UInt8×Int):=fun (o0,o1) =>
 bindO (F119 ([[(65:UInt8)],[(66:UInt8)],[(67:UInt8)],[(70:UInt8)],[(85:UInt8)],[(77:UInt8)]],o0,o1)) fun (y,y1,y2) =>
 bindE (Y:=List UInt8×(Cls)×List UInt8×Int) (cndO (decide (y=[(77:UInt8)]))
   (bindO (F138 (y1,y2)) fun ((y3,y4),y5,y6) =>
   some (Sum.inl (y4,([],(0:Int),(0:Int),(0:Int),[],[],[]),y5,y6)))
   (bindO (F140 (y,y1,y2)) fun (y3,y4,y5) =>
   bindO (F139 y3) fun y6 =>
   some (Sum.inl (y6,([],(0:Int),(0:Int),(0:Int),[],[],[]),y4,y5)))) fun (text_,(o01,o11,o2,o3,o4,o5,o6),o02,o12) =>
 bindO (F63 text_) fun (y3,y4,y5,y6,y7,y8,x,x1) =>
 some (((y4,y5,y6,y7,y8,x,x1),o02,o12))
theorem r56 (x:List UInt8×Int):funT T tb140 noPl 25 tv56 (bodyOf Tryz.f56) ti56 to56 x=F56 x:=by kernel_rfl
def te56:TEnt:=⟨56,false,[(0,[])],ti56,to56.Den,F56,resF T [.cell 2 34] 25 to56 [100000]⟩
def tb56:Nat→Option TEnt:=insT 56 te56 tb140
theorem ok56:TbOk Tryz.prog tb56:=TbOk.ins ok140 (fun_ok ok140 layOk mixed false _ ti56 to56 [100000] noPl tv56 Tryz.func56 rfl Tryz.results56 Tryz.ntmps56 (by kernel_rfl) (by kernel_rfl) Tryz.call56 F56 fun x _ h=>(r56 x).trans h)
abbrev ti54:SPat:=⟨[(0,.ptr 100000 0),(1,.s)],[.box 100000 (pl [.sl .byte,.i .i64])]⟩
abbrev to54:SPat:=⟨[(4,.s)],[.box 100000 (pl [.sl .byte,.i .i64])]⟩
abbrev ts54_1000005:SPat:=⟨[(0,.ptr 100000 0),(1,.s),(5,.i .i64),(12,.i .i64),(13,.b)],[.box 100000 (pl [.sl .byte,.i .i64])]⟩
abbrev ts54_2000000:SPat:=⟨[(1,.s)],[.box 100000 (pl [.sl .byte,.i .i64])]⟩
def tv54:Nat→Option SPat:=fun k=>bif k == 1000005 then some ts54_1000005 else bif k == 2000000 then some ts54_2000000 else none
def tp54:Nat→List Nat×Plan:=fun id=>bif id == 6 then ([0,1,2,3,9,10,11,12],(.br 4 [3] [0,1,2,9,10,11,12] [5] (.br 6 [5,4,3] [0,1,2,9,10,11,12] [7,8,13] (.br 14 [13,12,11,10,9,8,7,6,5,4,3,2,1,0] [] [] .fin .fin) .fin) .fin)) else ([],.fin)
def F54:List UInt8×List UInt8×Int→Option (List UInt8×List UInt8×Int):=fun (s,o0,o1) =>
 bindO (F51 (IntKind.wrap .i64 ((s.length:Int)+(1:Int)),o0,o1)) fun (y,y1,y2) =>
 bindO (F51 ((5:Int),y1,y2)) fun (y3,y4,y5) =>
 bindE (Y:=List UInt8×List UInt8×Int) (bindE (Y:=List UInt8×Int×Int×Bool×List UInt8×Int) (cndO (decide (y3=(0:Int)))
    (some (Sum.inl (s,y,y3,true,y4,y5)))
    (some (Sum.inl (s,y,y3,decide (y3=(1:Int)),y4,y5)))) fun (s1,k,v12,v13,o01,o11) =>
  cndO (v13)
   (cndO (decide (k<(s1.length:Int)))
    (grdO (decide ((0:Int)≤k) && decide (k≤(s1.length:Int))) (grdO (decide ((0:Int)≤IntKind.wrap .i64 (k+(1:Int))) && decide (IntKind.wrap .i64 (k+(1:Int))≤(s1.length:Int)) && decide ((s1.length:Int)≤(s1.length:Int))) (bindO (F51 ((256:Int),o01,o11)) fun (y6,y7,y8) =>
    seqU (seqU (grdO (decide (s1=s1)) (some (()))) (seqU (grdO (decide (k=k)) (some (()))) (seqU (grdO (decide ((0:Int)≤k) && decide (k≤(s1.length:Int))) (grdO (decide (List.drop (0:Nat) (List.take k.toNat s1)=List.drop (0:Nat) (List.take k.toNat s1))) (some (())))) (seqU (grdO (decide (s1=s1)) (some (()))) (seqU (grdO (decide (k=k)) (some (()))) (seqU (grdO (decide (IntKind.wrap .i64 (k+(1:Int))=IntKind.wrap .i64 (k+(1:Int)))) (some (()))) (seqU (grdO (decide ((0:Int)≤IntKind.wrap .i64 (k+(1:Int))) && decide (IntKind.wrap .i64 (k+(1:Int))≤(s1.length:Int)) && decide ((s1.length:Int)≤(s1.length:Int))) (grdO (decide (List.drop (Int.toNat (IntKind.wrap .i64 (k+(1:Int)))) (List.take (Int.toNat (s1.length:Int)) s1)=List.drop (Int.toNat (IntKind.wrap .i64 (k+(1:Int)))) (List.take (Int.toNat (s1.length:Int)) s1))) (some (())))) (some (()))))))))) (grdO (decide ((0:Int)≤IntKind.wrap .u8 y6) && decide (IntKind.wrap .u8 y6≤(255:Int))) (seqU (seqU (grdO (decide (s1=s1)) (some (()))) (seqU (grdO (decide (k=k)) (some (()))) (seqU (grdO (decide ((0:Int)≤k) && decide (k≤(s1.length:Int))) (grdO (decide (List.drop (0:Nat) (List.take k.toNat s1)=List.drop (0:Nat) (List.take k.toNat s1))) (some (())))) (seqU (grdO (decide (s1=s1)) (some (()))) (seqU (grdO (decide (k=k)) (some (()))) (seqU (grdO (decide (IntKind.wrap .i64 (k+(1:Int))=IntKind.wrap .i64 (k+(1:Int)))) (some (()))) (seqU (grdO (decide ((0:Int)≤IntKind.wrap .i64 (k+(1:Int))) && decide (IntKind.wrap .i64 (k+(1:Int))≤(s1.length:Int)) && decide ((s1.length:Int)≤(s1.length:Int))) (grdO (decide (List.drop (Int.toNat (IntKind.wrap .i64 (k+(1:Int)))) (List.take (Int.toNat (s1.length:Int)) s1)=List.drop (Int.toNat (IntKind.wrap .i64 (k+(1:Int)))) (List.take (Int.toNat (s1.length:Int)) s1))) (some (())))) (some (()))))))))) (grdO (decide (List.length (List.drop (0:Nat) (List.take k.toNat s1))+(1:Nat)≤(9223372036854775807:Nat))) (grdO (decide (List.length (List.drop (0:Nat) (List.take k.toNat s1)++[UInt8.ofNat (Int.toNat (IntKind.wrap .u8 y6))])+List.length (List.drop (Int.toNat (IntKind.wrap .i64 (k+(1:Int)))) (List.take (Int.toNat (s1.length:Int)) s1))≤(9223372036854775807:Nat))) (some (Sum.inr (List.drop (0:Nat) (List.take k.toNat s1)++[UInt8.ofNat (Int.toNat (IntKind.wrap .u8 y6))]++List.drop (Int.toNat (IntKind.wrap .i64 (k+(1:Int)))) (List.take (Int.toNat (s1.length:Int)) s1),y7,y8))))))))))
    (some (Sum.inl (s1,o01,o11))))
   (cndO (decide (v12=(2:Int)))
    (grdO (decide ((0:Int)≤k) && decide (k≤(s1.length:Int))) (some (Sum.inr (List.drop (0:Nat) (List.take k.toNat s1),o01,o11))))
    (cndO (decide (v12=(3:Int)))
     (bindO (F51 ((256:Int),o01,o11)) fun (y6,y7,y8) =>
     grdO (decide ((0:Int)≤IntKind.wrap .u8 y6) && decide (IntKind.wrap .u8 y6≤(255:Int))) (grdO (decide (List.length s1+(1:Nat)≤(9223372036854775807:Nat))) (some (Sum.inr (s1++[UInt8.ofNat (Int.toNat (IntKind.wrap .u8 y6))],y7,y8)))))
     (some (Sum.inl (s1,o01,o11)))))) fun (s1,o01,o11) =>
 some ((s1,o01,o11))
theorem r54 (x:List UInt8×List UInt8×Int):funT T tb56 tp54 49 tv54 (bodyOf Tryz.f54) ti54 to54 x=F54 x:=by kernel_rfl
def te54:TEnt:=⟨54,false,[(0,[])],ti54,to54.Den,F54,resF T [.tmp 4] 49 to54 [100000]⟩
def tb54:Nat→Option TEnt:=insT 54 te54 tb56
theorem ok54:TbOk Tryz.prog tb54:=TbOk.ins ok56 (fun_ok ok56 layOk mixed false _ ti54 to54 [100000] tp54 tv54 Tryz.func54 rfl Tryz.results54 Tryz.ntmps54 (by kernel_rfl) (by kernel_rfl) Tryz.call54 F54 fun x _ h=>(r54 x).trans h)
abbrev ti120:SPat:=⟨[(0,.ptr 100000 0),(1,.agg (pl [.ar 100001,.i .i64,.i .i64,.i .i64,.ar 100002,.ar 100003,.ar 100004]))],[.box 100000 (pl [.sl .byte,.i .i64]),.arr 100001 tg27 true,.arr 100002 (.int .i64) true,.arr 100003 tg89 true,.arr 100004 tg53 true]⟩
abbrev to120:SPat:=⟨[(4,.ptr 4 0)],[.box 4 (pl [.ar 100001,.i .i64,.i .i64,.i .i64,.ar 100002,.ar 100003,.ar 100004]),.box 100000 (pl [.sl .byte,.i .i64]),.arr 100001 tg27 true,.arr 100002 (.int .i64) true,.arr 100003 tg89 true,.arr 100004 tg53 true]⟩
abbrev ts120_1000003:SPat:=⟨[(0,.ptr 100000 0),(3,.ptr 3 0),(4,.ptr 4 0)],[.box 3 (pl [.ar 100001,.i .i64,.i .i64,.i .i64,.ar 100002,.ar 100003,.ar 100004]),.box 4 (pl plD),.box 100000 (pl [.sl .byte,.i .i64]),.arr 100001 tg27 true,.arr 100002 (.int .i64) true,.arr 100003 tg89 true,.arr 100004 tg53 true]⟩
abbrev ts120_2000000:SPat:=⟨[(3,.ptr 3 0),(4,.ptr 4 0)],[.box 3 (pl [.ar 100001,.i .i64,.i .i64,.i .i64,.ar 100002,.ar 100003,.ar 100004]),.box 4 (pl plD),.box 100000 (pl [.sl .byte,.i .i64]),.arr 100001 tg27 true,.arr 100002 (.int .i64) true,.arr 100003 tg89 true,.arr 100004 tg53 true]⟩
def tv120:Nat→Option SPat:=fun k=>bif k == 1000003 then some ts120_1000003 else bif k == 2000000 then some ts120_2000000 else none
def tp120:Nat→List Nat×Plan:=fun id=>bif id == 3 then ([0,1,2,3,4,5],(.br 6 [5,4,3,2] [0,1] [7] (.br 8 [7,6,5,4,3,2,1,0] [] [] .fin .fin) .fin)) else bif id == 13 then ([0,1,2,3,4,5,7,9],(.br 6 [5] [0,1,2,3,4,7,9] [] (.br 8 [7,6,5] [0,1,2,3,4,9] [] (.br 10 [9,8,7,6,5] [0,1,2,3,4] [11] (.br 12 [11,10,9,8,7,6,5] [0,1,2,3,4] [13] (.br 14 [13,12,11,10,9,8,7,6,5] [0,1,2,3,4] [] (.br 15 [14,13,12,11,10,9,8,7,6,5,4,3,2,1] [0] [16,17] (.br 18 [17,16,15,14,13,12,11,10,9,8,7,6,5,4,3,2,1,0] [] [] .fin .fin) .fin) .fin) .fin) .fin) .fin) .fin)) else bif id == 15 then ([0,1,2,3,4,5,7,9,11],(.br 6 [5] [0,1,2,3,4,7,9,11] [] (.br 8 [7,6,5] [0,1,2,3,4,9,11] [] (.br 10 [9,8,7,6,5] [0,1,2,3,4,11] [] (.br 12 [11,10,9,8,7,6,5] [0,1,2,3,4] [13] (.br 14 [13,12,11,10,9,8,7,6,5] [0,1,2,3,4] [] (.br 15 [14,13,12,11,10,9,8,7,6,5,4,3,2,1] [0] [16,17] (.br 18 [17,16,15,14,13,12,11,10,9,8,7,6,5,4,3,2,1,0] [] [] .fin .fin) .fin) .fin) .fin) .fin) .fin) .fin)) else ([],.fin)
def F120:(Int×Int×Int)×(List UInt8×Int)×List Cst×List Int×List (Int×Int×Int)×List Mth→Option ((Int×Int×Int)×(List UInt8×Int)×List Cst×List Int×List (Int×Int×Int)×List Mth):=fun ((v11,v12,v13),(o0,o1),l100001,l100002,l100003,l100004) =>
 bindE (Y:=(Int×Int×Int)×(Cls)×(List UInt8×Int)×List Cst×List Int×List (Int×Int×Int)×List Mth) (cndO (decide ((l100004.length:Int)=(0:Int)))
   (some (Sum.inr ((v11,v12,v13),(o0,o1),l100001,l100002,l100003,l100004)))
   (bindO (F51 ((3:Int),o0,o1)) fun (y,y1,y2) =>
   cndO (decide ((0:Int)<y))
    (some (Sum.inr ((v11,v12,v13),(y1,y2),l100001,l100002,l100003,l100004)))
    (some (Sum.inl ((v11,v12,v13),([],(0:Int),(0:Int),(0:Int),[],[],[]),(y1,y2),l100001,l100002,l100003,l100004))))) fun ((o11,o2,o3),(o01,o12,o21,o31,o4,o5,o6),(o02,o13),l1000011,l1000021,l1000031,l1000041) =>
 bindO (F51 ((l1000041.length:Int),o02,o13)) fun (y,y1,y2) =>
 grdO (decide ((0:Int)≤y) && decide (y<(l1000041.length:Int))) (bindO (F51 ((7:Int),y1,y2)) fun (y3,y4,y5) =>
 bindE (Y:=(Int×Int×Int)×(Cls)×(List UInt8×Int)×List Cst×List Int×List (Int×Int×Int)×List Mth) (cndO (decide (y3=(0:Int)))
   (atO (l1000041) y.toNat fun x=>bindO (F54 (x.2.2.2.2.2.1,y4,y5)) fun (y6,y7,y8) =>
   atO (l1000041) y.toNat fun x1=>some (Sum.inl ((o11,o2,o3),(o01,o12,o21,o31,o4,o5,o6),(y7,y8),l1000011,l1000021,l1000031,List.set l1000041 y.toNat (x1.1,x1.2.1,x1.2.2.1,x1.2.2.2.1,x1.2.2.2.2.1,y6,x1.2.2.2.2.2.2.1,x1.2.2.2.2.2.2.2))))
   (cndO (decide (y3=(1:Int)))
    (bindO (F105 ([(0:Int),(1:Int),(8:Int),(9:Int),(256:Int)],y4,y5)) fun (y6,y7,y8) =>
    atO (l1000041) y.toNat fun x=>some (Sum.inl ((o11,o2,o3),(o01,o12,o21,o31,o4,o5,o6),(y7,y8),l1000011,l1000021,l1000031,List.set l1000041 y.toNat (x.1,x.2.1,x.2.2.1,y6,x.2.2.2.2.1,x.2.2.2.2.2.1,x.2.2.2.2.2.2.1,x.2.2.2.2.2.2.2))))
    (cndO (decide (y3=(2:Int)))
     (bindO (F105 ([(0:Int),(1:Int),(8:Int),(9:Int),(256:Int)],y4,y5)) fun (y6,y7,y8) =>
     atO (l1000041) y.toNat fun x=>some (Sum.inl ((o11,o2,o3),(o01,o12,o21,o31,o4,o5,o6),(y7,y8),l1000011,l1000021,l1000031,List.set l1000041 y.toNat (x.1,x.2.1,x.2.2.1,x.2.2.2.1,y6,x.2.2.2.2.2.1,x.2.2.2.2.2.2.1,x.2.2.2.2.2.2.2))))
     (cndO (decide (y3=(3:Int)))
      (atO (l1000041) y.toNat fun x=>grdO (decide (Int.toNat y=Int.toNat y) && decide (Int.toNat y<List.length l1000041)) (grdO (decide (Int.toNat y=Int.toNat y) && decide (Int.toNat y<List.length l1000041)) (grdO (decide (Int.toNat y=Int.toNat y) && decide (Int.toNat y<List.length l1000041)) (bindO (F51 ((8:Int),y4,y5)) fun (y6,y7,y8) =>
      seqU (seqU (grdO (Int.toNat y == Int.toNat y && true) (some (()))) (seqU (grdO (Int.toNat y == Int.toNat y && true) (some (()))) (seqU (grdO (Int.toNat y == Int.toNat y && true) (some (()))) (seqU (grdO (Int.toNat y == Int.toNat y && true) (some (()))) (seqU (grdO (decide (Int.toNat y=Int.toNat y) && decide (Int.toNat y<List.length l1000041)) (grdO (decide (Int.toNat y=Int.toNat y) && decide (Int.toNat y<List.length l1000041)) (grdO (decide (Int.toNat y=Int.toNat y) && decide (Int.toNat y<List.length l1000041)) (some (()))))) (some (()))))))) (bindO (F51 ((5:Int),y7,y8)) fun (y9,y10,y11) =>
      seqU (seqU (grdO (Int.toNat y == Int.toNat y && true) (some (()))) (seqU (grdO (Int.toNat y == Int.toNat y && true) (some (()))) (seqU (grdO (Int.toNat y == Int.toNat y && true) (some (()))) (seqU (grdO (Int.toNat y == Int.toNat y && true) (some (()))) (seqU (grdO (decide (Int.toNat y=Int.toNat y) && decide (Int.toNat y<List.length l1000041)) (grdO (decide (Int.toNat y=Int.toNat y) && decide (Int.toNat y<List.length l1000041)) (grdO (decide (Int.toNat y=Int.toNat y) && decide (Int.toNat y<List.length l1000041)) (some (()))))) (some (()))))))) (bindO (F51 ((3:Int),y10,y11)) fun (y12,y13,y14) =>
      seqU (seqU (grdO (Int.toNat y == Int.toNat y && true) (some (()))) (seqU (grdO (Int.toNat y == Int.toNat y && true) (some (()))) (seqU (grdO (Int.toNat y == Int.toNat y && true) (some (()))) (seqU (grdO (Int.toNat y == Int.toNat y && true) (some (()))) (seqU (grdO (decide (Int.toNat y=Int.toNat y) && decide (Int.toNat y<List.length l1000041)) (grdO (decide (Int.toNat y=Int.toNat y) && decide (Int.toNat y<List.length l1000041)) (grdO (decide (Int.toNat y=Int.toNat y) && decide (Int.toNat y<List.length l1000041)) (some (()))))) (some (()))))))) (seqU (seqU (grdO (Int.toNat y == Int.toNat y && true) (some (()))) (seqU (grdO (Int.toNat y == Int.toNat y && true) (some (()))) (seqU (grdO (Int.toNat y == Int.toNat y && true) (some (()))) (seqU (grdO (Int.toNat y == Int.toNat y && true) (some (()))) (seqU (grdO (decide (Int.toNat y=Int.toNat y) && decide (Int.toNat y<List.length l1000041)) (grdO (decide (Int.toNat y=Int.toNat y) && decide (Int.toNat y<List.length l1000041)) (grdO (decide (Int.toNat y=Int.toNat y) && decide (Int.toNat y<List.length l1000041)) (some (()))))) (some (()))))))) (seqU (seqU (grdO (Int.toNat y == Int.toNat y && true) (some (()))) (seqU (grdO (Int.toNat y == Int.toNat y && true) (some (()))) (seqU (grdO (Int.toNat y == Int.toNat y && true) (some (()))) (seqU (grdO (Int.toNat y == Int.toNat y && true) (some (()))) (seqU (grdO (decide (Int.toNat y=Int.toNat y) && decide (Int.toNat y<List.length l1000041)) (grdO (decide (Int.toNat y=Int.toNat y) && decide (Int.toNat y<List.length l1000041)) (grdO (decide (Int.toNat y=Int.toNat y) && decide (Int.toNat y<List.length l1000041)) (some (()))))) (some (()))))))) (grdO (decide (List.length (x.2.2.2.2.2.2.2)+(1:Nat)≤(9223372036854775807:Nat)) && decide ((List.length (x.2.2.2.2.2.2.2)+(1:Nat))*(56:Nat)≤(140737488355328:Nat))) (seqU (seqU (grdO (Int.toNat y == Int.toNat y && true) (some (()))) (some (()))) (grdO (decide (Int.toNat y=Int.toNat y) && decide (Int.toNat y<List.length l1000041)) (grdO (decide (Int.toNat y<List.length l1000041)) (some (Sum.inl ((o11,o2,o3),(o01,o12,o21,o31,o4,o5,o6),(y13,y14),l1000011,l1000021,l1000031,List.set l1000041 y.toNat (x.1,x.2.1,x.2.2.1,x.2.2.2.1,x.2.2.2.2.1,x.2.2.2.2.2.1,x.2.2.2.2.2.2.1,x.2.2.2.2.2.2.2++[(y6,[(y9,y12)],[])]))))))))))))))))
      (cndO (decide (y3=(4:Int)))
       (atO (l1000041) y.toNat fun x=>grdO (decide (Int.toNat y=Int.toNat y) && decide (Int.toNat y<List.length l1000041)) (grdO (decide (Int.toNat y=Int.toNat y) && decide (Int.toNat y<List.length l1000041)) (grdO (decide (Int.toNat y=Int.toNat y) && decide (Int.toNat y<List.length l1000041)) (bindO (F51 ((4:Int),y4,y5)) fun (y6,y7,y8) =>
       seqU (seqU (grdO (Int.toNat y == Int.toNat y && true) (some (()))) (seqU (grdO (Int.toNat y == Int.toNat y && true) (some (()))) (seqU (grdO (Int.toNat y == Int.toNat y && true) (some (()))) (seqU (grdO (Int.toNat y == Int.toNat y && true) (some (()))) (seqU (grdO (decide (Int.toNat y=Int.toNat y) && decide (Int.toNat y<List.length l1000041)) (grdO (decide (Int.toNat y=Int.toNat y) && decide (Int.toNat y<List.length l1000041)) (grdO (decide (Int.toNat y=Int.toNat y) && decide (Int.toNat y<List.length l1000041)) (some (()))))) (some (()))))))) (bindO (F51 ((6:Int),y7,y8)) fun (y9,y10,y11) =>
       seqU (seqU (grdO (Int.toNat y == Int.toNat y && true) (some (()))) (seqU (grdO (Int.toNat y == Int.toNat y && true) (some (()))) (seqU (grdO (Int.toNat y == Int.toNat y && true) (some (()))) (seqU (grdO (Int.toNat y == Int.toNat y && true) (some (()))) (seqU (grdO (decide (Int.toNat y=Int.toNat y) && decide (Int.toNat y<List.length l1000041)) (grdO (decide (Int.toNat y=Int.toNat y) && decide (Int.toNat y<List.length l1000041)) (grdO (decide (Int.toNat y=Int.toNat y) && decide (Int.toNat y<List.length l1000041)) (some (()))))) (some (()))))))) (bindO (F51 ((6:Int),y10,y11)) fun (y12,y13,y14) =>
       seqU (seqU (grdO (Int.toNat y == Int.toNat y && true) (some (()))) (seqU (grdO (Int.toNat y == Int.toNat y && true) (some (()))) (seqU (grdO (Int.toNat y == Int.toNat y && true) (some (()))) (seqU (grdO (Int.toNat y == Int.toNat y && true) (some (()))) (seqU (grdO (decide (Int.toNat y=Int.toNat y) && decide (Int.toNat y<List.length l1000041)) (grdO (decide (Int.toNat y=Int.toNat y) && decide (Int.toNat y<List.length l1000041)) (grdO (decide (Int.toNat y=Int.toNat y) && decide (Int.toNat y<List.length l1000041)) (some (()))))) (some (()))))))) (bindO (F51 ((3:Int),y13,y14)) fun (y15,y16,y17) =>
       seqU (seqU (grdO (Int.toNat y == Int.toNat y && true) (some (()))) (seqU (grdO (Int.toNat y == Int.toNat y && true) (some (()))) (seqU (grdO (Int.toNat y == Int.toNat y && true) (some (()))) (seqU (grdO (Int.toNat y == Int.toNat y && true) (some (()))) (seqU (grdO (decide (Int.toNat y=Int.toNat y) && decide (Int.toNat y<List.length l1000041)) (grdO (decide (Int.toNat y=Int.toNat y) && decide (Int.toNat y<List.length l1000041)) (grdO (decide (Int.toNat y=Int.toNat y) && decide (Int.toNat y<List.length l1000041)) (some (()))))) (some (()))))))) (seqU (seqU (grdO (Int.toNat y == Int.toNat y && true) (some (()))) (seqU (grdO (Int.toNat y == Int.toNat y && true) (some (()))) (seqU (grdO (Int.toNat y == Int.toNat y && true) (some (()))) (seqU (grdO (Int.toNat y == Int.toNat y && true) (some (()))) (seqU (grdO (decide (Int.toNat y=Int.toNat y) && decide (Int.toNat y<List.length l1000041)) (grdO (decide (Int.toNat y=Int.toNat y) && decide (Int.toNat y<List.length l1000041)) (grdO (decide (Int.toNat y=Int.toNat y) && decide (Int.toNat y<List.length l1000041)) (some (()))))) (some (()))))))) (grdO (decide (List.length (x.2.2.2.2.2.2.1)+(1:Nat)≤(9223372036854775807:Nat)) && decide ((List.length (x.2.2.2.2.2.2.1)+(1:Nat))*(32:Nat)≤(140737488355328:Nat))) (seqU (seqU (grdO (Int.toNat y == Int.toNat y && true) (some (()))) (some (()))) (grdO (decide (Int.toNat y=Int.toNat y) && decide (Int.toNat y<List.length l1000041)) (grdO (decide (Int.toNat y<List.length l1000041)) (some (Sum.inl ((o11,o2,o3),(o01,o12,o21,o31,o4,o5,o6),(y16,y17),l1000011,l1000021,l1000031,List.set l1000041 y.toNat (x.1,x.2.1,x.2.2.1,x.2.2.2.1,x.2.2.2.2.1,x.2.2.2.2.2.1,x.2.2.2.2.2.2.1++[(y6,y9,y12,y15)],x.2.2.2.2.2.2.2))))))))))))))))
       (cndO (decide (y3=(5:Int)))
        (bindO (F51 ((16:Int),y4,y5)) fun (y6,y7,y8) =>
        atO (l1000041) y.toNat fun x=>some (Sum.inl ((o11,o2,o3),(o01,o12,o21,o31,o4,o5,o6),(y7,y8),l1000011,l1000021,l1000031,List.set l1000041 y.toNat (y6,x.2.1,x.2.2.1,x.2.2.2.1,x.2.2.2.2.1,x.2.2.2.2.2.1,x.2.2.2.2.2.2.1,x.2.2.2.2.2.2.2))))
        (bindO (F51 ((l1000011.length:Int),y4,y5)) fun (y6,y7,y8) =>
        atO (l1000041) y.toNat fun x=>some (Sum.inl ((o11,o2,o3),(o01,o12,o21,o31,o4,o5,o6),(y7,y8),l1000011,l1000021,l1000031,List.set l1000041 y.toNat (x.1,x.2.1,IntKind.wrap .i64 ((1:Int)+y6),x.2.2.2.1,x.2.2.2.2.1,x.2.2.2.2.2.1,x.2.2.2.2.2.2.1,x.2.2.2.2.2.2.2)))))))))) fun ((o14,o22,o32),(o03,o15,o23,o33,o41,o51,o61),(o04,o16),l1000012,l1000022,l1000032,l1000042) =>
 some (((o14,o22,o32),(o04,o16),l1000012,l1000022,l1000032,l1000042)))
theorem r120 (x:(Int×Int×Int)×(List UInt8×Int)×List Cst×List Int×List (Int×Int×Int)×List Mth):funT T tb54 tp120 110 tv120 (bodyOf Tryz.f120) ti120 to120 x=F120 x:=by kernel_rfl
def te120:TEnt:=⟨120,false,[(0,[]),(1,[0]),(1,[4]),(1,[5]),(1,[6])],ti120,to120.Den,F120,resF T [.cell 4 34] 110 to120 [100000,100001,100002,100003,100004]⟩
def tb120:Nat→Option TEnt:=insT 120 te120 tb54
theorem ok120:TbOk Tryz.prog tb120:=TbOk.ins ok54 (fun_ok ok54 layOk mixed false _ ti120 to120 [100000,100001,100002,100003,100004] tp120 tv120 Tryz.func120 rfl Tryz.results120 Tryz.ntmps120 (by kernel_rfl) (by kernel_rfl) Tryz.call120 F120 fun x _ h=>(r120 x).trans h)
abbrev ti50:SPat:=⟨[(0,.ptr 100000 0)],[.box 100000 (pl [.sl .byte,.i .i64])]⟩
abbrev to50:SPat:=⟨[(2,.ptr 2 0)],[.box 2 (pl plD),.box 100000 (pl [.sl .byte,.i .i64])]⟩
abbrev ts50_2000000:SPat:=⟨[(0,.ptr 100000 0),(2,.ptr 2 0),(3,.ptr 3 0)],[.box 2 (pl plD),.box 3 (pl plD),.box 100000 (pl [.sl .byte,.i .i64])]⟩
def tv50:Nat→Option SPat:=fun k=>bif k == 2000000 then some ts50_2000000 else none
def tp50:Nat→List Nat×Plan:=fun id=>bif id == 7 then ([0,1,2,3,4,5,6,7,8,9,10],(.br 11 [10,9,8,7,6,5,4] [0,1,2,3] [] (.br 12 [11,10,9,8,7,6,5,4,3] [0,1,2] [13,14] (.br 15 [14,13,12,11,10,9,8,7,6,5,4,3,2,1,0] [] [] .fin .fin) .fin) .fin)) else bif id == 9 then ([0,1,2,3],(.br 4 [3] [0,1,2] [5,6] (.br 7 [6,5,4,3,2,1,0] [] [] .fin .fin) .fin)) else bif id == 11 then ([0,1,2,3],(.br 4 [] [0,1,2,3] [] (.br 5 [4,3] [0,1,2] [6,7] (.br 8 [7,6,5,4,3,2,1,0] [] [] .fin .fin) .fin) .fin)) else bif id == 17 then ([0,1,2,3,4,5,6],(.br 7 [6,5,4,3] [0,1,2] [] (.br 8 [7,6,5,4,3,2] [0,1] [] (.br 9 [8,7,6,5,4,3,2] [0,1] [] (.br 10 [9,8,7,6,5,4,3,2,1,0] [] [11] (.br 12 [11,10,9,8,7,6,5,4,3,2,1,0] [] [] .fin .fin) .fin) .fin) .fin) .fin)) else bif id == 19 then ([0,1,2,4,7],(.br 3 [2] [0,1,4,7] [] (.br 5 [] [0,1,2,4,7] [] (.br 6 [5,4,3,2] [0,1,7] [] (.br 8 [] [0,1,2,4,7] [] (.br 9 [8,7,6,5,4,3,2] [0,1] [10] (.br 11 [10,9,8,7,6,5,4,3,2] [0,1] [] (.br 12 [11,10,9,8,7,6,5,4,3,2,1,0] [] [13] (.br 14 [13,12,11,10,9,8,7,6,5,4,3,2,1,0] [] [] .fin .fin) .fin) .fin) .fin) .fin) (.br 8 [] [0,1,2,4,7] [] (.br 6 [5,4,3,2] [0,1,7] [] (.br 9 [8,7,6,5,4,3,2] [0,1] [10] (.br 11 [10,9,8,7,6,5,4,3,2] [0,1] [] (.br 12 [11,10,9,8,7,6,5,4,3,2,1,0] [] [13] (.br 14 [13,12,11,10,9,8,7,6,5,4,3,2,1,0] [] [] .fin .fin) .fin) .fin) .fin) .fin) .fin)) (.br 8 [] [0,1,2,4,7] [] (.br 5 [] [0,1,2,4,7] [] (.br 6 [5,4,3,2] [0,1,7] [] (.br 9 [8,7,6,5,4,3,2] [0,1] [10] (.br 11 [10,9,8,7,6,5,4,3,2] [0,1] [] (.br 12 [11,10,9,8,7,6,5,4,3,2,1,0] [] [13] (.br 14 [13,12,11,10,9,8,7,6,5,4,3,2,1,0] [] [] .fin .fin) .fin) .fin) .fin) .fin) .fin) .fin)) (.br 5 [] [0,1,2,4,7] [] (.br 3 [2] [0,1,4,7] [] (.br 6 [5,4,3,2] [0,1,7] [] (.br 8 [] [0,1,2,4,7] [] (.br 9 [8,7,6,5,4,3,2] [0,1] [10] (.br 11 [10,9,8,7,6,5,4,3,2] [0,1] [] (.br 12 [11,10,9,8,7,6,5,4,3,2,1,0] [] [13] (.br 14 [13,12,11,10,9,8,7,6,5,4,3,2,1,0] [] [] .fin .fin) .fin) .fin) .fin) .fin) (.br 8 [] [0,1,2,4,7] [] (.br 6 [5,4,3,2] [0,1,7] [] (.br 9 [8,7,6,5,4,3,2] [0,1] [10] (.br 11 [10,9,8,7,6,5,4,3,2] [0,1] [] (.br 12 [11,10,9,8,7,6,5,4,3,2,1,0] [] [13] (.br 14 [13,12,11,10,9,8,7,6,5,4,3,2,1,0] [] [] .fin .fin) .fin) .fin) .fin) .fin) .fin)) (.br 8 [] [0,1,2,4,7] [] (.br 3 [2] [0,1,4,7] [] (.br 6 [5,4,3,2] [0,1,7] [] (.br 9 [8,7,6,5,4,3,2] [0,1] [10] (.br 11 [10,9,8,7,6,5,4,3,2] [0,1] [] (.br 12 [11,10,9,8,7,6,5,4,3,2,1,0] [] [13] (.br 14 [13,12,11,10,9,8,7,6,5,4,3,2,1,0] [] [] .fin .fin) .fin) .fin) .fin) .fin) .fin) .fin)) (.br 8 [] [0,1,2,4,7] [] (.br 3 [2] [0,1,4,7] [] (.br 5 [] [0,1,2,4,7] [] (.br 6 [5,4,3,2] [0,1,7] [] (.br 9 [8,7,6,5,4,3,2] [0,1] [10] (.br 11 [10,9,8,7,6,5,4,3,2] [0,1] [] (.br 12 [11,10,9,8,7,6,5,4,3,2,1,0] [] [13] (.br 14 [13,12,11,10,9,8,7,6,5,4,3,2,1,0] [] [] .fin .fin) .fin) .fin) .fin) .fin) .fin) (.br 5 [] [0,1,2,4,7] [] (.br 3 [2] [0,1,4,7] [] (.br 6 [5,4,3,2] [0,1,7] [] (.br 9 [8,7,6,5,4,3,2] [0,1] [10] (.br 11 [10,9,8,7,6,5,4,3,2] [0,1] [] (.br 12 [11,10,9,8,7,6,5,4,3,2,1,0] [] [13] (.br 14 [13,12,11,10,9,8,7,6,5,4,3,2,1,0] [] [] .fin .fin) .fin) .fin) .fin) .fin) .fin) .fin)) .fin)))) else bif id == 21 then ([0,1,2,4,6,9,11],(.br 3 [2] [0,1,4,6,9,11] [] (.br 5 [4,3,2] [0,1,6,9,11] [] (.br 7 [] [0,1,2,4,6,9,11] [] (.br 8 [7,6,5,4,3,2] [0,1,9,11] [] (.br 10 [9,8,7,6,5,4,3,2] [0,1,11] [] (.br 12 [11,10,9,8,7,6,5,4,3,2] [0,1] [13] (.br 14 [13,12,11,10,9,8,7,6,5,4,3,2] [0,1] [] (.br 15 [14,13,12,11,10,9,8,7,6,5,4,3,2,1,0] [] [16] (.br 17 [16,15,14,13,12,11,10,9,8,7,6,5,4,3,2,1,0] [] [] .fin .fin) .fin) .fin) .fin) .fin) .fin) .fin) (.br 7 [] [0,1,2,4,6,9,11] [] (.br 5 [4,3,2] [0,1,6,9,11] [] (.br 8 [7,6,5,4,3,2] [0,1,9,11] [] (.br 10 [9,8,7,6,5,4,3,2] [0,1,11] [] (.br 12 [11,10,9,8,7,6,5,4,3,2] [0,1] [13] (.br 14 [13,12,11,10,9,8,7,6,5,4,3,2] [0,1] [] (.br 15 [14,13,12,11,10,9,8,7,6,5,4,3,2,1,0] [] [16] (.br 17 [16,15,14,13,12,11,10,9,8,7,6,5,4,3,2,1,0] [] [] .fin .fin) .fin) .fin) .fin) .fin) .fin) .fin) .fin)) (.br 7 [] [0,1,2,4,6,9,11] [] (.br 3 [2] [0,1,4,6,9,11] [] (.br 5 [4,3,2] [0,1,6,9,11] [] (.br 8 [7,6,5,4,3,2] [0,1,9,11] [] (.br 10 [9,8,7,6,5,4,3,2] [0,1,11] [] (.br 12 [11,10,9,8,7,6,5,4,3,2] [0,1] [13] (.br 14 [13,12,11,10,9,8,7,6,5,4,3,2] [0,1] [] (.br 15 [14,13,12,11,10,9,8,7,6,5,4,3,2,1,0] [] [16] (.br 17 [16,15,14,13,12,11,10,9,8,7,6,5,4,3,2,1,0] [] [] .fin .fin) .fin) .fin) .fin) .fin) .fin) .fin) .fin) .fin))) else ([],.fin)
def F50:List UInt8×Int→Option ((Cls)×List UInt8×Int):=fun (o0,o1) =>
 bindO (F56 (o0,o1)) fun ((y,y1,y2,y3,y4,y5,x),x1,x2) =>
 cndO (decide ((y.length:Int)=(0:Int)))
  (some (((y,y1,y2,y3,y4,y5,x),x1,x2)))
  (bindO (F51 ((y.length:Int),x1,x2)) fun (y6,y7,y8) =>
  bindO (F51 ((16:Int),y7,y8)) fun (y9,y10,y11) =>
  bindE (Y:=(Cls)×(Cls)×List UInt8×Int) (cndO (decide (y9=(0:Int)))
    (seqU (seqU (grdO (decide (y6=y6)) (some (()))) (some (()))) (bindO (F105 ([(0:Int),(1:Int),(y.length:Int),IntKind.wrap .i64 ((y.length:Int)+(1:Int)),(65536:Int),(-1:Int)],y10,y11)) fun (y12,y13,y14) =>
    seqU (seqU (grdO (decide (y6=y6)) (some (()))) (some (()))) (grdO (decide ((0:Int)≤y6) && decide (y6<(y.length:Int))) (atO (y) y6.toNat fun x3=>some (Sum.inl (([],(0:Int),(0:Int),(0:Int),[],[],[]),(List.set y y6.toNat (x3.1,x3.2.1,y12,x3.2.2.2),y1,y2,y3,y4,y5,x),y13,y14))))))
    (cndO (decide (y9=(1:Int)))
     (bindO (F51 ((8:Int),y10,y11)) fun (y12,y13,y14) =>
     seqU (seqU (grdO (decide (y6=y6)) (some (()))) (some (()))) (grdO (decide ((0:Int)≤y6) && decide (y6<(y.length:Int))) (atO (y) y6.toNat fun x3=>some (Sum.inl (([],(0:Int),(0:Int),(0:Int),[],[],[]),(List.set y y6.toNat (y12,x3.2.1,x3.2.2.1,x3.2.2.2),y1,y2,y3,y4,y5,x),y13,y14)))))
     (cndO (decide (y9=(2:Int)))
      (seqU (seqU (grdO (decide (y6=y6)) (some (()))) (some (()))) (bindO (F119 ([[],[(65:UInt8)],[(73:UInt8)],[(40:UInt8),41,86],[(49:UInt8)],[(76:UInt8),65,59]],y10,y11)) fun (y12,y13,y14) =>
      seqU (seqU (grdO (decide (y6=y6)) (some (()))) (some (()))) (grdO (decide ((0:Int)≤y6) && decide (y6<(y.length:Int))) (atO (y) y6.toNat fun x3=>some (Sum.inl (([],(0:Int),(0:Int),(0:Int),[],[],[]),(List.set y y6.toNat (x3.1,y12,x3.2.2.1,x3.2.2.2),y1,y2,y3,y4,y5,x),y13,y14))))))
      (cndO (decide (y9=(3:Int)))
       (bindO (F51 ((9:Int),y10,y11)) fun (y12,y13,y14) =>
       some (Sum.inl (([],(0:Int),(0:Int),(0:Int),[],[],[]),(y,y12,y2,y3,y4,y5,x),y13,y14)))
       (cndO (decide (y9=(4:Int)))
        (bindO (F105 ([(0:Int),y2,(1:Int),(2:Int)],y10,y11)) fun (y12,y13,y14) =>
        some (Sum.inl (([],(0:Int),(0:Int),(0:Int),[],[],[]),(y,y1,y2,y12,y4,y5,x),y13,y14)))
        (cndO (decide (y9=(5:Int)))
         (bindO (F105 ([y2,y3,(0:Int),(1:Int)],y10,y11)) fun (y12,y13,y14) =>
         grdO (decide (List.length y4+(1:Nat)≤(9223372036854775807:Nat)) && decide ((List.length y4+(1:Nat))*(8:Nat)≤(140737488355328:Nat))) (some (Sum.inl (([],(0:Int),(0:Int),(0:Int),[],[],[]),(y,y1,y2,y3,y4++[y12],y5,x),y13,y14))))
         (cndO (decide (y9=(6:Int)))
          (bothO
           (bindO (F51 ((5:Int),y10,y11)) fun (y12,y13,y14) =>
           bothO
            (bothO
             (bindO (F105 ([(1:Int),(2:Int),(5:Int)],y13,y14)) fun (y15,y16,y17) =>
             bindO (F105 ([(1:Int),(6:Int),(8:Int)],y16,y17)) fun (y18,y19,y20) =>
             grdO (decide (List.length y5+(1:Nat)≤(9223372036854775807:Nat)) && decide ((List.length y5+(1:Nat))*(24:Nat)≤(140737488355328:Nat))) (some (Sum.inl (([],(0:Int),(0:Int),(0:Int),[],[],[]),(y,y1,y2,y3,y4,y5++[(y12,y15,y18)],x),y19,y20))))
             (bindO (F105 ([(1:Int),(2:Int),(5:Int)],y13,y14)) fun (y15,y16,y17) =>
             bindO (F105 ([(1:Int),(6:Int),(8:Int)],y16,y17)) fun (y18,y19,y20) =>
             grdO (decide (List.length y5+(1:Nat)≤(9223372036854775807:Nat)) && decide ((List.length y5+(1:Nat))*(24:Nat)≤(140737488355328:Nat))) (some (Sum.inl (([],(0:Int),(0:Int),(0:Int),[],[],[]),(y,y1,y2,y3,y4,y5++[(y12,y15,y18)],x),y19,y20)))))
            (bindO (F105 ([(1:Int),(2:Int),(5:Int)],y13,y14)) fun (y15,y16,y17) =>
            bindO (F105 ([(1:Int),(6:Int),(8:Int)],y16,y17)) fun (y18,y19,y20) =>
            grdO (decide (List.length y5+(1:Nat)≤(9223372036854775807:Nat)) && decide ((List.length y5+(1:Nat))*(24:Nat)≤(140737488355328:Nat))) (some (Sum.inl (([],(0:Int),(0:Int),(0:Int),[],[],[]),(y,y1,y2,y3,y4,y5++[(y12,y15,y18)],x),y19,y20)))))
           (bothO
            (bothO
             (bindO (F51 ((5:Int),y10,y11)) fun (y12,y13,y14) =>
             bothO
              (bindO (F105 ([(1:Int),(2:Int),(5:Int)],y13,y14)) fun (y15,y16,y17) =>
              bindO (F105 ([(1:Int),(6:Int),(8:Int)],y16,y17)) fun (y18,y19,y20) =>
              grdO (decide (List.length y5+(1:Nat)≤(9223372036854775807:Nat)) && decide ((List.length y5+(1:Nat))*(24:Nat)≤(140737488355328:Nat))) (some (Sum.inl (([],(0:Int),(0:Int),(0:Int),[],[],[]),(y,y1,y2,y3,y4,y5++[(y12,y15,y18)],x),y19,y20))))
              (bindO (F105 ([(1:Int),(2:Int),(5:Int)],y13,y14)) fun (y15,y16,y17) =>
              bindO (F105 ([(1:Int),(6:Int),(8:Int)],y16,y17)) fun (y18,y19,y20) =>
              grdO (decide (List.length y5+(1:Nat)≤(9223372036854775807:Nat)) && decide ((List.length y5+(1:Nat))*(24:Nat)≤(140737488355328:Nat))) (some (Sum.inl (([],(0:Int),(0:Int),(0:Int),[],[],[]),(y,y1,y2,y3,y4,y5++[(y12,y15,y18)],x),y19,y20)))))
             (bindO (F51 ((5:Int),y10,y11)) fun (y12,y13,y14) =>
             bindO (F105 ([(1:Int),(2:Int),(5:Int)],y13,y14)) fun (y15,y16,y17) =>
             bindO (F105 ([(1:Int),(6:Int),(8:Int)],y16,y17)) fun (y18,y19,y20) =>
             grdO (decide (List.length y5+(1:Nat)≤(9223372036854775807:Nat)) && decide ((List.length y5+(1:Nat))*(24:Nat)≤(140737488355328:Nat))) (some (Sum.inl (([],(0:Int),(0:Int),(0:Int),[],[],[]),(y,y1,y2,y3,y4,y5++[(y12,y15,y18)],x),y19,y20)))))
            (bothO
             (bindO (F51 ((5:Int),y10,y11)) fun (y12,y13,y14) =>
             bindO (F105 ([(1:Int),(2:Int),(5:Int)],y13,y14)) fun (y15,y16,y17) =>
             bindO (F105 ([(1:Int),(6:Int),(8:Int)],y16,y17)) fun (y18,y19,y20) =>
             grdO (decide (List.length y5+(1:Nat)≤(9223372036854775807:Nat)) && decide ((List.length y5+(1:Nat))*(24:Nat)≤(140737488355328:Nat))) (some (Sum.inl (([],(0:Int),(0:Int),(0:Int),[],[],[]),(y,y1,y2,y3,y4,y5++[(y12,y15,y18)],x),y19,y20))))
             (bindO (F51 ((5:Int),y10,y11)) fun (y12,y13,y14) =>
             bindO (F105 ([(1:Int),(2:Int),(5:Int)],y13,y14)) fun (y15,y16,y17) =>
             bindO (F105 ([(1:Int),(6:Int),(8:Int)],y16,y17)) fun (y18,y19,y20) =>
             grdO (decide (List.length y5+(1:Nat)≤(9223372036854775807:Nat)) && decide ((List.length y5+(1:Nat))*(24:Nat)≤(140737488355328:Nat))) (some (Sum.inl (([],(0:Int),(0:Int),(0:Int),[],[],[]),(y,y1,y2,y3,y4,y5++[(y12,y15,y18)],x),y19,y20)))))))
          (cndO (decide (y9=(7:Int)))
           (bothO
            (bindO (F51 ((17:Int),y10,y11)) fun (y12,y13,y14) =>
            bothO
             (bindO (F51 ((20:Int),y13,y14)) fun (y15,y16,y17) =>
             bindO (F119 ([[],[(32:UInt8)],[(0:UInt8)]],y16,y17)) fun (y18,y19,y20) =>
             bindO (F51 ((10:Int),y19,y20)) fun (y21,y22,y23) =>
             bindO (F51 ((10:Int),y22,y23)) fun (y24,y25,y26) =>
             grdO (decide (List.length x+(1:Nat)≤(9223372036854775807:Nat)) && decide ((List.length x+(1:Nat))*(104:Nat)≤(140737488355328:Nat))) (some (Sum.inl (([],(0:Int),(0:Int),(0:Int),[],[],[]),(y,y1,y2,y3,y4,y5,x++[(y12,(1:Int),y15,y21,y24,y18,[],[])]),y25,y26))))
             (bindO (F51 ((20:Int),y13,y14)) fun (y15,y16,y17) =>
             bindO (F119 ([[],[(32:UInt8)],[(0:UInt8)]],y16,y17)) fun (y18,y19,y20) =>
             bindO (F51 ((10:Int),y19,y20)) fun (y21,y22,y23) =>
             bindO (F51 ((10:Int),y22,y23)) fun (y24,y25,y26) =>
             grdO (decide (List.length x+(1:Nat)≤(9223372036854775807:Nat)) && decide ((List.length x+(1:Nat))*(104:Nat)≤(140737488355328:Nat))) (some (Sum.inl (([],(0:Int),(0:Int),(0:Int),[],[],[]),(y,y1,y2,y3,y4,y5,x++[(y12,(1:Int),y15,y21,y24,y18,[],[])]),y25,y26)))))
            (bindO (F51 ((17:Int),y10,y11)) fun (y12,y13,y14) =>
            bindO (F51 ((20:Int),y13,y14)) fun (y15,y16,y17) =>
            bindO (F119 ([[],[(32:UInt8)],[(0:UInt8)]],y16,y17)) fun (y18,y19,y20) =>
            bindO (F51 ((10:Int),y19,y20)) fun (y21,y22,y23) =>
            bindO (F51 ((10:Int),y22,y23)) fun (y24,y25,y26) =>
            grdO (decide (List.length x+(1:Nat)≤(9223372036854775807:Nat)) && decide ((List.length x+(1:Nat))*(104:Nat)≤(140737488355328:Nat))) (some (Sum.inl (([],(0:Int),(0:Int),(0:Int),[],[],[]),(y,y1,y2,y3,y4,y5,x++[(y12,(1:Int),y15,y21,y24,y18,[],[])]),y25,y26)))))
           (some (Sum.inl (([],(0:Int),(0:Int),(0:Int),[],[],[]),(y,y1,y2,y3,y4,y5,x),y10,y11))))))))))) fun ((o01,o11,o2,o3,o4,o5,o6),(o02,o12,o21,o31,o41,o51,o61),o03,o13) =>
  bindO (F120 ((o12,o21,o31),(o03,o13),o02,o41,o51,o61)) fun ((y12,y13,y14),(y15,y16),y17,x3,x4,x5) =>
  some (((y17,y12,y13,y14,x3,x4,x5),y15,y16)))
theorem r50 (x:List UInt8×Int):funT T tb120 tp50 120 tv50 (bodyOf Tryz.f50) ti50 to50 x=F50 x:=by kernel_rfl
def te50:TEnt:=⟨50,false,[(0,[])],ti50,to50.Den,F50,resF T [.cell 2 34] 120 to50 [100000]⟩
def tb50:Nat→Option TEnt:=insT 50 te50 tb120
theorem ok50:TbOk Tryz.prog tb50:=TbOk.ins ok120 (fun_ok ok120 layOk mixed false _ ti50 to50 [100000] tp50 tv50 Tryz.func50 rfl Tryz.results50 Tryz.ntmps50 (by kernel_rfl) (by kernel_rfl) Tryz.call50 F50 fun x _ h=>(r50 x).trans h)
abbrev ti13:SPat:=⟨[(0,.sl .byte)],[]⟩
abbrev to13:SPat:=⟨[(2,.own tg27 true)],[]⟩
abbrev ts13_4:SPat:=⟨[(3,.ptr 6 0),(4,.ptr 4 0)],[.box 4 (pl plD),.box 6 (pl [.sl .byte,.i .i64])]⟩
abbrev ts13_2000000:SPat:=⟨[(4,.ptr 4 0)],[.box 4 (pl plD)]⟩
def tv13:Nat→Option SPat:=fun k=>bif k == 4 then some ts13_4 else bif k == 2000000 then some ts13_2000000 else none
def tp13:Nat→List Nat×Plan:=fun id=>bif id == 4 then ([0,1,2,3],(.br 4 [3] [0,1,2] [5,6] .fin .fin)) else ([],.fin)
def F13:List UInt8→Option (List Cst):=fun code =>
 bindO (F49 code) fun (y,y1) =>
 bindO (F50 (y,y1)) fun ((y2,y3,y4,y5,y6,y7,x),x1,x2) =>
 bindO (F51 ((16:Int),x1,x2)) fun (y8,y9,y10) =>
 cndO (decide (y8=(0:Int)))
  (bindE (Y:=Cls) (whileO (fun ((o0,o1,o2,o3,o4,o5,o6),o01,o11) =>
    bindO (F51 ((3:Int),o01,o11)) fun (y11,y12,y13) =>
    seqU (seqU (grdO (decide ((o0.length:Int)=(o0.length:Int))) (some (()))) (some (()))) (cndO (decide ((o0.length:Int)<IntKind.wrap .i64 ((60:Int)+y11)))
     (grdO (decide (List.length o0+(1:Nat)≤(9223372036854775807:Nat)) && decide ((List.length o0+(1:Nat))*(40:Nat)≤(140737488355328:Nat))) (some (Sum.inl ((o0++[((1:Int),[(73:UInt8)],(0:Int),(0:Int))],o1,o2,o3,o4,o5,o6),y12,y13))))
     (some (Sum.inr (Sum.inl (o0,o1,o2,o3,o4,o5,o6)))))) (((y2,y3,y4,y5,y6,y7,x),y9,y10))) fun (o0,o1,o2,o3,o4,o5,o6) =>
  some (o0))
  (some (y2))
theorem r13 (x:List UInt8):funT T tb50 tp13 27 tv13 (bodyOf Tryz.f13) ti13 to13 x=F13 x:=by kernel_rfl
def te13:TEnt:=⟨13,false,[],ti13,to13.Den,F13,resF T [.tmp 2] 27 to13 []⟩
def tb13:Nat→Option TEnt:=insT 13 te13 tb50
theorem ok13:TbOk Tryz.prog tb13:=TbOk.ins ok50 (fun_ok ok50 layOk mixed false _ ti13 to13 [] tp13 tv13 Tryz.func13 rfl Tryz.results13 Tryz.ntmps13 (by kernel_rfl) (by kernel_rfl) Tryz.call13 F13 fun x _ h=>(r13 x).trans h)
abbrev ti89:SPat:=⟨[(0,.i .i64),(1,.i .i64),(2,.i .i64)],[]⟩
abbrev to89:SPat:=⟨[(6,.b)],[]⟩
def F89:Int×Int×Int→Option (Bool):=fun (n,low,high) =>
 cndO (decide (low≤n))
  (some (decide (n≤high)))
  (some (false))
theorem r89 (x:Int×Int×Int):funT T tb13 noPl 15 noIv (bodyOf Tryz.f89) ti89 to89 x=F89 x:=by kernel_rfl
def te89:TEnt:=⟨89,true,[],ti89,to89.Den,F89,resF T [.tmp 6] 15 to89 []⟩
def tb89:Nat→Option TEnt:=insT 89 te89 tb13
theorem ok89:TbOk Tryz.prog tb89:=TbOk.ins ok13 (fun_ok ok13 layOk mixed true _ ti89 to89 [] noPl noIv Tryz.func89 rfl Tryz.results89 Tryz.ntmps89 (by kernel_rfl) (by kernel_rfl) Tryz.call89 F89 fun x _ h=>(r89 x).trans h)
abbrev ti48:SPat:=⟨[(0,.s)],[]⟩
abbrev to48:SPat:=⟨[(2,.b)],[]⟩
abbrev ts48_4:SPat:=⟨[(0,.s),(20,.i .i64),(21,.i .i64)],[]⟩
abbrev ts48_1000003:SPat:=⟨[(0,.s)],[]⟩
abbrev ts48_2000000:SPat:=⟨[],[]⟩
abbrev ts48_2000001:SPat:=⟨[(0,.s),(20,.i .i64),(21,.i .i64)],[]⟩
def tv48:Nat→Option SPat:=fun k=>bif k == 4 then some ts48_4 else bif k == 1000003 then some ts48_1000003 else bif k == 2000000 then some ts48_2000000 else bif k == 2000001 then some ts48_2000001 else none
def F48:List UInt8→Option (Bool):=fun s =>
 bindE (Y:=List UInt8) (bindO (F89 ((s.length:Int),(1:Int),(8:Int))) fun y =>
  cndO (!y)
   (some (Sum.inr false))
   (atO (s) ((0:Nat)) fun x=>cndO (decide ((48:Int)≤(x.toNat:Int)))
    (atO (s) ((0:Nat)) fun x1=>cndO (decide ((x1.toNat:Int)≤(57:Int)))
     (some (Sum.inr false))
     (some (Sum.inl s)))
    (some (Sum.inl s)))) fun s1 =>
 bindE (whileO (fun (s2,v20,v21) =>
   cndO (decide (v21<v20))
    (bindE (Y:=List UInt8×Int×Int) (grdO (decide ((0:Int)≤v21)) (atO (s2) v21.toNat fun x=>cndO (decide ((97:Int)≤(x.toNat:Int)))
      (cndO (decide ((x.toNat:Int)≤(122:Int)))
       (some (Sum.inl (s2,v20,v21)))
       (cndO (decide ((65:Int)≤(x.toNat:Int)))
        (cndO (decide ((x.toNat:Int)≤(90:Int)))
         (some (Sum.inl (s2,v20,v21)))
         (cndO (decide ((48:Int)≤(x.toNat:Int)))
          (cndO (!decide ((x.toNat:Int)≤(57:Int)))
           (some (Sum.inr (Sum.inr (Sum.inr false))))
           (some (Sum.inl (s2,v20,v21))))
          (some (Sum.inr (Sum.inr (Sum.inr false))))))
        (cndO (decide ((48:Int)≤(x.toNat:Int)))
         (cndO (!decide ((x.toNat:Int)≤(57:Int)))
          (some (Sum.inr (Sum.inr (Sum.inr false))))
          (some (Sum.inl (s2,v20,v21))))
         (some (Sum.inr (Sum.inr (Sum.inr false)))))))
      (cndO (decide ((65:Int)≤(x.toNat:Int)))
       (cndO (decide ((x.toNat:Int)≤(90:Int)))
        (some (Sum.inl (s2,v20,v21)))
        (cndO (decide ((48:Int)≤(x.toNat:Int)))
         (cndO (!decide ((x.toNat:Int)≤(57:Int)))
          (some (Sum.inr (Sum.inr (Sum.inr false))))
          (some (Sum.inl (s2,v20,v21))))
         (some (Sum.inr (Sum.inr (Sum.inr false))))))
       (cndO (decide ((48:Int)≤(x.toNat:Int)))
        (cndO (!decide ((x.toNat:Int)≤(57:Int)))
         (some (Sum.inr (Sum.inr (Sum.inr false))))
         (some (Sum.inl (s2,v20,v21))))
        (some (Sum.inr (Sum.inr (Sum.inr false)))))))) fun (s3,v201,v211) =>
    some (Sum.inl (s3,v201,IntKind.wrap .i64 (v211+(1:Int)))))
    (some (Sum.inr (Sum.inl ())))) ((s1,(s1.length:Int),(0:Int)))) fun _ =>
 some (true)
theorem r48 (x:List UInt8):funT T tb89 noPl 51 tv48 (bodyOf Tryz.f48) ti48 to48 x=F48 x:=by kernel_rfl
def te48:TEnt:=⟨48,true,[],ti48,to48.Den,F48,resF T [.tmp 2] 51 to48 []⟩
def tb48:Nat→Option TEnt:=insT 48 te48 tb89
theorem ok48:TbOk Tryz.prog tb48:=TbOk.ins ok89 (fun_ok ok89 layOk mixed true _ ti48 to48 [] noPl tv48 Tryz.func48 rfl Tryz.results48 Tryz.ntmps48 (by kernel_rfl) (by kernel_rfl) Tryz.call48 F48 fun x _ h=>(r48 x).trans h)
abbrev ti293:SPat:=⟨[(0,.s),(1,.s)],[]⟩
abbrev to293:SPat:=⟨[(4,.b)],[]⟩
def F293:List UInt8×List UInt8→Option (Bool):=fun (s,prefix_) =>
 cndO (decide ((prefix_.length:Int)≤(s.length:Int)))
  (grdO (decide ((0:Int)≤(prefix_.length:Int)) && decide ((prefix_.length:Int)≤(s.length:Int))) (some (decide (List.drop (0:Nat) (List.take (Int.toNat (prefix_.length:Int)) s)=prefix_))))
  (some (false))
theorem r293 (x:List UInt8×List UInt8):funT T tb48 noPl 18 noIv (bodyOf Tryz.f293) ti293 to293 x=F293 x:=by kernel_rfl
def te293:TEnt:=⟨293,true,[],ti293,to293.Den,F293,resF T [.tmp 4] 18 to293 []⟩
def tb293:Nat→Option TEnt:=insT 293 te293 tb48
theorem ok293:TbOk Tryz.prog tb293:=TbOk.ins ok48 (fun_ok ok48 layOk mixed true _ ti293 to293 [] noPl noIv Tryz.func293 rfl Tryz.results293 Tryz.ntmps293 (by kernel_rfl) (by kernel_rfl) Tryz.call293 F293 fun x _ h=>(r293 x).trans h)
abbrev ti259:SPat:=⟨[(0,.s),(1,.s)],[]⟩
abbrev to259:SPat:=⟨[(4,.s),(5,.b)],[]⟩
def F259:List UInt8×List UInt8→Option (List UInt8×Bool):=fun (s,prefix_) =>
 bindO (F293 (s,prefix_)) fun y =>
 cndO (!y)
  (some ((s,false)))
  (grdO (decide ((0:Int)≤(prefix_.length:Int)) && decide ((prefix_.length:Int)≤(s.length:Int)) && decide ((s.length:Int)≤(s.length:Int))) (some ((List.drop (Int.toNat (prefix_.length:Int)) (List.take (Int.toNat (s.length:Int)) s),true))))
theorem r259 (x:List UInt8×List UInt8):funT T tb293 noPl 15 noIv (bodyOf Tryz.f259) ti259 to259 x=F259 x:=by kernel_rfl
def te259:TEnt:=⟨259,true,[],ti259,to259.Den,F259,resF T [.tmp 4,.tmp 5] 15 to259 []⟩
def tb259:Nat→Option TEnt:=insT 259 te259 tb293
theorem ok259:TbOk Tryz.prog tb259:=TbOk.ins ok293 (fun_ok ok293 layOk mixed true _ ti259 to259 [] noPl noIv Tryz.func259 rfl Tryz.results259 Tryz.ntmps259 (by kernel_rfl) (by kernel_rfl) Tryz.call259 F259 fun x _ h=>(r259 x).trans h)
abbrev ti204:SPat:=⟨[(0,.s),(1,.s)],[]⟩
abbrev to204:SPat:=⟨[(4,.s),(5,.b)],[]⟩
def F204:List UInt8×List UInt8→Option (List UInt8×Bool):=fun (s,prefix_) =>
 bindO (F259 (s,prefix_)) fun (y,y1) =>
 some ((y,y1))
theorem r204 (x:List UInt8×List UInt8):funT T tb259 noPl 11 noIv (bodyOf Tryz.f204) ti204 to204 x=F204 x:=by kernel_rfl
def te204:TEnt:=⟨204,true,[],ti204,to204.Den,F204,resF T [.tmp 4,.tmp 5] 11 to204 []⟩
def tb204:Nat→Option TEnt:=insT 204 te204 tb259
theorem ok204:TbOk Tryz.prog tb204:=TbOk.ins ok259 (fun_ok ok259 layOk mixed true _ ti204 to204 [] noPl noIv Tryz.func204 rfl Tryz.results204 Tryz.ntmps204 (by kernel_rfl) (by kernel_rfl) Tryz.call204 F204 fun x _ h=>(r204 x).trans h)
abbrev ti294:SPat:=⟨[(0,.s),(1,.s)],[]⟩
abbrev to294:SPat:=⟨[(4,.b)],[]⟩
def F294:List UInt8×List UInt8→Option (Bool):=fun (s,suffix) =>
 cndO (decide ((suffix.length:Int)≤(s.length:Int)))
  (grdO (decide ((0:Int)≤IntKind.wrap .i64 ((s.length:Int) - (suffix.length:Int))) && decide (IntKind.wrap .i64 ((s.length:Int) - (suffix.length:Int))≤(s.length:Int)) && decide ((s.length:Int)≤(s.length:Int))) (some (decide (List.drop (Int.toNat (IntKind.wrap .i64 ((s.length:Int) - (suffix.length:Int)))) (List.take (Int.toNat (s.length:Int)) s)=suffix))))
  (some (false))
theorem r294 (x:List UInt8×List UInt8):funT T tb204 noPl 21 noIv (bodyOf Tryz.f294) ti294 to294 x=F294 x:=by kernel_rfl
def te294:TEnt:=⟨294,true,[],ti294,to294.Den,F294,resF T [.tmp 4] 21 to294 []⟩
def tb294:Nat→Option TEnt:=insT 294 te294 tb204
theorem ok294:TbOk Tryz.prog tb294:=TbOk.ins ok204 (fun_ok ok204 layOk mixed true _ ti294 to294 [] noPl noIv Tryz.func294 rfl Tryz.results294 Tryz.ntmps294 (by kernel_rfl) (by kernel_rfl) Tryz.call294 F294 fun x _ h=>(r294 x).trans h)
abbrev ti260:SPat:=⟨[(0,.s),(1,.s)],[]⟩
abbrev to260:SPat:=⟨[(4,.s),(5,.b)],[]⟩
def F260:List UInt8×List UInt8→Option (List UInt8×Bool):=fun (s,suffix) =>
 bindO (F294 (s,suffix)) fun y =>
 cndO (!y)
  (some ((s,false)))
  (grdO (decide ((0:Int)≤IntKind.wrap .i64 ((s.length:Int) - (suffix.length:Int))) && decide (IntKind.wrap .i64 ((s.length:Int) - (suffix.length:Int))≤(s.length:Int))) (some ((List.drop (0:Nat) (List.take (Int.toNat (IntKind.wrap .i64 ((s.length:Int) - (suffix.length:Int)))) s),true))))
theorem r260 (x:List UInt8×List UInt8):funT T tb294 noPl 18 noIv (bodyOf Tryz.f260) ti260 to260 x=F260 x:=by kernel_rfl
def te260:TEnt:=⟨260,true,[],ti260,to260.Den,F260,resF T [.tmp 4,.tmp 5] 18 to260 []⟩
def tb260:Nat→Option TEnt:=insT 260 te260 tb294
theorem ok260:TbOk Tryz.prog tb260:=TbOk.ins ok294 (fun_ok ok294 layOk mixed true _ ti260 to260 [] noPl noIv Tryz.func260 rfl Tryz.results260 Tryz.ntmps260 (by kernel_rfl) (by kernel_rfl) Tryz.call260 F260 fun x _ h=>(r260 x).trans h)
abbrev ti205:SPat:=⟨[(0,.s),(1,.s)],[]⟩
abbrev to205:SPat:=⟨[(4,.s),(5,.b)],[]⟩
def F205:List UInt8×List UInt8→Option (List UInt8×Bool):=fun (s,suffix) =>
 bindO (F260 (s,suffix)) fun (y,y1) =>
 some ((y,y1))
theorem r205 (x:List UInt8×List UInt8):funT T tb260 noPl 11 noIv (bodyOf Tryz.f205) ti205 to205 x=F205 x:=by kernel_rfl
def te205:TEnt:=⟨205,true,[],ti205,to205.Den,F205,resF T [.tmp 4,.tmp 5] 11 to205 []⟩
def tb205:Nat→Option TEnt:=insT 205 te205 tb260
theorem ok205:TbOk Tryz.prog tb205:=TbOk.ins ok260 (fun_ok ok260 layOk mixed true _ ti205 to205 [] noPl noIv Tryz.func205 rfl Tryz.results205 Tryz.ntmps205 (by kernel_rfl) (by kernel_rfl) Tryz.call205 F205 fun x _ h=>(r205 x).trans h)
abbrev ti115:SPat:=⟨[(0,.s)],[]⟩
abbrev to115:SPat:=⟨[(2,.s),(3,.b)],[]⟩
def F115:List UInt8→Option (List UInt8×Bool):=fun s =>
 bindO (F204 (s,[(76:UInt8)])) fun (y,y1) =>
 bindO (F205 (y,[(59:UInt8)])) fun (y2,y3) =>
 cndO (y1)
  (cndO (y3)
   (bindO (F48 y2) fun y4 =>
   some ((y2,y4)))
   (some ((y2,false))))
  (some ((y2,false)))
theorem r115 (x:List UInt8):funT T tb205 noPl 27 noIv (bodyOf Tryz.f115) ti115 to115 x=F115 x:=by kernel_rfl
def te115:TEnt:=⟨115,true,[],ti115,to115.Den,F115,resF T [.tmp 2,.tmp 3] 27 to115 []⟩
def tb115:Nat→Option TEnt:=insT 115 te115 tb205
theorem ok115:TbOk Tryz.prog tb115:=TbOk.ins ok205 (fun_ok ok205 layOk mixed true _ ti115 to115 [] noPl noIv Tryz.func115 rfl Tryz.results115 Tryz.ntmps115 (by kernel_rfl) (by kernel_rfl) Tryz.call115 F115 fun x _ h=>(r115 x).trans h)
abbrev ti122:SPat:=⟨[(0,.s)],[]⟩
abbrev to122:SPat:=⟨[(2,.b)],[]⟩
def F122:List UInt8→Option (Bool):=fun s =>
 bindO (F115 s) fun (y,y1) =>
 cndO (y1)
  (some (true))
  (some (decide (s=[(73:UInt8)])))
theorem r122 (x:List UInt8):funT T tb115 noPl 15 noIv (bodyOf Tryz.f122) ti122 to122 x=F122 x:=by kernel_rfl
def te122:TEnt:=⟨122,true,[],ti122,to122.Den,F122,resF T [.tmp 2] 15 to122 []⟩
def tb122:Nat→Option TEnt:=insT 122 te122 tb115
theorem ok122:TbOk Tryz.prog tb122:=TbOk.ins ok115 (fun_ok ok115 layOk mixed true _ ti122 to122 [] noPl noIv Tryz.func122 rfl Tryz.results122 Tryz.ntmps122 (by kernel_rfl) (by kernel_rfl) Tryz.call122 F122 fun x _ h=>(r122 x).trans h)
abbrev ti289:SPat:=⟨[(0,.s),(1,.i .u8)],[]⟩
abbrev to289:SPat:=⟨[(4,.i .i64)],[]⟩
def F289:List UInt8×Int→Option (Int):=fun (s,c) =>
 bindO (F322 (s,c)) fun y =>
 some (y)
theorem r289 (x:List UInt8×Int):funT T tb122 noPl 8 noIv (bodyOf Tryz.f289) ti289 to289 x=F289 x:=by kernel_rfl
def te289:TEnt:=⟨289,true,[],ti289,to289.Den,F289,resF T [.tmp 4] 8 to289 []⟩
def tb289:Nat→Option TEnt:=insT 289 te289 tb122
theorem ok289:TbOk Tryz.prog tb289:=TbOk.ins ok122 (fun_ok ok122 layOk mixed true _ ti289 to289 [] noPl noIv Tryz.func289 rfl Tryz.results289 Tryz.ntmps289 (by kernel_rfl) (by kernel_rfl) Tryz.call289 F289 fun x _ h=>(r289 x).trans h)
abbrev ti321:SPat:=⟨[(0,.s),(1,.sc [41])],[]⟩
abbrev to321:SPat:=⟨[(4,.i .i64)],[]⟩
abbrev ts321_1000003:SPat:=⟨[(0,.s),(1,.sc [41]),(5,.i .i64),(16,.b)],[]⟩
def tv321:Nat→Option SPat:=fun k=>bif k == 1000003 then some ts321_1000003 else none
def F321:List UInt8→Option (Int):=fun app =>
 bindE (Y:=List UInt8×Int×Bool) (some (Sum.inl (app,(1:Int),decide ([(41:UInt8)]=app)))) fun (app1,v5,v16) =>
 cndO (v16)
  (some ((0:Int)))
  (cndO (decide (v5=(1:Int)))
   (atO ([(41:UInt8)]) ((0:Nat)) fun x=>bindO (F289 (app1,(x.toNat:Int))) fun y =>
   some (y))
   (cndO (decide ((app1.length:Int)≤v5))
    (some ((-1:Int)))
    (none)))
theorem r321 (x:List UInt8):funT T tb289 noPl 143 tv321 (bodyOf Tryz.f321) ti321 to321 x=F321 x:=by kernel_rfl
def te321:TEnt:=⟨321,true,[],ti321,to321.Den,F321,resF T [.tmp 4] 143 to321 []⟩
def tb321:Nat→Option TEnt:=insT 321 te321 tb289
theorem ok321:TbOk Tryz.prog tb321:=TbOk.ins ok289 (fun_ok ok289 layOk mixed true _ ti321 to321 [] noPl tv321 Tryz.func321 rfl Tryz.results321 Tryz.ntmps321 (by kernel_rfl) (by kernel_rfl) Tryz.call321 F321 fun x _ h=>(r321 x).trans h)
abbrev ti288:SPat:=⟨[(0,.s),(1,.sc [41])],[]⟩
abbrev to288:SPat:=⟨[(4,.s),(5,.s),(6,.b)],[]⟩
def tp288:Nat→List Nat×Plan:=fun id=>bif id == 3 then ([0,1,2,3,4,5,6,7,8],(.br 9 [2,1,0] [3,4,5,6,7,8] [] (.br 10 [9,8,7,6,5,4,3,2,1,0] [] [] (.br 11 [10,9,8,7,6,5,4,3,2,1,0] [] [] .fin .fin) .fin) .fin)) else ([],.fin)
def F288:List UInt8→Option (List UInt8×List UInt8×Bool):=fun s =>
 bindO (F321 s) fun y =>
 cndO (decide ((0:Int)≤y))
  (grdO (decide ((0:Int)≤y) && decide (y≤(s.length:Int))) (grdO (decide ((0:Int)≤IntKind.wrap .i64 (y+(1:Int))) && decide (IntKind.wrap .i64 (y+(1:Int))≤(s.length:Int)) && decide ((s.length:Int)≤(s.length:Int))) (seqU (seqU (grdO (decide (s=s)) (some (()))) (seqU (grdO (decide (y=y)) (some (()))) (seqU (grdO (decide (IntKind.wrap .i64 (y+(1:Int))=IntKind.wrap .i64 (y+(1:Int)))) (some (()))) (seqU (grdO (decide ((0:Int)≤IntKind.wrap .i64 (y+(1:Int))) && decide (IntKind.wrap .i64 (y+(1:Int))≤(s.length:Int)) && decide ((s.length:Int)≤(s.length:Int))) (grdO (decide (List.drop (Int.toNat (IntKind.wrap .i64 (y+(1:Int)))) (List.take (Int.toNat (s.length:Int)) s)=List.drop (Int.toNat (IntKind.wrap .i64 (y+(1:Int)))) (List.take (Int.toNat (s.length:Int)) s))) (some (())))) (some (())))))) (some ((List.drop (0:Nat) (List.take y.toNat s),List.drop (Int.toNat (IntKind.wrap .i64 (y+(1:Int)))) (List.take (Int.toNat (s.length:Int)) s),true))))))
  (some ((s,[],false)))
theorem r288 (x:List UInt8):funT T tb321 tp288 23 noIv (bodyOf Tryz.f288) ti288 to288 x=F288 x:=by kernel_rfl
def te288:TEnt:=⟨288,true,[],ti288,to288.Den,F288,resF T [.tmp 4,.tmp 5,.tmp 6] 23 to288 []⟩
def tb288:Nat→Option TEnt:=insT 288 te288 tb321
theorem ok288:TbOk Tryz.prog tb288:=TbOk.ins ok321 (fun_ok ok321 layOk mixed true _ ti288 to288 [] tp288 noIv Tryz.func288 rfl Tryz.results288 Tryz.ntmps288 (by kernel_rfl) (by kernel_rfl) Tryz.call288 F288 fun x _ h=>(r288 x).trans h)
abbrev ti238:SPat:=⟨[(0,.s),(1,.sc [41])],[]⟩
abbrev to238:SPat:=⟨[(4,.s),(5,.s),(6,.b)],[]⟩
def F238:List UInt8→Option (List UInt8×List UInt8×Bool):=fun s =>
 bindO (F288 s) fun (y,y1,y2) =>
 some ((y,y1,y2))
theorem r238 (x:List UInt8):funT T tb288 noPl 13 noIv (bodyOf Tryz.f238) ti238 to238 x=F238 x:=by kernel_rfl
def te238:TEnt:=⟨238,true,[],ti238,to238.Den,F238,resF T [.tmp 4,.tmp 5,.tmp 6] 13 to238 []⟩
def tb238:Nat→Option TEnt:=insT 238 te238 tb288
theorem ok238:TbOk Tryz.prog tb238:=TbOk.ins ok288 (fun_ok ok288 layOk mixed true _ ti238 to238 [] noPl noIv Tryz.func238 rfl Tryz.results238 Tryz.ntmps238 (by kernel_rfl) (by kernel_rfl) Tryz.call238 F238 fun x _ h=>(r238 x).trans h)
end Go.Proofs.YtdpapeledldifaaGreat
end
noncomputable section
namespace Go.Proofs.YtdpapeledldifaaGreat
open Go Go.AM Go.TM
set_option maxRecDepth 100000
set_option maxHeartbeats 4000000
abbrev ti239:SPat:=⟨[(0,.s),(1,.i .u8)],[]⟩
abbrev to239:SPat:=⟨[(4,.i .i64)],[]⟩
def F239:List UInt8×Int→Option (Int):=fun (s,c) =>
 bindO (F289 (s,c)) fun y =>
 some (y)
theorem r239 (x:List UInt8×Int):funT T tb238 noPl 8 noIv (bodyOf Tryz.f239) ti239 to239 x=F239 x:=by kernel_rfl
def te239:TEnt:=⟨239,true,[],ti239,to239.Den,F239,resF T [.tmp 4] 8 to239 []⟩
def tb239:Nat→Option TEnt:=insT 239 te239 tb238
theorem ok239:TbOk Tryz.prog tb239:=TbOk.ins ok238 (fun_ok ok238 layOk mixed true _ ti239 to239 [] noPl noIv Tryz.func239 rfl Tryz.results239 Tryz.ntmps239 (by kernel_rfl) (by kernel_rfl) Tryz.call239 F239 fun x _ h=>(r239 x).trans h)
abbrev ti170:SPat:=⟨[(0,.s)],[]⟩
abbrev to170:SPat:=⟨[(2,.own .str true),(3,.s),(4,.b)],[]⟩
abbrev ts170_6:SPat:=⟨[(6,.s),(8,.s),(10,.own .str true)],[]⟩
abbrev ts170_1000005:SPat:=⟨[(6,.s),(8,.s)],[]⟩
abbrev ts170_1000010:SPat:=⟨[(6,.s),(8,.s),(10,.own .str true),(11,.i .i64)],[]⟩
abbrev ts170_1000012:SPat:=⟨[(6,.s),(8,.s),(10,.own .str true),(11,.i .i64)],[]⟩
abbrev ts170_2000000:SPat:=⟨[(6,.s),(10,.own .str true)],[]⟩
def tv170:Nat→Option SPat:=fun k=>bif k == 6 then some ts170_6 else bif k == 1000005 then some ts170_1000005 else bif k == 1000010 then some ts170_1000010 else bif k == 1000012 then some ts170_1000012 else bif k == 2000000 then some ts170_2000000 else none
def F170:List UInt8→Option (List (List UInt8)×List UInt8×Bool):=fun app =>
 bindO (F238 app) fun (y,y1,y2) =>
 bindO (F204 (y,[(40:UInt8)])) fun (y3,y4) =>
 bindE (Y:=List UInt8×List UInt8) (cndO (!y2)
   (some (Sum.inr ([],[],false)))
   (cndO (!y4)
    (some (Sum.inr ([],[],false)))
    (cndO (!decide (y1=[(86:UInt8)]))
     (bindO (F122 y1) fun y5 =>
     cndO (!y5)
      (some (Sum.inr ([],[],false)))
      (some (Sum.inl (y1,y3))))
     (some (Sum.inl (y1,y3)))))) fun (v6,v8) =>
 bindE (Y:=List UInt8×List (List UInt8)) (whileO (fun (v61,v81,v10) =>
   cndO (!decide (v81=[]))
    (bindE (Y:=List UInt8×List UInt8×List (List UInt8)×Int) (atO (v81) ((0:Nat)) fun x=>cndO (!decide ((x.toNat:Int)=(73:Int)))
      (bindO (F239 (v81,(59:Int))) fun y5 =>
      some (Sum.inl (v61,v81,v10,IntKind.wrap .i64 (y5+(1:Int)))))
      (some (Sum.inl (v61,v81,v10,(1:Int))))) fun (v62,v82,v101,v11) =>
    bindE (Y:=List UInt8×List UInt8×List (List UInt8)×Int) (grdO (decide ((0:Int)≤v11) && decide (v11≤(v82.length:Int))) (bindO (F122 (List.drop (0:Nat) (List.take v11.toNat v82))) fun y5 =>
     cndO (!y5)
      (some (Sum.inr (Sum.inr (Sum.inr ([],[],false)))))
      (cndO (decide ((v101.length:Int)=(4:Int)))
       (some (Sum.inr (Sum.inr (Sum.inr ([],[],false)))))
       (some (Sum.inl (v62,v82,v101,v11)))))) fun (v63,v83,v102,v111) =>
    grdO (decide ((0:Int)≤v111) && decide (v111≤(v83.length:Int))) (grdO (decide (List.length v102+(1:Nat)≤(9223372036854775807:Nat)) && decide ((List.length v102+(1:Nat))*(16:Nat)≤(140737488355328:Nat))) (grdO (decide ((0:Int)≤v111) && decide (v111≤(v83.length:Int)) && decide ((v83.length:Int)≤(v83.length:Int))) (some (Sum.inl (v63,List.drop v111.toNat (List.take (Int.toNat (v83.length:Int)) v83),v102++[List.drop (0:Nat) (List.take v111.toNat v83)]))))))
    (some (Sum.inr (Sum.inl (v61,v10))))) ((v6,v8,[]))) fun (v61,v10) =>
 some ((v10,v61,true))
theorem r170 (x:List UInt8):funT T tb239 noPl 67 tv170 (bodyOf Tryz.f170) ti170 to170 x=F170 x:=by kernel_rfl
def te170:TEnt:=⟨170,false,[],ti170,to170.Den,F170,resF T [.tmp 2,.tmp 3,.tmp 4] 67 to170 []⟩
def tb170:Nat→Option TEnt:=insT 170 te170 tb239
theorem ok170:TbOk Tryz.prog tb170:=TbOk.ins ok239 (fun_ok ok239 layOk mixed false _ ti170 to170 [] noPl tv170 Tryz.func170 rfl Tryz.results170 Tryz.ntmps170 (by kernel_rfl) (by kernel_rfl) Tryz.call170 F170 fun x _ h=>(r170 x).trans h)
abbrev ti113:SPat:=⟨[(0,.s)],[]⟩
abbrev to113:SPat:=⟨[(2,.b)],[]⟩
def F113:List UInt8→Option (Bool):=fun s =>
 bindO (F170 s) fun (y,y1,y2) =>
 some (y2)
theorem r113 (x:List UInt8):funT T tb170 noPl 13 noIv (bodyOf Tryz.f113) ti113 to113 x=F113 x:=by kernel_rfl
def te113:TEnt:=⟨113,true,[],ti113,to113.Den,F113,resF T [.tmp 2] 13 to113 []⟩
def tb113:Nat→Option TEnt:=insT 113 te113 tb170
theorem ok113:TbOk Tryz.prog tb113:=TbOk.ins ok170 (fun_ok ok170 layOk mixed true _ ti113 to113 [] noPl noIv Tryz.func113 rfl Tryz.results113 Tryz.ntmps113 (by kernel_rfl) (by kernel_rfl) Tryz.call113 F113 fun x _ h=>(r113 x).trans h)
abbrev ti121:SPat:=⟨[(0,.s)],[]⟩
abbrev to121:SPat:=⟨[(2,.b)],[]⟩
def F121:List UInt8→Option (Bool):=fun s =>
 bindO (F122 s) fun y =>
 cndO (y)
  (some (true))
  (bindO (F113 s) fun y1 =>
  some (y1))
theorem r121 (x:List UInt8):funT T tb113 noPl 9 noIv (bodyOf Tryz.f121) ti121 to121 x=F121 x:=by kernel_rfl
def te121:TEnt:=⟨121,true,[],ti121,to121.Den,F121,resF T [.tmp 2] 9 to121 []⟩
def tb121:Nat→Option TEnt:=insT 121 te121 tb113
theorem ok121:TbOk Tryz.prog tb121:=TbOk.ins ok113 (fun_ok ok113 layOk mixed true _ ti121 to121 [] noPl noIv Tryz.func121 rfl Tryz.results121 Tryz.ntmps121 (by kernel_rfl) (by kernel_rfl) Tryz.call121 F121 fun x _ h=>(r121 x).trans h)
abbrev ti124:SPat:=⟨[(0,.sl tg27),(1,.i .i64)],[]⟩
abbrev to124:SPat:=⟨[(4,.ptr 4 0)],[.box 4 (pl [.i .i64,.s,.i .i64,.i .i64])]⟩
def F124:List Cst×Int→Option (Cst):=fun (pool,i) =>
 bindO (F89 (i,(1:Int),(pool.length:Int))) fun y =>
 cndO (!y)
  (some (((0:Int),[],(0:Int),(0:Int))))
  (grdO (decide ((0:Int)≤IntKind.wrap .i64 (i - (1:Int)))) (atO (pool) (Int.toNat (IntKind.wrap .i64 (i - (1:Int)))) fun x=>some ((x.1,x.2.1,x.2.2.1,x.2.2.2))))
theorem r124 (x:List Cst×Int):funT T tb121 noPl 16 noIv (bodyOf Tryz.f124) ti124 to124 x=F124 x:=by kernel_rfl
def te124:TEnt:=⟨124,true,[],ti124,to124.Den,F124,resF T [.cell 4 27] 16 to124 []⟩
def tb124:Nat→Option TEnt:=insT 124 te124 tb121
theorem ok124:TbOk Tryz.prog tb124:=TbOk.ins ok121 (fun_ok ok121 layOk mixed true _ ti124 to124 [] noPl noIv Tryz.func124 rfl Tryz.results124 Tryz.ntmps124 (by kernel_rfl) (by kernel_rfl) Tryz.call124 F124 fun x _ h=>(r124 x).trans h)
abbrev ti49126:SPat:=⟨[(0,.sl tg27),(1,.i .i64),(2,.fn 48 (pl []))],[]⟩
abbrev to49126:SPat:=⟨[(6,.b)],[]⟩
def F49126:List Cst×Int→Option (Bool):=fun (pool,i) =>
 bindO (F124 (pool,i)) fun (y,y1,y2,y3) =>
 cndO (decide (y=(1:Int)))
  (bindO (F48 y1) fun y4 =>
  some (y4))
  (some (false))
theorem r49126 (x:List Cst×Int):funT T tb124 noPl 20 noIv (bodyOf Tryz.f126) ti49126 to49126 x=F49126 x:=by kernel_rfl
def te49126:TEnt:=⟨126,true,[],ti49126,to49126.Den,F49126,resF T [.tmp 6] 20 to49126 []⟩
def tb49126:Nat→Option TEnt:=insT 49126 te49126 tb124
theorem ok49126:TbOk Tryz.prog tb49126:=TbOk.ins ok124 (fun_ok ok124 layOk mixed true _ ti49126 to49126 [] noPl noIv Tryz.func126 rfl Tryz.results126 Tryz.ntmps126 (by kernel_rfl) (by kernel_rfl) Tryz.call126 F49126 fun x _ h=>(r49126 x).trans h)
abbrev ti122126:SPat:=⟨[(0,.sl tg27),(1,.i .i64),(2,.fn 121 (pl []))],[]⟩
abbrev to122126:SPat:=⟨[(6,.b)],[]⟩
def F122126:List Cst×Int→Option (Bool):=fun (pool,i) =>
 bindO (F124 (pool,i)) fun (y,y1,y2,y3) =>
 cndO (decide (y=(1:Int)))
  (bindO (F121 y1) fun y4 =>
  some (y4))
  (some (false))
theorem r122126 (x:List Cst×Int):funT T tb49126 noPl 20 noIv (bodyOf Tryz.f126) ti122126 to122126 x=F122126 x:=by kernel_rfl
def te122126:TEnt:=⟨126,true,[],ti122126,to122126.Den,F122126,resF T [.tmp 6] 20 to122126 []⟩
def tb122126:Nat→Option TEnt:=insT 122126 te122126 tb49126
theorem ok122126:TbOk Tryz.prog tb122126:=TbOk.ins ok49126 (fun_ok ok49126 layOk mixed true _ ti122126 to122126 [] noPl noIv Tryz.func126 rfl Tryz.results126 Tryz.ntmps126 (by kernel_rfl) (by kernel_rfl) Tryz.call126 F122126 fun x _ h=>(r122126 x).trans h)
abbrev ti125:SPat:=⟨[(0,.sl tg27),(1,.i .i64)],[]⟩
abbrev to125:SPat:=⟨[(4,.b)],[]⟩
def F125:List Cst×Int→Option (Bool):=fun (pool,i) =>
 bindO (F124 (pool,i)) fun (y,y1,y2,y3) =>
 cndO (decide (y=(2:Int)))
  (bindO (F49126 (pool,y2)) fun y4 =>
  some (y4))
  (some (false))
theorem r125 (x:List Cst×Int):funT T tb122126 noPl 18 noIv (bodyOf Tryz.f125) ti125 to125 x=F125 x:=by kernel_rfl
def te125:TEnt:=⟨125,true,[],ti125,to125.Den,F125,resF T [.tmp 4] 18 to125 []⟩
def tb125:Nat→Option TEnt:=insT 125 te125 tb122126
theorem ok125:TbOk Tryz.prog tb125:=TbOk.ins ok122126 (fun_ok ok122126 layOk mixed true _ ti125 to125 [] noPl noIv Tryz.func125 rfl Tryz.results125 Tryz.ntmps125 (by kernel_rfl) (by kernel_rfl) Tryz.call125 F125 fun x _ h=>(r125 x).trans h)
abbrev ti123126:SPat:=⟨[(0,.sl tg27),(1,.i .i64),(2,.fn 122 (pl []))],[]⟩
abbrev to123126:SPat:=⟨[(6,.b)],[]⟩
def F123126:List Cst×Int→Option (Bool):=fun (pool,i) =>
 bindO (F124 (pool,i)) fun (y,y1,y2,y3) =>
 cndO (decide (y=(1:Int)))
  (bindO (F122 y1) fun y4 =>
  some (y4))
  (some (false))
theorem r123126 (x:List Cst×Int):funT T tb125 noPl 20 noIv (bodyOf Tryz.f126) ti123126 to123126 x=F123126 x:=by kernel_rfl
def te123126:TEnt:=⟨126,true,[],ti123126,to123126.Den,F123126,resF T [.tmp 6] 20 to123126 []⟩
def tb123126:Nat→Option TEnt:=insT 123126 te123126 tb125
theorem ok123126:TbOk Tryz.prog tb123126:=TbOk.ins ok125 (fun_ok ok125 layOk mixed true _ ti123126 to123126 [] noPl noIv Tryz.func126 rfl Tryz.results126 Tryz.ntmps126 (by kernel_rfl) (by kernel_rfl) Tryz.call126 F123126 fun x _ h=>(r123126 x).trans h)
abbrev ti123123:SPat:=⟨[(0,.fn 122 (pl [])),(1,.ptr 100000 0),(2,.ptr 100001 0)],[.box 100000 (pl [.sl tg27]),.box 100001 (pl [.i .i64,.s,.i .i64,.i .i64])]⟩
abbrev to123123:SPat:=⟨[(4,.b)],[.box 100000 (pl [.sl tg27]),.box 100001 (pl [.i .i64,.s,.i .i64,.i .i64])]⟩
def F123123:List Cst×Cst→Option (Bool×List Cst×Cst):=fun (o0,o01,o1,o2,o3) =>
 bindO (F124 (o0,o3)) fun (y,y1,y2,y3) =>
 cndO (decide (o1=[]))
  (bindO (F125 (o0,o2)) fun y4 =>
  cndO (y4)
   (cndO (decide (y=(3:Int)))
    (bindO (F123126 (o0,y3)) fun y5 =>
    some ((y5,o0,o01,o1,o2,o3)))
    (some ((false,o0,o01,o1,o2,o3))))
   (some ((false,o0,o01,o1,o2,o3))))
  (some ((false,o0,o01,o1,o2,o3)))
theorem r123123 (x:List Cst×Cst):funT T tb123126 noPl 31 noIv (bodyOf Tryz.f123) ti123123 to123123 x=F123123 x:=by kernel_rfl
def te123123:TEnt:=⟨123,false,[(1,[]),(2,[])],ti123123,to123123.Den,F123123,resF T [.tmp 4] 31 to123123 [100000,100001]⟩
def tb123123:Nat→Option TEnt:=insT 123123 te123123 tb123126
theorem ok123123:TbOk Tryz.prog tb123123:=TbOk.ins ok123126 (fun_ok ok123126 layOk mixed false _ ti123123 to123123 [100000,100001] noPl noIv Tryz.func123 rfl Tryz.results123 Tryz.ntmps123 (by kernel_rfl) (by kernel_rfl) Tryz.call123 F123123 fun x _ h=>(r123123 x).trans h)
abbrev ti114126:SPat:=⟨[(0,.sl tg27),(1,.i .i64),(2,.fn 113 (pl []))],[]⟩
abbrev to114126:SPat:=⟨[(6,.b)],[]⟩
def F114126:List Cst×Int→Option (Bool):=fun (pool,i) =>
 bindO (F124 (pool,i)) fun (y,y1,y2,y3) =>
 cndO (decide (y=(1:Int)))
  (bindO (F113 y1) fun y4 =>
  some (y4))
  (some (false))
theorem r114126 (x:List Cst×Int):funT T tb123123 noPl 20 noIv (bodyOf Tryz.f126) ti114126 to114126 x=F114126 x:=by kernel_rfl
def te114126:TEnt:=⟨126,true,[],ti114126,to114126.Den,F114126,resF T [.tmp 6] 20 to114126 []⟩
def tb114126:Nat→Option TEnt:=insT 114126 te114126 tb123123
theorem ok114126:TbOk Tryz.prog tb114126:=TbOk.ins ok123123 (fun_ok ok123123 layOk mixed true _ ti114126 to114126 [] noPl noIv Tryz.func126 rfl Tryz.results126 Tryz.ntmps126 (by kernel_rfl) (by kernel_rfl) Tryz.call126 F114126 fun x _ h=>(r114126 x).trans h)
abbrev ti114123:SPat:=⟨[(0,.fn 113 (pl [])),(1,.ptr 100000 0),(2,.ptr 100001 0)],[.box 100000 (pl [.sl tg27]),.box 100001 (pl [.i .i64,.s,.i .i64,.i .i64])]⟩
abbrev to114123:SPat:=⟨[(4,.b)],[.box 100000 (pl [.sl tg27]),.box 100001 (pl [.i .i64,.s,.i .i64,.i .i64])]⟩
def F114123:List Cst×Cst→Option (Bool×List Cst×Cst):=fun (o0,o01,o1,o2,o3) =>
 bindO (F124 (o0,o3)) fun (y,y1,y2,y3) =>
 cndO (decide (o1=[]))
  (bindO (F125 (o0,o2)) fun y4 =>
  cndO (y4)
   (cndO (decide (y=(3:Int)))
    (bindO (F114126 (o0,y3)) fun y5 =>
    some ((y5,o0,o01,o1,o2,o3)))
    (some ((false,o0,o01,o1,o2,o3))))
   (some ((false,o0,o01,o1,o2,o3))))
  (some ((false,o0,o01,o1,o2,o3)))
theorem r114123 (x:List Cst×Cst):funT T tb114126 noPl 31 noIv (bodyOf Tryz.f123) ti114123 to114123 x=F114123 x:=by kernel_rfl
def te114123:TEnt:=⟨123,false,[(1,[]),(2,[])],ti114123,to114123.Den,F114123,resF T [.tmp 4] 31 to114123 [100000,100001]⟩
def tb114123:Nat→Option TEnt:=insT 114123 te114123 tb114126
theorem ok114123:TbOk Tryz.prog tb114123:=TbOk.ins ok114126 (fun_ok ok114126 layOk mixed false _ ti114123 to114123 [100000,100001] noPl noIv Tryz.func123 rfl Tryz.results123 Tryz.ntmps123 (by kernel_rfl) (by kernel_rfl) Tryz.call123 F114123 fun x _ h=>(r114123 x).trans h)
abbrev ti52:SPat:=⟨[(0,.sl tg27),(1,.agg (pl [.i .i64,.s,.i .i64,.i .i64]))],[]⟩
abbrev to52:SPat:=⟨[(4,.b)],[]⟩
abbrev ts52_2000000:SPat:=⟨[],[]⟩
def tv52:Nat→Option SPat:=fun k=>bif k == 2000000 then some ts52_2000000 else none
def F52:List Cst×Cst→Option (Bool):=fun (app,v10,v11,v12,v13) =>
 bindE (cndO (decide (v10=(1:Int)))
   (cndO (decide (v12=(0:Int)))
    (cndO (decide (v13=(0:Int)))
     (bindO (F48 v11) fun y =>
     cndO (y)
      (some (Sum.inr true))
      (bindO (F121 v11) fun y1 =>
      some (Sum.inr y1)))
     (some (Sum.inr false)))
    (some (Sum.inr false)))
   (cndO (decide (v10=(2:Int)))
    (cndO (decide (v11=[]))
     (cndO (decide (v13=(0:Int)))
      (bindO (F49126 (app,v12)) fun y =>
      some (Sum.inr y))
      (some (Sum.inr false)))
     (some (Sum.inr false)))
    (cndO (decide (v10=(3:Int)))
     (cndO (decide (v11=[]))
      (bindO (F49126 (app,v12)) fun y =>
      cndO (y)
       (bindO (F122126 (app,v13)) fun y1 =>
       some (Sum.inr y1))
       (some (Sum.inr false)))
      (some (Sum.inr false)))
     (cndO (decide (v10=(4:Int)))
      (bindO (F123123 (app,v10,v11,v12,v13)) fun (y,y1,y2,y3,y4,y5) =>
      some (Sum.inr y))
      (cndO (decide (v10=(5:Int)))
       (bindO (F114123 (app,v10,v11,v12,v13)) fun (y,y1,y2,y3,y4,y5) =>
       some (Sum.inr y))
       (cndO (decide (v10=(6:Int)))
        (bindO (F114123 (app,v10,v11,v12,v13)) fun (y,y1,y2,y3,y4,y5) =>
        some (Sum.inr y))
        (some (Sum.inl ())))))))) fun _ =>
 some (false)
theorem r52 (x:List Cst×Cst):funT T tb114123 noPl 74 tv52 (bodyOf Tryz.f52) ti52 to52 x=F52 x:=by kernel_rfl
def te52:TEnt:=⟨52,true,[],ti52,to52.Den,F52,resF T [.tmp 4] 74 to52 []⟩
def tb52:Nat→Option TEnt:=insT 52 te52 tb114123
theorem ok52:TbOk Tryz.prog tb52:=TbOk.ins ok114123 (fun_ok ok114123 layOk mixed true _ ti52 to52 [] noPl tv52 Tryz.func52 rfl Tryz.results52 Tryz.ntmps52 (by kernel_rfl) (by kernel_rfl) Tryz.call52 F52 fun x _ h=>(r52 x).trans h)
abbrev ti14:SPat:=⟨[(0,.sl tg27)],[]⟩
abbrev to14:SPat:=⟨[(2,.i .i64)],[]⟩
abbrev ts14_2:SPat:=⟨[(0,.sl tg27),(5,.sl tg27),(6,.i .i64),(7,.i .i64)],[]⟩
abbrev ts14_2000000:SPat:=⟨[],[]⟩
def tv14:Nat→Option SPat:=fun k=>bif k == 2 then some ts14_2 else bif k == 2000000 then some ts14_2000000 else none
def F14:List Cst→Option (Int):=fun pool =>
 bindE (whileO (fun (pool1,v5,v6,v7) =>
   cndO (decide (v7<v6))
    (grdO (decide ((0:Int)≤v7)) (atO (v5) v7.toNat fun x=>cndO (decide (v7=(60:Int)))
     (some (Sum.inr (Sum.inr (61:Int))))
     (bindO (F52 (pool1,x.1,x.2.1,x.2.2.1,x.2.2.2)) fun y =>
     cndO (!y)
      (some (Sum.inr (Sum.inr (IntKind.wrap .i64 (v7+(1:Int))))))
      (some (Sum.inl (pool1,v5,v6,IntKind.wrap .i64 (v7+(1:Int))))))))
    (some (Sum.inr (Sum.inl ())))) ((pool,pool,(pool.length:Int),(0:Int)))) fun _ =>
 some ((0:Int))
theorem r14 (x:List Cst):funT T tb52 noPl 21 tv14 (bodyOf Tryz.f14) ti14 to14 x=F14 x:=by kernel_rfl
def te14:TEnt:=⟨14,true,[],ti14,to14.Den,F14,resF T [.tmp 2] 21 to14 []⟩
def tb14:Nat→Option TEnt:=insT 14 te14 tb52
theorem ok14:TbOk Tryz.prog tb14:=TbOk.ins ok52 (fun_ok ok52 layOk mixed true _ ti14 to14 [] noPl tv14 Tryz.func14 rfl Tryz.results14 Tryz.ntmps14 (by kernel_rfl) (by kernel_rfl) Tryz.call14 F14 fun x _ h=>(r14 x).trans h)
abbrev ti3:SPat:=⟨[(0,.sl .byte)],[]⟩
abbrev to3:SPat:=⟨[(2,.b)],[]⟩
abbrev ts3_1000006:SPat:=⟨[(3,.own tg27 true),(4,.i .i64),(26,.b)],[]⟩
def tv3:Nat→Option SPat:=fun k=>bif k == 1000006 then some ts3_1000006 else none
def F3:List UInt8→Option (Bool):=fun app =>
 cndO (decide ((1048576:Int)<(app.length:Int)))
  (some (true))
  (bindO (F13 app) fun y =>
  bindO (F14 y) fun y1 =>
  bindE (Y:=List Cst×Int×Bool) (bindO (F15 y) fun y2 =>
   cndO (!decide (y1=y2))
    (some (Sum.inl (y,y1,true)))
    (cndO (!decide (y1=(0:Int)))
     (some (Sum.inl (y,y1,true)))
     (some (Sum.inl (y,y1,decide ((60:Int)≤(y.length:Int))))))) fun (v3,v4,v26) =>
  cndO (v26)
   (bindO (F15 v3) fun y2 =>
   cndO (decide (v4=y2))
    (cndO (decide ((0:Int)≤v4))
     (some (decide (v4≤(v3.length:Int))))
     (some (false)))
    (some (false)))
   (grdO (decide (List.length v3≤(9223372036854775807:Nat)) && decide (List.length v3*(40:Nat)≤(140737488355328:Nat))) (grdO (decide (List.length v3+(1:Nat)≤(9223372036854775807:Nat)) && decide ((List.length v3+(1:Nat))*(40:Nat)≤(140737488355328:Nat))) (grdO (decide (List.length v3≤(9223372036854775807:Nat)) && decide (List.length v3*(40:Nat)≤(140737488355328:Nat))) (grdO (decide (List.length v3+(1:Nat)≤(9223372036854775807:Nat)) && decide ((List.length v3+(1:Nat))*(40:Nat)≤(140737488355328:Nat))) (bindO (F14 (v3++[((1:Int),[(102:UInt8),114,101,115,104],(0:Int),(0:Int))])) fun y2 =>
   cndO (decide (y2=(0:Int)))
    (bindO (F14 (v3++[((2:Int),[],IntKind.wrap .i64 ((v3.length:Int)+(1:Int)),(0:Int))])) fun y3 =>
    some (decide (y3=IntKind.wrap .i64 ((v3.length:Int)+(1:Int)))))
    (some (false))))))))
theorem r3 (x:List UInt8):funT T tb14 noPl 67 tv3 (bodyOf Tryz.f3) ti3 to3 x=F3 x:=by kernel_rfl
def te3:TEnt:=⟨3,true,[],ti3,to3.Den,F3,resF T [.tmp 2] 67 to3 []⟩
theorem c3:CtrOk Tryz.prog 3 te3.W:=fun_ok ok14 layOk mixed true _ ti3 to3 [] noPl tv3 Tryz.func3 rfl Tryz.results3 Tryz.ntmps3 (by kernel_rfl) (by kernel_rfl) Tryz.call3 F3 fun x _ h=>(r3 x).trans h
end Go.Proofs.YtdpapeledldifaaGreat
end
noncomputable section
namespace Go.Proofs.YtdpapeledldifaaGreat
open Go Go.AM Go.TM
set_option maxRecDepth 100000
set_option maxHeartbeats 4000000
end Go.Proofs.YtdpapeledldifaaGreat
end
noncomputable section
namespace Go.Proofs.YtdpapeledldifaaGreat
open Go Go.AM Go.TM
set_option maxRecDepth 100000
set_option maxHeartbeats 4000000
end Go.Proofs.YtdpapeledldifaaGreat
end
noncomputable section
namespace Go.Proofs.YtdpapeledldifaaGreat
open Go Go.AM Go.TM
set_option maxRecDepth 100000
set_option maxHeartbeats 4000000
end Go.Proofs.YtdpapeledldifaaGreat
end
noncomputable section
namespace Go.Proofs.YtdpapeledldifaaGreat
open Go Go.AM Go.TM
set_option maxRecDepth 100000
set_option maxHeartbeats 4000000
end Go.Proofs.YtdpapeledldifaaGreat
end
noncomputable section
namespace Go.Proofs.YtdpapeledldifaaGreat
open Go Go.AM Go.TM
set_option maxRecDepth 100000
set_option maxHeartbeats 4000000
end Go.Proofs.YtdpapeledldifaaGreat
end
noncomputable section
namespace Go.Proofs.YtdpapeledldifaaGreat
open Go Go.AM Go.TM
set_option maxRecDepth 100000
set_option maxHeartbeats 4000000
end Go.Proofs.YtdpapeledldifaaGreat
end
section
namespace Go.Proofs.YtdpapeledldifaaGreat
open Go Go.AM Go.TM Go.RowKit Go.ChangeShapes Go.WideShapes Go.ChangeAt
theorem rowL3 (x:List UInt8) (h:F3 x=some true):AC Tryz.prog 3 (encC false (.sl .byte) x) [] fun sv _=>sv = .b true :=
 law_args c3 x true rfl rfl h rfl
set_option maxRecDepth 100000 in
theorem lifted3 (hall:∀ x:List UInt8,F3 x=some true) (os:Os) (started:os.Started) (H:Type) (enc:TypeId×Value→H) :
  ReturnsInHanded {} Tryz.checked os 3 .any (Rows.fnPoolSpec.pre6 enc Tryz.prog Tryz.f3 [] false) (Rows.fnPoolSpec.post enc Tryz.prog Tryz.f3 false true false false):=by
 refine returnsInHanded_of_change_sized (C:=Tryz.checked) own started (by kernel_rfl) Tryz.func3
  (ChangeSpec.witness6 (enc:=enc) (C:=Tryz.checked) false ⟨#[],#[.slice none 0 0],[]⟩ 8 (by kernel_rfl) (by kernel_rfl) (by kernel_rfl) (by kernel_rfl)) ?_
 intro W base args ds gs before hval0 hW _ hsz0 _
 have hval:∀ (j:Nat) t v,Tryz.f3.params[j]? = some t→args[j]? = some v→Value.okWide Tryz.prog W .any base t v:=hval0
 have hsz:(DataW.weightsEach Tryz.prog (Tryz.f3.params.toList++[]) (ds++gs)).all (· ≤ reachBytes)=true:=hsz0
 have hW':=hW
 obtain ⟨p,q,hA0,hV,rfl,hfz,hnd⟩:=hW
 have hA:DataW.TrodAll enc Tryz.prog W 0 (fun _=>true) true Tryz.f3.params.toList args.toList ds p:=hA0
 rw [Tryz.params3] at hA hval hsz
 obtain ⟨v0,d0,rfl,rfl,h0⟩:=trodAll_one hA
 obtain ⟨rfl,rfl⟩:=trodVars_none hV
 obtain ⟨b0,n0,k0,rfl⟩:=okWide_slice Tryz.underlying22 (hval 0 22 v0 rfl rfl)
 have h0k:=h0
 obtain ⟨fuel,ht⟩:=h0
 obtain ⟨x,sx,lx,ox,rx⟩:=opens 8 fuel (.sl .byte) 22 [.slice b0 n0 k0] d0 p rd22 ht (fun m hm=>by
  have:=List.all_eq_true.1 hsz m (by simpa [DataW.weightsEach] using hm)
  simpa using this)
 have hlt:∀ z∈p,z.block<W.heap.size:=fun z hz=>hW'.lt z (by simpa using hz)
 refine (calls_law Tryz.func3 (by kernel_rfl) (by kernel_rfl) (rowL3 x (hall x)) (fun _ _ h=>h) rfl (fun G hG=>rx G hG)).mono fun e W' ⟨he,hb⟩=>?_
 subst he
 exact ⟨_,rfl,[d0],[],p++[],[],p,[],hW',trodAll_mk1 (shut_bool Tryz.underlying4 true),trodAll_mk1 (Below.trod laidOut (by kernel_rfl) (of_decide_eq_true (by kernel_rfl)) h0k hb hlt),rfl,hb.frame _,fun h=>by cases h⟩
end Go.Proofs.YtdpapeledldifaaGreat
end
section
namespace Go.Proofs.YtdpapeledldifaaGreat
open Go Go.AM Go.TM Go.RowKit Go.ChangeShapes Go.WideShapes Go.ChangeAt
set_option maxHeartbeats 4000000 in
theorem joined3:joinedFacts Tryz.pinned.checked.prog 3 Tryz.f3 Rows.fnPoolSpec Rows.fnPoolRow=true:=by
 unfold joinedFacts
 repeat' with_reducible apply band
 all_goals (as_aux_lemma=>kernel_rfl)
end Go.Proofs.YtdpapeledldifaaGreat
end
section
namespace Go.Proofs.YtdpapeledldifaaGreat
open Go Go.AM Go.TM Go.RowKit Go.ChangeShapes Go.WideShapes Go.ChangeAt
theorem fnPool_of (hall:∀ x:List UInt8,F3 x=some true):Rows.FnPoolSaid :=
 OpenClaim.holds_of_wide 3 Tryz.f3 rfl rfl rfl rfl rfl rfl rfl ⟨rfl,rfl,rfl,rfl,rfl⟩ rfl rfl rfl rfl rfl (by kernel_rfl) Tryz.func3 joined3
  (of_decide_eq_true (by kernel_rfl)) (by unfold Func.isWrapper;first | (rw [if_pos (by decide +kernel)];kernel_rfl) | (rw [if_neg (by decide +kernel)];exact ⟨rfl,rfl⟩))
  (fun os started H enc _=>lifted3 hall os started H enc)
end Go.Proofs.YtdpapeledldifaaGreat
end
section
namespace Go.TM
open Go.AM
section
variable {α β X Y R:Type} {Q:R→Prop}
def Tot (r:Option R) (Q:R→Prop):Prop:=∃ a,r=some a∧Q a
theorem Tot.ret {a:R} (h:Q a):Tot (some a) Q:=⟨a,rfl,h⟩
theorem Tot.mono {r:Option R} {Q':R→Prop} (h:Tot r Q) (g:∀ a,Q a→Q' a):Tot r Q':=by
 obtain ⟨a,e,h⟩:=h;exact ⟨a,e,g a h⟩
theorem Tot.bind {x:Option α} {P:α→Prop} {k:α→Option R} (h:Tot x P) (hk:∀ a,P a→Tot (k a) Q):Tot (bindO x k) Q:=by
 obtain ⟨a,rfl,h⟩:=h;exact hk a h
theorem Tot.grd {t:Bool} {k:Option R} (ht:t=true) (h:Tot k Q):Tot (grdO t k) Q:=by subst ht;exact h
theorem Tot.cnd {t:Bool} {a b:Option R} (h1:t=true→Tot a Q) (h2:t=false→Tot b Q):Tot (cndO t a b) Q:=by
 cases t
 ·exact h2 rfl
 ·exact h1 rfl
theorem Tot.at {l:List α} {n:Nat} {k:α→Option R} (hn:n<l.length) (h:∀ x,l[n]? = some x→Tot (k x) Q):Tot (atO l n k) Q:=by
 have e:l[n]? = some l[n]:=List.getElem?_eq_getElem hn
 show Tot (match l[n]? with | some x=>k x | none=>none) Q
 rw [e];exact h _ e
theorem Tot.at' {l:List α} {n:Nat} {k:α→Option R} {x:α} (e:l[n]? = some x) (h:Tot (k x) Q):Tot (atO l n k) Q:=by
 show Tot (match l[n]? with | some x=>k x | none=>none) Q
 rw [e];exact h
theorem Tot.seq {u:Option Unit} {k:Option R} (h1:Tot u fun _=>True) (h:Tot k Q):Tot (seqU u k) Q:=by
 obtain ⟨a,rfl,_⟩:=h1;exact h
theorem Tot.bindE {x:Option (Y ⊕ R)} {k:Y→Option R} (P:Y→Prop) (h:Tot x (Sum.elim P Q)) (hk:∀ y,P y→Tot (k y) Q):Tot (bindE x k) Q:=by
 obtain ⟨a,rfl,h⟩:=h
 cases a with
 | inl y=>exact hk y h
 | inr r=>exact ⟨r,rfl,h⟩
theorem Tot.loop {f : X → Option (X ⊕ R)} (I : X → Prop) (μ : X → Nat) (hs : ∀ x, I x → Tot (f x) (Sum.elim (fun y => I y ∧ μ y < μ x) Q)) : ∀ {x : X}, I x → Tot (whileO f x) Q := by
 have key : ∀ n x, μ x ≤ n → I x → Tot (whileO f x) Q := by
  intro n
  induction n with
  | zero =>
   intro x hx hi
   obtain ⟨a, e, h⟩ := hs x hi
   rw [whileO_eq, e]
   cases a with
   | inl y => exact absurd h.2 (by omega)
   | inr r => exact ⟨r, rfl, h⟩
  | succ n ih =>
   intro x hx hi
   obtain ⟨a, e, h⟩ := hs x hi
   rw [whileO_eq, e]
   cases a with
   | inl y => exact ih y (by have := h.2; omega) h.1
   | inr r => exact ⟨r, rfl, h⟩
 intro x hi
 exact key _ x (Nat.le_refl _) hi
theorem both_same (a:Option R):bothO a a=a:=by unfold bothO;rw [if_pos rfl]
end
end Go.TM
end
section
namespace Go.TM
open Go.AM
section
variable {R α X Y:Type}
@[simp] theorem cndO_t (A B:Option R):cndO true A B=A:=rfl
@[simp] theorem cndO_f (A B:Option R):cndO false A B=B:=rfl
@[simp] theorem cndO_d {p:Prop} [Decidable p] (A B:Option R):cndO (decide p) A B=if p then A else B:=by
 by_cases h:p <;> simp [h]
@[simp] theorem cndO_n (b:Bool) (A B:Option R):cndO (!b) A B=cndO b B A:=by cases b <;> rfl
@[simp] theorem grdO_t (A:Option R):grdO true A=A:=rfl
theorem grdO_d {p:Prop} [Decidable p] {A:Option R} (h:p):grdO (decide p) A=A:=by simp [h]
theorem grdO_and (a b:Bool) (A:Option R):grdO (a && b) A=grdO a (grdO b A):=by cases a <;> rfl
@[simp] theorem bindO_s (a:α) (k:α→Option R):bindO (some a) k=k a:=rfl
@[simp] theorem bindE_l (y:Y) (k:Y→Option R):bindE (some (.inl y)) k=k y:=rfl
@[simp] theorem bindE_r (r:R) (k:Y→Option R):bindE (some (.inr r)) k=some r:=rfl
@[simp] theorem seqU_s (u:Unit) (k:Option R):seqU (some u) k=k:=rfl
theorem atO_at {l:List α} {n:Nat} {x:α} {k:α→Option R} (h:l[n]? = some x):atO l n k=k x:=by unfold atO;rw [h]
theorem atO_get {l:List α} {n:Nat} {k:α→Option R} (h:n<l.length):atO l n k=k l[n]:=atO_at (List.getElem?_eq_getElem h)
theorem bindE_if {c:Prop} [Decidable c] (A B:Option (Y ⊕ R)) (k:Y→Option R):bindE (if c then A else B) k=if c then bindE A k else bindE B k:=by split <;> rfl
theorem drop_cons {l:List α} {n:Nat} (h:n<l.length):l.drop n=l[n] :: l.drop (n+1):=List.drop_eq_getElem_cons h
end
end Go.TM
end
section
namespace Go.TM
open Go.AM
section
variable {α β:Type}
def SzOk (r:Option Int) (left:Int) (P:Prop):Prop:=∃ y,r=some y ∧ -1≤y∧y≤left∧(0≤y→P)
theorem SzOk.bind {r:Option Int} {k:Int→Option Int} {left:Int} {P Q:Prop} (h:SzOk r left P) (hk:∀ y,0≤y→y≤left→SzOk (k y) y Q) :
  SzOk (bindO r fun y=>cndO (decide (y<(0:Int))) (some (-1:Int)) (k y)) left (P∧Q):=by
 obtain ⟨y,h1,h2,h3,h4⟩:=h
 rw [h1,bindO_s,cndO_d]
 by_cases hy:y<0
 ·rw [if_pos hy];exact ⟨-1,rfl,by omega,by omega,by omega⟩
 ·rw [if_neg hy]
  obtain ⟨z,g1,g2,g3,g4⟩:=hk y (by omega) h3
  exact ⟨z,g1,g2,by omega,fun hz=>⟨h4 (by omega),g4 hz⟩⟩
end
end Go.TM
end
section
namespace Go.Proofs.YtdpapeledldifaaGreat
open Go Go.AM Go.TM
def Rd (c:Nat) (r:List UInt8×Int):Prop:=r.1.length≤2000∧0≤r.2∧r.2≤c
theorem Rd.mono {c d:Nat} {r:List UInt8×Int} (h:Rd c r) (hc:c≤d):Rd d r:=⟨h.1,h.2.1,by have:=h.2.2;omega⟩
theorem xorI_nonneg {a b:Int} (ha:0≤a) (ha':a<9223372036854775808) (hb:0≤b) (hb':b<9223372036854775808):0≤xorI .i64 a b:=by
 unfold xorI
 have e:∀ {x:Int},0≤x→x<9223372036854775808→(BitVec.ofInt 64 x).toNat=x.toNat:=by
  intro x h0 h1
  rw [BitVec.toNat_ofInt]
  show (x % ((2 ^ 64:Nat):Int)).toNat=_
  rw [Int.emod_eq_of_lt h0 (by omega)]
 show 0≤IntKind.wrap .i64 ((BitVec.ofInt 64 a ^^^ BitVec.ofInt 64 b).toNat:Int)
 rw [BitVec.toNat_xor,e ha ha',e hb hb']
 have h:=Nat.xor_lt_two_pow (n:=63) (show a.toNat<2 ^ 63 by omega) (show b.toNat<2 ^ 63 by omega)
 rw [wrapI (by omega) (by omega)]
 omega
theorem tmod_ran {a n:Int} (ha:0≤a) (hn:1≤n):0≤Int.tmod a n∧Int.tmod a n<n:=by
 rw [Int.tmod_eq_emod_of_nonneg ha]
 exact ⟨Int.emod_nonneg _ (by omega),Int.emod_lt_of_pos _ (by omega)⟩
theorem tdiv_ran {a n:Int} (ha:0≤a) (hn:1≤n):0≤Int.tdiv a n∧Int.tdiv a n≤a:=by
 rw [Int.tdiv_eq_ediv_of_nonneg ha]
 exact ⟨Int.ediv_nonneg ha (by omega),Int.ediv_le_self _ ha⟩
theorem byte_ran (x:UInt8):(0:Int)≤(x.toNat:Int)∧(x.toNat:Int)≤255:=by
 have:=x.toNat_lt;omega
theorem t51 {n:Int} {r:List UInt8×Int} {c:Nat} (h:Rd c r) (hc:c≤1000000):Tot (F51 (n,r)) fun y=>0≤y.1∧(1≤n→y.1<n)∧(n<1→y.1=0)∧Rd (c+1) y.2:=by
 obtain ⟨b,p⟩:=r
 obtain ⟨hb,h0,h1⟩:=h
 simp only at hb h0 h1
 have hR:Rd (c+1) (b,p+1):=⟨hb,by show (0:Int)≤p+1;omega,by show p+1≤((c+1:Nat):Int);omega⟩
 unfold F51
 simp only [show IntKind.wrap .i64 (p+1)=p+1 from wrapI (by omega) (by omega)]
 refine Tot.bindE (fun y=>y=(n,b,p+1)∧1≤n∧b≠[]) ?_ ?_
 ·refine Tot.cnd (fun hn=>?_) (fun hn=>?_)
  ·simp only [decide_eq_true_eq] at hn
   exact Tot.ret ⟨by simp,fun h=>absurd h (by omega),fun _=>rfl,hR⟩
  ·simp only [decide_eq_false_iff_not] at hn
   refine Tot.cnd (fun hb=>?_) (fun hb=>?_)
   ·exact Tot.ret ⟨by simp,fun h=>by show (0:Int)<n;omega,fun _=>rfl,hR⟩
   ·simp only [decide_eq_false_iff_not] at hb
    exact Tot.ret ⟨rfl,by omega,fun e=>hb (by rw [e];rfl)⟩
 ·rintro _ ⟨rfl,hn,hne⟩
  have hl:1≤b.length:=by cases b;exact absurd rfl hne;simp
  simp only [show IntKind.wrap .i64 (p+1 - 1)=p by rw [show p+1 - 1=p by omega];exact wrapI (by omega) (by omega)]
  have hnz:(!decide (n=0))=true:=by simp;omega
  have hlz:(!decide (((b.length:Nat):Int)=0))=true:=by simp;omega
  refine Tot.cnd (fun hk=>?_) (fun hk=>?_)
  ·simp only [decide_eq_true_eq] at hk
   refine Tot.grd (by simpa using h0) (Tot.at (by omega) fun x hx=>Tot.grd hnz ?_)
   have hx:=byte_ran x
   have hw:IntKind.wrap .i64 ((x.toNat:Nat):Int)=x.toNat:=wrapI (by omega) (by omega)
   rw [hw]
   have:=tmod_ran (n:=n) hx.1 hn
   exact Tot.ret ⟨this.1,fun _=>this.2,fun h=>absurd h (by omega),hR⟩
  ·have hm1:=tmod_ran (a:=p) (n:=(b.length:Int)) h0 (by omega)
   have w7:IntKind.wrap .i64 (IntKind.wrap .i64 (p*7)+3)=p*7+3:=by
    rw [wrapI (x:=p*7) (by omega) (by omega),wrapI (by omega) (by omega)]
   simp only [w7]
   have hm2:=tmod_ran (a:=p*7+3) (n:=(b.length:Int)) (by omega) (by omega)
   refine Tot.grd hlz (Tot.grd (by simpa using hm1.1) (Tot.at (by omega) fun x hx=>Tot.grd hlz (Tot.grd (by simpa using hm2.1) (Tot.at (by omega) fun x1 hx1=>Tot.grd hlz (Tot.grd hnz ?_)))))
   have hx:=byte_ran x
   have hx1:=byte_ran x1
   have hd:=tdiv_ran (a:=p) (n:=(b.length:Int)) h0 (by omega)
   generalize (x.toNat:Int)=u at hx ⊢
   generalize (x1.toNat:Int)=v at hx1 ⊢
   generalize Int.tdiv p (b.length:Int)=d at hd ⊢
   have e:IntKind.wrap .i64 (IntKind.wrap .i64 (IntKind.wrap .i64 (IntKind.wrap .i64 (IntKind.wrap .i64 u*131)+IntKind.wrap .i64 (IntKind.wrap .i64 v*1117))+IntKind.wrap .i64 (p*29))+IntKind.wrap .i64 (IntKind.wrap .i64 d*53))=u*131+v*1117+p*29+d*53:=by
    rw [wrapI (x:=u) (by omega) (by omega),wrapI (x:=v) (by omega) (by omega),wrapI (x:=d) (by omega) (by omega),wrapI (x:=u*131) (by omega) (by omega),wrapI (x:=v*1117) (by omega) (by omega),wrapI (x:=p*29) (by omega) (by omega),wrapI (x:=d*53) (by omega) (by omega),wrapI (x:=u*131+v*1117) (by omega) (by omega),wrapI (x:=u*131+v*1117+p*29) (by omega) (by omega),wrapI (by omega) (by omega)]
   simp only [e]
   generalize ht:u*131+v*1117+p*29+d*53=t
   have h64:=tdiv_ran (a:=t) (n:=64) (by omega) (by omega)
   rw [wrapI (x:=Int.tdiv t 64) (by omega) (by omega)]
   have hxo:=xorI_nonneg (a:=t) (b:=Int.tdiv t 64) (by omega) (by omega) (by omega) (by omega)
   have:=tmod_ran (n:=n) hxo hn
   exact Tot.ret ⟨this.1,fun _=>this.2,fun h=>absurd h (by omega),hR⟩
theorem tot_of {α:Type} {F:List α×List UInt8×Int→Option (α×List UInt8×Int)} (hF:∀ l r,F (l,r)=bindO (F51 (((l.length:Nat):Int),r)) fun y=>grdO (decide (0≤y.1)) (atO l y.1.toNat fun x=>some (x,y.2)))
  {l:List α} {r:List UInt8×Int} {c:Nat} (h:Rd c r) (hc:c≤1000000) (hl:l≠[]):Tot (F (l,r)) fun y=>y.1∈l∧Rd (c+1) y.2:=by
 rw [hF]
 have hl:1≤l.length:=by cases l;exact absurd rfl hl;simp
 refine Tot.bind (t51 h hc) fun y hy=>?_
 have:=hy.2.1 (by omega)
 refine Tot.grd (by simpa using hy.1) (Tot.at (by omega) fun x hx=>Tot.ret ⟨List.mem_of_getElem? hx,hy.2.2.2⟩)
theorem t105 {l:List Int} {r:List UInt8×Int} {c:Nat} (h:Rd c r) (hc:c≤1000000) (hl:l≠[]):Tot (F105 (l,r)) fun y=>y.1∈l∧Rd (c+1) y.2 :=
 tot_of (fun l r=>rfl) h hc hl
theorem t119 {l:List (List UInt8)} {r:List UInt8×Int} {c:Nat} (h:Rd c r) (hc:c≤1000000) (hl:l≠[]):Tot (F119 (l,r)) fun y=>y.1∈l∧Rd (c+1) y.2 :=
 tot_of (fun l r=>rfl) h hc hl
theorem t49 (code:List UInt8):Tot (F49 code) (Rd 0):=by
 unfold F49
 refine Tot.cnd (fun h=>?_) (fun h=>?_)
 ·simp only [decide_eq_true_eq] at h
  refine Tot.grd (by simp;omega) (Tot.ret ⟨?_,by simp,by simp⟩)
  simp only [List.drop_zero,List.length_take];omega
 ·simp only [decide_eq_false_iff_not] at h
  exact Tot.ret ⟨by simp only;omega,by simp,by simp⟩
end Go.Proofs.YtdpapeledldifaaGreat
end
section
namespace Go.Proofs.YtdpapeledldifaaGreat
open Go Go.AM Go.TM
theorem wrap_ran (n:Int) : -9223372036854775808≤IntKind.wrap .i64 n∧IntKind.wrap .i64 n≤9223372036854775807:=by
 simp only [IntKind.wrap,IntKind.bits,IntKind.signed]
 simp
 split <;> omega
theorem wrap8' (n:Int):0≤IntKind.wrap .u8 n∧IntKind.wrap .u8 n≤255:=by
 have h:IntKind.wrap .u8 n=n % 256:=by simp [IntKind.wrap,IntKind.bits,IntKind.signed]
 rw [h];omega
theorem u8ok (n:Int):(decide ((0:Int)≤IntKind.wrap .u8 n) && decide (IntKind.wrap .u8 n≤(255:Int)))=true:=by
 have:=wrap8' n;simp [this.1,this.2]
theorem d274 : ∀ (k : Nat) (n : Int), n ≤ 9223372036854775807 → 0 ≤ n → n < 10 ^ (k + 1) → k ≤ 30 → Tot (G274 (k + 1) n) fun s => s.length ≤ k + 1
 | 0, n, _, h0, h1, _ => by
  show Tot (H274 (G274 0) n) _
  unfold H274
  refine Tot.cnd (fun h => ?_) (fun _ => Tot.cnd (fun h => ?_) (fun _ => Tot.cnd (fun _ => Tot.grd (u8ok _) (Tot.ret (by simp))) (fun h => ?_)))
  ·simp only [decide_eq_true_eq] at h; omega
  ·simp only [decide_eq_true_eq] at h; omega
  ·simp only [decide_eq_false_iff_not] at h; omega
 | k + 1, n, hm, h0, h1, hk => by
  show Tot (H274 (G274 (k + 1)) n) _
  unfold H274
  refine Tot.cnd (fun h => ?_) (fun _ => Tot.cnd (fun h => ?_) (fun _ => Tot.cnd (fun _ => Tot.grd (u8ok _) (Tot.ret (by simp))) (fun h => ?_)))
  ·simp only [decide_eq_true_eq] at h; omega
  ·simp only [decide_eq_true_eq] at h; omega
  ·simp only [decide_eq_false_iff_not] at h
   have hp : (10 : Int) ^ (k + 1 + 1) = 10 ^ (k + 1) * 10 := Int.pow_succ _ _
   have hd : Int.tdiv n 10 = n / 10 := Int.tdiv_eq_ediv_of_nonneg h0
   have hlt : n / 10 < 10 ^ (k + 1) := by omega
   have hw : IntKind.wrap .i64 (Int.tdiv n 10) = n / 10 := by rw [hd]; exact wrapI (by omega) (by omega)
   obtain ⟨y, e, hy⟩ := d274 k (n / 10) (by omega) (by omega) hlt (by omega)
   rw [hw, e]
   simp only [bindO_s, decide_true, grdO_t, seqU_s, u8ok]
   have hl : decide (y.length + 1 ≤ 9223372036854775807) = true := by simp only [decide_eq_true_eq]; omega
   simp only [hl, grdO_t, both_same]
   exact Tot.ret (by simp only [List.length_append, List.length_cons, List.length_nil]; omega)
theorem t274 {n:Int} (h1 : -9223372036854775808≤n) (h2:n≤9223372036854775807):Tot (F274 n) fun s=>s.length≤25:=by
 have p23:(10:Int) ^ 23=100000000000000000000000:=by decide
 have p24:(10:Int) ^ 24=1000000000000000000000000:=by decide
 by_cases h0:0≤n
 ·exact (d274 23 n h2 h0 (by omega) (by omega)).mono fun s h=>by omega
 ·show Tot (H274 (G274 23) n) _
  unfold H274
  refine Tot.cnd (fun h=>Tot.ret (by simp)) (fun h=>Tot.cnd (fun _=>?_) (fun h=>?_))
  ·simp only [decide_eq_false_iff_not] at h
   rw [wrapI (x:=0 - n) (by omega) (by omega)]
   refine Tot.bind (d274 22 (0 - n) (by omega) (by omega) (by omega) (by omega)) fun y hy=>Tot.grd (by simp only [decide_eq_true_eq];omega) (Tot.ret ?_)
   simp only [List.length_append,List.length_cons,List.length_nil];omega
  ·simp only [decide_eq_false_iff_not] at h;omega
theorem t301 {list:List (List UInt8)} {s:List UInt8} (hl:list.length≤1000000000000):Tot (F301 (list,s)) fun _=>True:=by
 unfold F301
 refine Tot.bindE (fun _=>True) (Tot.loop (fun x=>x.1=list∧0≤x.2.2∧x.2.2≤(list.length:Int)) (fun x=>list.length - x.2.2.toNat) ?_ ⟨rfl,by simp,by simp⟩) (fun _ _=>Tot.ret trivial)
 rintro ⟨l,s,i⟩ ⟨rfl,h0,h1⟩
 simp only at hl
 refine Tot.cnd (fun h=>?_) (fun h=>Tot.ret trivial)
 simp only [decide_eq_true_eq] at h
 simp only at h0 h1
 refine Tot.grd (by simpa using h0) (Tot.at (by omega) fun x _=>Tot.cnd (fun _=>Tot.ret trivial) fun _=>Tot.ret ?_)
 simp only [Sum.elim_inl,true_and]
 rw [wrapI (by omega) (by omega)]
 omega
theorem t107 (a b c:Int):Tot (F107 (a,b,c)) fun _=>True:=by
 unfold F107
 exact Tot.cnd (fun _=>Tot.ret trivial) fun _=>Tot.ret trivial
theorem t251 (n:Int):Tot (F251 n) fun _=>True:=by
 unfold F251
 refine Tot.bindE (fun _=>True) ?_ fun y _=>?_
 ·exact Tot.cnd (fun _=>Tot.ret trivial) fun _=>Tot.cnd (fun _=>Tot.ret trivial) fun _=>Tot.cnd (fun _=>Tot.ret trivial) fun _=>Tot.cnd (fun _=>Tot.ret trivial) fun _=>Tot.cnd (fun _=>Tot.ret trivial) fun _=>Tot.ret trivial
 ·refine Tot.bind (t107 _ _ _) fun y _=>Tot.cnd (fun _=>Tot.ret trivial) fun _=>Tot.bind (t107 _ _ _) fun y _=>Tot.cnd (fun _=>Tot.ret trivial) fun _=>Tot.bind (t107 _ _ _) fun y _=>Tot.cnd (fun _=>Tot.ret trivial) fun _=>Tot.ret trivial
theorem t278 {s:List UInt8} {b most:Int} (hs:s.length≤1000000000000) (hm:0≤most) :
  Tot (F278 (s,b,most)) fun out=>1≤out.length∧out.length≤s.length+1∧(out.length:Int)≤most+1∧∀ x∈out,x.length≤s.length:=by
 unfold F278
 refine Tot.bindE (fun y=>y.1=s∧y.2.1.length≤s.length∧(y.2.1.length:Int)≤most∧(∀ x∈y.2.1,x.length≤s.length)∧0≤y.2.2∧y.2.2≤(s.length:Int))
  (Tot.loop (fun x=>x.1=s∧x.2.2.1=most∧(∀ z∈x.2.2.2.1,z.length≤s.length)∧(x.2.2.2.1.length:Int)≤most∧(x.2.2.2.1.length:Int)≤x.2.2.2.2.2∧0≤x.2.2.2.2.1∧x.2.2.2.2.1≤x.2.2.2.2.2∧x.2.2.2.2.2≤(s.length:Int)) (fun x=>s.length - x.2.2.2.2.2.toNat) ?_ ⟨rfl,rfl,by simp,by simpa using hm,by simp,by simp,by simp,by simp⟩) ?_
 ·rintro ⟨s1,b1,m1,out,fr,i⟩ ⟨rfl,rfl,h1,h2,h3,h4,h5,h6⟩
  simp only at h1 h2 h3 h4 h5 h6 hs
  refine Tot.bindE (fun y=>y=(s1,b1,m1,out,fr,i)∧i<(s1.length:Int)∧(out.length:Int)<m1) ?_ ?_
  ·refine Tot.cnd (fun h=>Tot.cnd (fun g=>?_) fun _=>?_) fun _=>?_
   ·simp only [decide_eq_true_eq] at h g
    exact Tot.ret ⟨rfl,h,g⟩
   ·exact Tot.ret ⟨rfl,by simp only;omega,h2,h1,h4,by simp only;omega⟩
   ·exact Tot.ret ⟨rfl,by simp only;omega,h2,h1,h4,by simp only;omega⟩
  ·rintro _ ⟨rfl,g1,g2⟩
   refine Tot.bindE (fun y=>y.1=s1∧y.2.2.1=m1∧(∀ z∈y.2.2.2.1,z.length≤s1.length)∧(y.2.2.2.1.length:Int)≤m1∧(y.2.2.2.1.length:Int)≤i+1∧0≤y.2.2.2.2.1∧y.2.2.2.2.1≤i+1∧y.2.2.2.2.2=i) ?_ ?_
   ·refine Tot.grd (by simp only [decide_eq_true_eq];omega) (Tot.at (by omega) fun x _=>Tot.cnd (fun _=>?_) fun _=>?_)
    ·refine Tot.grd (by simp only [Bool.and_eq_true,decide_eq_true_eq];omega) (Tot.grd (by simp only [Bool.and_eq_true,decide_eq_true_eq];omega) (Tot.ret ⟨rfl,rfl,?_,?_,?_,?_,?_,rfl⟩))
     ·intro z hz
      simp only [List.mem_append,List.mem_singleton] at hz
      rcases hz with hz | rfl
      ·exact h1 z hz
      ·simp only [List.length_drop,List.length_take];omega
     ·simp only [List.length_append,List.length_cons,List.length_nil];omega
     ·simp only [List.length_append,List.length_cons,List.length_nil];omega
     ·simp only;rw [wrapI (by omega) (by omega)];omega
     ·simp only;rw [wrapI (by omega) (by omega)];omega
    ·exact Tot.ret ⟨rfl,rfl,h1,h2,by simp only;omega,h4,by simp only;omega,rfl⟩
   ·rintro ⟨s2,b2,m2,out2,fr2,i2⟩ ⟨rfl,rfl,k1,k2,k3,k4,k5,rfl⟩
    simp only at k1 k2 k3 k4 k5 hs g1 g2 h4 h5
    have hw:IntKind.wrap .i64 (i2+1)=i2+1:=wrapI (by omega) (by omega)
    refine Tot.ret ⟨⟨rfl,rfl,k1,k2,?_,k4,?_,?_⟩,?_⟩ <;> (simp only;rw [hw];omega)
 ·rintro ⟨s1,out,fr⟩ ⟨rfl,h1,h2,h3,h4,h5⟩
  simp only at h1 h2 h3 h4 h5 hs
  refine Tot.grd (by simp only [Bool.and_eq_true,decide_eq_true_eq];omega) (Tot.grd (by simp only [Bool.and_eq_true,decide_eq_true_eq];omega) (Tot.ret ⟨?_,?_,?_,?_⟩))
  ·simp
  ·simp only [List.length_append,List.length_cons,List.length_nil];omega
  ·simp only [List.length_append,List.length_cons,List.length_nil];omega
  ·intro z hz
   simp only [List.mem_append,List.mem_singleton] at hz
   rcases hz with hz | rfl
   ·exact h3 z hz
   ·simp only [List.length_drop,List.length_take];omega
end Go.Proofs.YtdpapeledldifaaGreat
end
