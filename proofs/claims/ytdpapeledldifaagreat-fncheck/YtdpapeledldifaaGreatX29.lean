/- Part 30 of the proof that the law FnCheck holds of every input; no condition. -/
import Derived.Test.YtdpapeledldifaaGreatX28
set_option autoImplicit true
set_option relaxedAutoImplicit true
set_option linter.all false
noncomputable section
namespace Go.Proofs.YtdpapeledldifaaGreat
open Go Go.AM Go.TM
open Go.Proofs.Tryz
open Sum (inl inr)
set_option maxRecDepth 100000
set_option maxHeartbeats 4000000
abbrev ti140:SPat:=⟨[(0,.ptr 100000 0),(1,.s)],[.box 100000 (pl plR)]⟩
abbrev to140:SPat:=⟨[(4,.s)],[.box 100000 (pl plR)]⟩
def F140:List UInt8×List UInt8×Int→Option (List UInt8×List UInt8×Int):=fun (v1,o0,o1) =>
 cndO (decide (v1=[(65:UInt8)]))
 (zAA (F119 ([[],[],[(102:UInt8),105,101,108,100,32,122,32,73,32,48,10]],o0,o1)) fun (y,y1,y2) =>
 grdO (decide ((52:Nat)+List.length y≤9223372036854775807)) (grdO (decide (List.length ([(99:UInt8),108,97,115,115,32,65,32,79,98,106,32,48,10,102,105,101,108,100,32,120,32,73,32,48,10,102,105,101,108,100,32,110,32,76,65,59,32,48,10,102,105,101,108,100,32,115,32,73,32,49,10]++y)+55≤9223372036854775807)) (grdO (decide (List.length ([(99:UInt8),108,97,115,115,32,65,32,79,98,106,32,48,10,102,105,101,108,100,32,120,32,73,32,48,10,102,105,101,108,100,32,110,32,76,65,59,32,48,10,102,105,101,108,100,32,115,32,73,32,49,10]++y++[(109:UInt8),101,116,104,111,100,32,103,101,116,32,40,41,73,32,48,32,50,32,49,10,32,32,114,101,102,108,111,97,100,32,48,10,32,32,103,101,116,32,65,32,120,32,73,10,32,32,103,105,118,101,105,110,116,10])+60≤9223372036854775807)) (grdO (decide (List.length ([(99:UInt8),108,97,115,115,32,65,32,79,98,106,32,48,10,102,105,101,108,100,32,120,32,73,32,48,10,102,105,101,108,100,32,110,32,76,65,59,32,48,10,102,105,101,108,100,32,115,32,73,32,49,10]++y++[(109:UInt8),101,116,104,111,100,32,103,101,116,32,40,41,73,32,48,32,50,32,49,10,32,32,114,101,102,108,111,97,100,32,48,10,32,32,103,101,116,32,65,32,120,32,73,10,32,32,103,105,118,101,105,110,116,10]++[(109:UInt8),101,116,104,111,100,32,110,101,120,116,32,40,41,76,65,59,32,48,32,50,32,49,10,32,32,114,101,102,108,111,97,100,32,48,10,32,32,103,101,116,32,65,32,110,32,76,65,59,10,32,32,103,105,118,101,114,101,102,10])+40≤9223372036854775807)) (zAA (F119 ([[],[(109:UInt8),101,116,104,111,100,32,104,105,100,32,40,41,86,32,50,32,48,32,49,10,32,32,103,105,118,101,10]],y1,y2)) fun (y3,y4,y5) =>
 grdO (decide (List.length ([(99:UInt8),108,97,115,115,32,65,32,79,98,106,32,48,10,102,105,101,108,100,32,120,32,73,32,48,10,102,105,101,108,100,32,110,32,76,65,59,32,48,10,102,105,101,108,100,32,115,32,73,32,49,10]++y++[(109:UInt8),101,116,104,111,100,32,103,101,116,32,40,41,73,32,48,32,50,32,49,10,32,32,114,101,102,108,111,97,100,32,48,10,32,32,103,101,116,32,65,32,120,32,73,10,32,32,103,105,118,101,105,110,116,10]++[(109:UInt8),101,116,104,111,100,32,110,101,120,116,32,40,41,76,65,59,32,48,32,50,32,49,10,32,32,114,101,102,108,111,97,100,32,48,10,32,32,103,101,116,32,65,32,110,32,76,65,59,10,32,32,103,105,118,101,114,101,102,10]++[(109:UInt8),101,116,104,111,100,32,109,107,32,40,41,76,65,59,32,49,32,49,32,48,10,32,32,110,101,119,32,65,10,32,32,103,105,118,101,114,101,102,10])+List.length y3≤9223372036854775807)) (zAA (F119 ([[],List.append [(109:UInt8),101,116,104,111,100,32,98,101,103,105,110,32,40,41,86,32,49,32,49,32,48,10,32,32,112,117,115,104,32,49,48,10,32,32,112] [(114:UInt8),105,110,116,10,32,32,112,117,115,104,32,51,10,32,32,112,117,116,97,108,108,32,65,32,115,32,73,10,32,32,103,105,118,101,10],[(109:UInt8),101,116,104,111,100,32,98,101,103,105,110,32,40,41,86,32,49,32,50,32,48,10,32,32,112,117,115,104,32,49,10,32,32,112,117,115,104,32,48,10,32,32,100,105,118,10,32,32,112,114,105,110,116,10,32,32,103,105,118,101,10]],y4,y5)) fun (y6,y7,y8) =>
 grdO (decide (List.length ([(99:UInt8),108,97,115,115,32,65,32,79,98,106,32,48,10,102,105,101,108,100,32,120,32,73,32,48,10,102,105,101,108,100,32,110,32,76,65,59,32,48,10,102,105,101,108,100,32,115,32,73,32,49,10]++y++[(109:UInt8),101,116,104,111,100,32,103,101,116,32,40,41,73,32,48,32,50,32,49,10,32,32,114,101,102,108,111,97,100,32,48,10,32,32,103,101,116,32,65,32,120,32,73,10,32,32,103,105,118,101,105,110,116,10]++[(109:UInt8),101,116,104,111,100,32,110,101,120,116,32,40,41,76,65,59,32,48,32,50,32,49,10,32,32,114,101,102,108,111,97,100,32,48,10,32,32,103,101,116,32,65,32,110,32,76,65,59,10,32,32,103,105,118,101,114,101,102,10]++[(109:UInt8),101,116,104,111,100,32,109,107,32,40,41,76,65,59,32,49,32,49,32,48,10,32,32,110,101,119,32,65,10,32,32,103,105,118,101,114,101,102,10]++y3)+List.length y6≤9223372036854775807)) (some (([(99:UInt8),108,97,115,115,32,65,32,79,98,106,32,48,10,102,105,101,108,100,32,120,32,73,32,48,10,102,105,101,108,100,32,110,32,76,65,59,32,48,10,102,105,101,108,100,32,115,32,73,32,49,10]++y++[(109:UInt8),101,116,104,111,100,32,103,101,116,32,40,41,73,32,48,32,50,32,49,10,32,32,114,101,102,108,111,97,100,32,48,10,32,32,103,101,116,32,65,32,120,32,73,10,32,32,103,105,118,101,105,110,116,10]++[(109:UInt8),101,116,104,111,100,32,110,101,120,116,32,40,41,76,65,59,32,48,32,50,32,49,10,32,32,114,101,102,108,111,97,100,32,48,10,32,32,103,101,116,32,65,32,110,32,76,65,59,10,32,32,103,105,118,101,114,101,102,10]++[(109:UInt8),101,116,104,111,100,32,109,107,32,40,41,76,65,59,32,49,32,49,32,48,10,32,32,110,101,119,32,65,10,32,32,103,105,118,101,114,101,102,10]++y3++y6,y7,y8)))))))))
 (cndO (decide (v1=[(66:UInt8)]))
 (zAA (F119 ([[(48:UInt8)],[(48:UInt8)],[(50:UInt8)]],o0,o1)) fun (y,y1,y2) =>
 grdO (decide ((10:Nat)+List.length y≤9223372036854775807)) (grdO (decide (List.length ([(99:UInt8),108,97,115,115,32,66,32,65,32]++y)+13≤9223372036854775807)) (zAA (F119 ([[(109:UInt8),101,116,104,111,100,32,103,101,116,32,40,41,73,32,48,32,49,32,49,10,32,32,112,117,115,104,32,53,10,32,32,103,105,118,101,105,110,116,10],List.append [(109:UInt8),101,116,104,111,100,32,103,101,116,32,40,41,73,32,48,32,50,32,49,10,32,32,114,101,102,108,111,97,100,32,48,10,32,32,115,112,101,99] [(105:UInt8),97,108,32,65,32,103,101,116,32,40,41,73,10,32,32,112,117,115,104,32,49,10,32,32,97,100,100,10,32,32,103,105,118,101,105,110,116,10],[(109:UInt8),101,116,104,111,100,32,103,101,116,32,40,41,73,32,50,32,49,32,49,10,32,32,112,117,115,104,32,57,10,32,32,103,105,118,101,105,110,116,10],[(109:UInt8),101,116,104,111,100,32,110,101,120,116,32,40,41,76,65,59,32,48,32,49,32,49,10,32,32,110,101,119,32,66,10,32,32,103,105,118,101,114,101,102,10],[(109:UInt8),101,116,104,111,100,32,103,101,116,32,40,41,73,32,48,32,49,32,49,10,32,32,110,117,108,108,10,32,32,103,105,118,101,105,110,116,10],[(109:UInt8),101,116,104,111,100,32,98,101,103,105,110,32,40,41,86,32,49,32,49,32,48,10,32,32,112,117,115,104,32,50,48,10,32,32,112,114,105,110,116,10,32,32,103,105,118,101,10]],y1,y2)) fun (y3,y4,y5) =>
 grdO (decide (List.length ([(99:UInt8),108,97,115,115,32,66,32,65,32]++y++[(10:UInt8),102,105,101,108,100,32,121,32,73,32,48,10])+List.length y3≤9223372036854775807)) (some (([(99:UInt8),108,97,115,115,32,66,32,65,32]++y++[(10:UInt8),102,105,101,108,100,32,121,32,73,32,48,10]++y3,y4,y5))))))
 (cndO (decide (v1=[(67:UInt8)]))
 (zAA (F119 ([[],[(109:UInt8),101,116,104,111,100,32,103,101,116,32,40,41,73,32,48,32,49,32,49,10,32,32,112,117,115,104,32,54,10,32,32,103,105,118,101,105,110,116,10],[(109:UInt8),101,116,104,111,100,32,103,101,116,32,40,41,73,32,48,32,49,32,49,10,32,32,112,117,115,104,32,54,10,32,32,103,105,118,101,105,110,116,10]],o0,o1)) fun (y,y1,y2) =>
 grdO (decide ((21:Nat)+List.length y≤9223372036854775807)) (grdO (decide (List.length ([(99:UInt8),108,97,115,115,32,67,32,79,98,106,32,48,10,102,97,99,101,32,70,10]++y)+39≤9223372036854775807)) (zAA (F119 ([[(118:UInt8),105,114,116,117,97,108,32,65,32,103,101,116,32,40,41,73],[(103:UInt8),101,116,32,65,32,120,32,73]],y1,y2)) fun (y3,y4,y5) =>
 grdO (decide (List.length ([(99:UInt8),108,97,115,115,32,67,32,79,98,106,32,48,10,102,97,99,101,32,70,10]++y++[(109:UInt8),101,116,104,111,100,32,116,97,107,101,32,40,76,65,59,41,73,32,48,32,50,32,50,10,32,32,114,101,102,108,111,97,100,32,49,10,32,32])+List.length y3≤9223372036854775807)) (grdO (decide (List.length ([(99:UInt8),108,97,115,115,32,67,32,79,98,106,32,48,10,102,97,99,101,32,70,10]++y++[(109:UInt8),101,116,104,111,100,32,116,97,107,101,32,40,76,65,59,41,73,32,48,32,50,32,50,10,32,32,114,101,102,108,111,97,100,32,49,10,32,32]++y3)+11≤9223372036854775807)) (some (([(99:UInt8),108,97,115,115,32,67,32,79,98,106,32,48,10,102,97,99,101,32,70,10]++y++[(109:UInt8),101,116,104,111,100,32,116,97,107,101,32,40,76,65,59,41,73,32,48,32,50,32,50,10,32,32,114,101,102,108,111,97,100,32,49,10,32,32]++y3++[(10:UInt8),32,32,103,105,118,101,105,110,116,10],y4,y5)))))))
 (cndO (decide (v1=[(70:UInt8)]))
 (zAA (F119 ([[(53:UInt8)],[(53:UInt8)],[(53:UInt8)],[(52:UInt8)]],o0,o1)) fun (y,y1,y2) =>
 grdO (decide ((12:Nat)+List.length y≤9223372036854775807)) (grdO (decide (List.length ([(99:UInt8),108,97,115,115,32,70,32,79,98,106,32]++y)+39≤9223372036854775807)) (some (([(99:UInt8),108,97,115,115,32,70,32,79,98,106,32]++y++[(10:UInt8),109,101,116,104,111,100,32,103,101,116,32,40,41,73,32,56,10,109,101,116,104,111,100,32,116,97,107,101,32,40,76,65,59,41,73,32,56,10],y1,y2)))))
 (zAA (F119 ([[(65:UInt8)],[(65:UInt8)],[(66:UInt8)]],o0,o1)) fun (y,y1,y2) =>
 grdO (decide ((116:Nat)+List.length y≤9223372036854775807)) (grdO (decide (List.length (List.append [(99:UInt8),108,97,115,115,32,85,32,79,98,106,32,48,10,102,105,101,108,100,32,97,32,76,65,59,32,49,10,109,101,116,104,111,100,32,101,97,116,32,40,76,65,59] [(41:UInt8),73,32,49,32,50,32,49,10,32,32,114,101,102,108,111,97,100,32,48,10,32,32,103,101,116,32,65,32,120,32,73,10,32,32,103,105,118,101,105,110,116,10]++[(109:UInt8),101,116,104,111,100,32,109,97,107,101,32,40,41,76,65,59,32,49,32,49,32,48,10,32,32,110,101,119,32]++y)+11≤9223372036854775807)) (some ((List.append [(99:UInt8),108,97,115,115,32,85,32,79,98,106,32,48,10,102,105,101,108,100,32,97,32,76,65,59,32,49,10,109,101,116,104,111,100,32,101,97,116,32,40,76,65,59] [(41:UInt8),73,32,49,32,50,32,49,10,32,32,114,101,102,108,111,97,100,32,48,10,32,32,103,101,116,32,65,32,120,32,73,10,32,32,103,105,118,101,105,110,116,10]++[(109:UInt8),101,116,104,111,100,32,109,97,107,101,32,40,41,76,65,59,32,49,32,49,32,48,10,32,32,110,101,119,32]++y++[(10:UInt8),32,32,103,105,118,101,114,101,102,10],y1,y2))))))))
def tb140:=insT 140 (mkE 140 false [(0,[])] ti140 to140 F140 [.tmp 4] 71 [100000]) tb138
theorem ok140:TbOk Tryz.prog tb140:=okI ok138 noPl noIv func140 rfl call140
abbrev ti56:SPat:=⟨[(0,.ptr 100000 0)],[.box 100000 (pl plR)]⟩
abbrev to56:SPat:=⟨[(2,.ptr 2 0)],[.box 2 (pl plD),.box 100000 (pl plR)]⟩
abbrev zOG:SPat:=⟨[(2,.ptr 2 0),(4,.s)],[.box 2 (pl plD),.box 100000 (pl plR)]⟩
def tv56:Nat→Option SPat:=fun k=>bif k == 1000006 then some zOG else none
def F56:List UInt8×Int→Option ((Cls)×List UInt8×Int):=fun (o0,o1) =>
 zAA (F119 ([[(65:UInt8)],[(66:UInt8)],[(67:UInt8)],[(70:UInt8)],[(85:UInt8)],[(77:UInt8)]],o0,o1)) fun (y,y1,y2) =>
 bindE (Y:=List UInt8×(Cls)×List UInt8×Int) (cndO (decide (y=[(77:UInt8)]))
 (zAA (F138 (y1,y2)) fun ((y3,y4),y5,y6) =>
 some (inl (y4,([],(0:Int),(0:Int),(0:Int),[],[],[]),y5,y6)))
 (zAA (F140 (y,y1,y2)) fun (y3,y4,y5) =>
 zAA (F139 y3) fun y6 =>
 some (inl (y6,([],(0:Int),(0:Int),(0:Int),[],[],[]),y4,y5)))) fun (text_,(o01,o11,o2,o3,o4,o5,o6),o02,o12) =>
 zAA (F63 text_) fun (y3,y4,y5,y6,y7,y8,x,x1) =>
 some (((y4,y5,y6,y7,y8,x,x1),o02,o12))
def tb56:=insT 56 (mkE 56 false [(0,[])] ti56 to56 F56 [.cell 2 34] 25 [100000]) tb140
theorem ok56:TbOk Tryz.prog tb56:=okI ok140 noPl tv56 func56 rfl call56
abbrev ti54:SPat:=⟨[(0,.ptr 100000 0),(1,.s)],[.box 100000 (pl plR)]⟩
abbrev to54:SPat:=⟨[(4,.s)],[.box 100000 (pl plR)]⟩
abbrev zOM:SPat:=⟨[(0,.ptr 100000 0),(1,.s),(5,.i .i64),(12,.i .i64),(13,.b)],[.box 100000 (pl plR)]⟩
abbrev zOL:SPat:=⟨[(1,.s)],[.box 100000 (pl plR)]⟩
def tv54:Nat→Option SPat:=fun k=>bif k == 1000005 then some zOM else bif k == 2000000 then some zOL else none
def tp54:Nat→List Nat×Plan:=fun id=>bif id == 6 then ([0,1,2,3,9,10,11,12],(.br 4 [3] [0,1,2,9,10,11,12] [5] (.br 6 [5,4,3] [0,1,2,9,10,11,12] [7,8,13] (.br 14 [13,12,11,10,9,8,7,6,5,4,3,2,1,0] [] [] .fin .fin) .fin) .fin)) else ([],.fin)
def F54:List UInt8×List UInt8×Int→Option (List UInt8×List UInt8×Int):=fun (s,o0,o1) =>
 zAA (F51 (IntKind.wrap .i64 ((s.length:Int)+1),o0,o1)) fun (y,y1,y2) =>
 zAA (F51 ((5:Int),y1,y2)) fun (y3,y4,y5) =>
 bindE (Y:=List UInt8×List UInt8×Int) (bindE (Y:=List UInt8×Int×Int×Bool×List UInt8×Int) (cndO (decide (y3=0))
 (some (inl (s,y,y3,true,y4,y5)))
 (some (inl (s,y,y3,decide (y3=1),y4,y5)))) fun (s1,k,v12,v13,o01,o11) =>
 cndO (v13)
 (cndO (decide (k<(s1.length:Int)))
 (grdO (decide (0≤k) && decide (k≤(s1.length:Int))) (grdO (decide (0≤IntKind.wrap .i64 (k+1)) && decide (IntKind.wrap .i64 (k+1)≤(s1.length:Int)) && decide ((s1.length:Int)≤(s1.length:Int))) (zAA (F51 ((256:Int),o01,o11)) fun (y6,y7,y8) =>
 seqU (seqU (grdO (decide (s1=s1)) (some ())) (seqU (grdO (decide (k=k)) (some ())) (seqU (grdO (decide (0≤k) && decide (k≤(s1.length:Int))) (grdO (decide (List.drop (0:Nat) (List.take k.toNat s1)=List.drop (0:Nat) (List.take k.toNat s1))) (some ()))) (seqU (grdO (decide (s1=s1)) (some ())) (seqU (grdO (decide (k=k)) (some ())) (seqU (grdO (decide (IntKind.wrap .i64 (k+1)=IntKind.wrap .i64 (k+1))) (some ())) (seqU (grdO (decide (0≤IntKind.wrap .i64 (k+1)) && decide (IntKind.wrap .i64 (k+1)≤(s1.length:Int)) && decide ((s1.length:Int)≤(s1.length:Int))) (grdO (decide (List.drop (Int.toNat (IntKind.wrap .i64 (k+1))) (List.take (Int.toNat (s1.length:Int)) s1)=List.drop (Int.toNat (IntKind.wrap .i64 (k+1))) (List.take (Int.toNat (s1.length:Int)) s1))) (some ()))) (some ())))))))) (grdO (decide (0≤IntKind.wrap .u8 y6) && decide (IntKind.wrap .u8 y6≤255)) (seqU (seqU (grdO (decide (s1=s1)) (some ())) (seqU (grdO (decide (k=k)) (some ())) (seqU (grdO (decide (0≤k) && decide (k≤(s1.length:Int))) (grdO (decide (List.drop (0:Nat) (List.take k.toNat s1)=List.drop (0:Nat) (List.take k.toNat s1))) (some ()))) (seqU (grdO (decide (s1=s1)) (some ())) (seqU (grdO (decide (k=k)) (some ())) (seqU (grdO (decide (IntKind.wrap .i64 (k+1)=IntKind.wrap .i64 (k+1))) (some ())) (seqU (grdO (decide (0≤IntKind.wrap .i64 (k+1)) && decide (IntKind.wrap .i64 (k+1)≤(s1.length:Int)) && decide ((s1.length:Int)≤(s1.length:Int))) (grdO (decide (List.drop (Int.toNat (IntKind.wrap .i64 (k+1))) (List.take (Int.toNat (s1.length:Int)) s1)=List.drop (Int.toNat (IntKind.wrap .i64 (k+1))) (List.take (Int.toNat (s1.length:Int)) s1))) (some ()))) (some ())))))))) (grdO (decide (List.length (List.drop (0:Nat) (List.take k.toNat s1))+1≤9223372036854775807)) (grdO (decide (List.length (List.drop (0:Nat) (List.take k.toNat s1)++[UInt8.ofNat (Int.toNat (IntKind.wrap .u8 y6))])+List.length (List.drop (Int.toNat (IntKind.wrap .i64 (k+1))) (List.take (Int.toNat (s1.length:Int)) s1))≤9223372036854775807)) (some (inr (List.drop (0:Nat) (List.take k.toNat s1)++[UInt8.ofNat (Int.toNat (IntKind.wrap .u8 y6))]++List.drop (Int.toNat (IntKind.wrap .i64 (k+1))) (List.take (Int.toNat (s1.length:Int)) s1),y7,y8))))))))))
 (some (inl (s1,o01,o11))))
 (cndO (decide (v12=2))
 (grdO (decide (0≤k) && decide (k≤(s1.length:Int))) (some (inr (List.drop (0:Nat) (List.take k.toNat s1),o01,o11))))
 (cndO (decide (v12=3))
 (zAA (F51 ((256:Int),o01,o11)) fun (y6,y7,y8) =>
 grdO (decide (0≤IntKind.wrap .u8 y6) && decide (IntKind.wrap .u8 y6≤255)) (grdO (decide (List.length s1+1≤9223372036854775807)) (some (inr (s1++[UInt8.ofNat (Int.toNat (IntKind.wrap .u8 y6))],y7,y8)))))
 (some (inl (s1,o01,o11)))))) fun (s1,o01,o11) =>
 some ((s1,o01,o11))
def tb54:=insT 54 (mkE 54 false [(0,[])] ti54 to54 F54 [.tmp 4] 49 [100000]) tb56
theorem ok54:TbOk Tryz.prog tb54:=okI ok56 tp54 tv54 func54 rfl call54
abbrev ti120:SPat:=⟨[(0,.ptr 100000 0),(1,.agg (pl [.ar 100001,.i .i64,.i .i64,.i .i64,.ar 100002,.ar 100003,.ar 100004]))],[.box 100000 (pl plR),.arr 100001 tg27 true,.arr 100002 (.int .i64) true,.arr 100003 tg89 true,.arr 100004 tg53 true]⟩
abbrev to120:SPat:=⟨[(4,.ptr 4 0)],[.box 4 (pl [.ar 100001,.i .i64,.i .i64,.i .i64,.ar 100002,.ar 100003,.ar 100004]),.box 100000 (pl plR),.arr 100001 tg27 true,.arr 100002 (.int .i64) true,.arr 100003 tg89 true,.arr 100004 tg53 true]⟩
abbrev zMM:SPat:=⟨[(0,.ptr 100000 0),(3,.ptr 3 0),(4,.ptr 4 0)],[.box 3 (pl [.ar 100001,.i .i64,.i .i64,.i .i64,.ar 100002,.ar 100003,.ar 100004]),.box 4 (pl plD),.box 100000 (pl plR),.arr 100001 tg27 true,.arr 100002 (.int .i64) true,.arr 100003 tg89 true,.arr 100004 tg53 true]⟩
abbrev zML:SPat:=⟨[(3,.ptr 3 0),(4,.ptr 4 0)],[.box 3 (pl [.ar 100001,.i .i64,.i .i64,.i .i64,.ar 100002,.ar 100003,.ar 100004]),.box 4 (pl plD),.box 100000 (pl plR),.arr 100001 tg27 true,.arr 100002 (.int .i64) true,.arr 100003 tg89 true,.arr 100004 tg53 true]⟩
def tv120:Nat→Option SPat:=fun k=>bif k == 1000003 then some zMM else bif k == 2000000 then some zML else none
def tp120:Nat→List Nat×Plan:=fun id=>bif id == 3 then ([0,1,2,3,4,5],(.br 6 [5,4,3,2] [0,1] [7] (.br 8 [7,6,5,4,3,2,1,0] [] [] .fin .fin) .fin)) else bif id == 13 then ([0,1,2,3,4,5,7,9],(.br 6 [5] [0,1,2,3,4,7,9] [] (.br 8 [7,6,5] [0,1,2,3,4,9] [] (.br 10 [9,8,7,6,5] [0,1,2,3,4] [11] (.br 12 [11,10,9,8,7,6,5] [0,1,2,3,4] [13] (.br 14 [13,12,11,10,9,8,7,6,5] [0,1,2,3,4] [] (.br 15 [14,13,12,11,10,9,8,7,6,5,4,3,2,1] [0] [16,17] (.br 18 [17,16,15,14,13,12,11,10,9,8,7,6,5,4,3,2,1,0] [] [] .fin .fin) .fin) .fin) .fin) .fin) .fin) .fin)) else bif id == 15 then ([0,1,2,3,4,5,7,9,11],(.br 6 [5] [0,1,2,3,4,7,9,11] [] (.br 8 [7,6,5] [0,1,2,3,4,9,11] [] (.br 10 [9,8,7,6,5] [0,1,2,3,4,11] [] (.br 12 [11,10,9,8,7,6,5] [0,1,2,3,4] [13] (.br 14 [13,12,11,10,9,8,7,6,5] [0,1,2,3,4] [] (.br 15 [14,13,12,11,10,9,8,7,6,5,4,3,2,1] [0] [16,17] (.br 18 [17,16,15,14,13,12,11,10,9,8,7,6,5,4,3,2,1,0] [] [] .fin .fin) .fin) .fin) .fin) .fin) .fin) .fin)) else ([],.fin)
def F120:(Int×Int×Int)×(List UInt8×Int)×List Cst×List Int×List (Int×Int×Int)×List Mth→Option ((Int×Int×Int)×(List UInt8×Int)×List Cst×List Int×List (Int×Int×Int)×List Mth):=fun ((v11,v12,v13),(o0,o1),l100001,l100002,l100003,l100004)=>bindE (Y:=(Int×Int×Int)×(Cls)×(List UInt8×Int)×List Cst×List Int×List (Int×Int×Int)×List Mth) (cndO (decide ((l100004.length:Int)=0)) (some (inr ((v11,v12,v13),(o0,o1),l100001,l100002,l100003,l100004))) (zAA (F51 ((3:Int),o0,o1)) fun (y,y1,y2)=>cndO (decide (0<y)) (some (inr ((v11,v12,v13),(y1,y2),l100001,l100002,l100003,l100004))) (some (inl ((v11,v12,v13),([],(0:Int),(0:Int),(0:Int),[],[],[]),(y1,y2),l100001,l100002,l100003,l100004))))) fun ((o11,o2,o3),(o01,o12,o21,o31,o4,o5,o6),(o02,o13),l1000011,l1000021,l1000031,l1000041)=>zAA (F51 ((l1000041.length:Int),o02,o13)) fun (y,y1,y2)=>grdO (decide (0≤y) && decide (y<(l1000041.length:Int))) (zAA (F51 ((7:Int),y1,y2)) fun (y3,y4,y5)=>bindE (Y:=(Int×Int×Int)×(Cls)×(List UInt8×Int)×List Cst×List Int×List (Int×Int×Int)×List Mth) (cndO (decide (y3=0)) (atO (l1000041) y.toNat fun x=>zAA (F54 (x.2.2.2.2.2.1,y4,y5)) fun (y6,y7,y8)=>atO (l1000041) y.toNat fun x1=>some (inl ((o11,o2,o3),(o01,o12,o21,o31,o4,o5,o6),(y7,y8),l1000011,l1000021,l1000031,List.set l1000041 y.toNat (x1.1,x1.2.1,x1.2.2.1,x1.2.2.2.1,x1.2.2.2.2.1,y6,x1.2.2.2.2.2.2.1,x1.2.2.2.2.2.2.2)))) (cndO (decide (y3=1)) (zAA (F105 ([(0:Int),(1:Int),(8:Int),(9:Int),(256:Int)],y4,y5)) fun (y6,y7,y8)=>atO (l1000041) y.toNat fun x=>some (inl ((o11,o2,o3),(o01,o12,o21,o31,o4,o5,o6),(y7,y8),l1000011,l1000021,l1000031,List.set l1000041 y.toNat (x.1,x.2.1,x.2.2.1,y6,x.2.2.2.2.1,x.2.2.2.2.2.1,x.2.2.2.2.2.2.1,x.2.2.2.2.2.2.2)))) (cndO (decide (y3=2)) (zAA (F105 ([(0:Int),(1:Int),(8:Int),(9:Int),(256:Int)],y4,y5)) fun (y6,y7,y8)=>atO (l1000041) y.toNat fun x=>some (inl ((o11,o2,o3),(o01,o12,o21,o31,o4,o5,o6),(y7,y8),l1000011,l1000021,l1000031,List.set l1000041 y.toNat (x.1,x.2.1,x.2.2.1,x.2.2.2.1,y6,x.2.2.2.2.2.1,x.2.2.2.2.2.2.1,x.2.2.2.2.2.2.2)))) (let q1:=seqU (grdO (Int.toNat y == Int.toNat y && true) (some ())) (seqU (grdO (Int.toNat y == Int.toNat y && true) (some ())) (seqU (grdO (Int.toNat y == Int.toNat y && true) (some ())) (seqU (grdO (Int.toNat y == Int.toNat y && true) (some ())) (seqU (grdO (decide (Int.toNat y=Int.toNat y) && decide (Int.toNat y<List.length l1000041)) (grdO (decide (Int.toNat y=Int.toNat y) && decide (Int.toNat y<List.length l1000041)) (grdO (decide (Int.toNat y=Int.toNat y) && decide (Int.toNat y<List.length l1000041)) (some ())))) (some ())))));cndO (decide (y3=3)) (atO (l1000041) y.toNat fun x=>grdO (decide (Int.toNat y=Int.toNat y) && decide (Int.toNat y<List.length l1000041)) (grdO (decide (Int.toNat y=Int.toNat y) && decide (Int.toNat y<List.length l1000041)) (grdO (decide (Int.toNat y=Int.toNat y) && decide (Int.toNat y<List.length l1000041)) (zAA (F51 ((8:Int),y4,y5)) fun (y6,y7,y8)=>seqU (q1) (zAA (F51 ((5:Int),y7,y8)) fun (y9,y10,y11)=>seqU (q1) (zAA (F51 ((3:Int),y10,y11)) fun (y12,y13,y14)=>seqU (q1) (seqU (q1) (seqU (q1) (grdO (decide (List.length (x.2.2.2.2.2.2.2)+1≤9223372036854775807) && decide ((List.length (x.2.2.2.2.2.2.2)+1)*56≤140737488355328)) (seqU (seqU (grdO (Int.toNat y == Int.toNat y && true) (some ())) (some ())) (grdO (decide (Int.toNat y=Int.toNat y) && decide (Int.toNat y<List.length l1000041)) (grdO (decide (Int.toNat y<List.length l1000041)) (some (inl ((o11,o2,o3),(o01,o12,o21,o31,o4,o5,o6),(y13,y14),l1000011,l1000021,l1000031,List.set l1000041 y.toNat (x.1,x.2.1,x.2.2.1,x.2.2.2.1,x.2.2.2.2.1,x.2.2.2.2.2.1,x.2.2.2.2.2.2.1,x.2.2.2.2.2.2.2++[(y6,[(y9,y12)],[])])))))))))))))))) (cndO (decide (y3=4)) (atO (l1000041) y.toNat fun x=>grdO (decide (Int.toNat y=Int.toNat y) && decide (Int.toNat y<List.length l1000041)) (grdO (decide (Int.toNat y=Int.toNat y) && decide (Int.toNat y<List.length l1000041)) (grdO (decide (Int.toNat y=Int.toNat y) && decide (Int.toNat y<List.length l1000041)) (zAA (F51 ((4:Int),y4,y5)) fun (y6,y7,y8)=>seqU (q1) (zAA (F51 ((6:Int),y7,y8)) fun (y9,y10,y11)=>seqU (q1) (zAA (F51 ((6:Int),y10,y11)) fun (y12,y13,y14)=>seqU (q1) (zAA (F51 ((3:Int),y13,y14)) fun (y15,y16,y17)=>seqU (q1) (seqU (q1) (grdO (decide (List.length (x.2.2.2.2.2.2.1)+1≤9223372036854775807) && decide ((List.length (x.2.2.2.2.2.2.1)+1)*32≤140737488355328)) (seqU (seqU (grdO (Int.toNat y == Int.toNat y && true) (some ())) (some ())) (grdO (decide (Int.toNat y=Int.toNat y) && decide (Int.toNat y<List.length l1000041)) (grdO (decide (Int.toNat y<List.length l1000041)) (some (inl ((o11,o2,o3),(o01,o12,o21,o31,o4,o5,o6),(y16,y17),l1000011,l1000021,l1000031,List.set l1000041 y.toNat (x.1,x.2.1,x.2.2.1,x.2.2.2.1,x.2.2.2.2.1,x.2.2.2.2.2.1,x.2.2.2.2.2.2.1++[(y6,y9,y12,y15)],x.2.2.2.2.2.2.2)))))))))))))))) (cndO (decide (y3=5)) (zAA (F51 ((16:Int),y4,y5)) fun (y6,y7,y8)=>atO (l1000041) y.toNat fun x=>some (inl ((o11,o2,o3),(o01,o12,o21,o31,o4,o5,o6),(y7,y8),l1000011,l1000021,l1000031,List.set l1000041 y.toNat (y6,x.2.1,x.2.2.1,x.2.2.2.1,x.2.2.2.2.1,x.2.2.2.2.2.1,x.2.2.2.2.2.2.1,x.2.2.2.2.2.2.2)))) (zAA (F51 ((l1000011.length:Int),y4,y5)) fun (y6,y7,y8)=>atO (l1000041) y.toNat fun x=>some (inl ((o11,o2,o3),(o01,o12,o21,o31,o4,o5,o6),(y7,y8),l1000011,l1000021,l1000031,List.set l1000041 y.toNat (x.1,x.2.1,IntKind.wrap .i64 ((1:Int)+y6),x.2.2.2.1,x.2.2.2.2.1,x.2.2.2.2.2.1,x.2.2.2.2.2.2.1,x.2.2.2.2.2.2.2)))))))))) fun ((o14,o22,o32),(o03,o15,o23,o33,o41,o51,o61),(o04,o16),l1000012,l1000022,l1000032,l1000042)=>some (((o14,o22,o32),(o04,o16),l1000012,l1000022,l1000032,l1000042)))
def tb120:=insT 120 (mkE 120 false [(0,[]),(1,[0]),(1,[4]),(1,[5]),(1,[6])] ti120 to120 F120 [.cell 4 34] 110 [100000,100001,100002,100003,100004]) tb54
theorem ok120:TbOk Tryz.prog tb120:=okI ok54 tp120 tv120 func120 rfl call120
abbrev ti50:SPat:=⟨[(0,.ptr 100000 0)],[.box 100000 (pl plR)]⟩
abbrev to50:SPat:=⟨[(2,.ptr 2 0)],[.box 2 (pl plD),.box 100000 (pl plR)]⟩
abbrev zOQ:SPat:=⟨[(0,.ptr 100000 0),(2,.ptr 2 0),(3,.ptr 3 0)],[.box 2 (pl plD),.box 3 (pl plD),.box 100000 (pl plR)]⟩
def tv50:Nat→Option SPat:=fun k=>bif k == 2000000 then some zOQ else none
def tp50:Nat→List Nat×Plan:=fun id=>bif id == 7 then ([0,1,2,3,4,5,6,7,8,9,10],(.br 11 [10,9,8,7,6,5,4] [0,1,2,3] [] (.br 12 [11,10,9,8,7,6,5,4,3] [0,1,2] [13,14] (.br 15 [14,13,12,11,10,9,8,7,6,5,4,3,2,1,0] [] [] .fin .fin) .fin) .fin)) else bif id == 9 then ([0,1,2,3],(.br 4 [3] [0,1,2] [5,6] (.br 7 [6,5,4,3,2,1,0] [] [] .fin .fin) .fin)) else bif id == 11 then ([0,1,2,3],(.br 4 [] [0,1,2,3] [] (.br 5 [4,3] [0,1,2] [6,7] (.br 8 [7,6,5,4,3,2,1,0] [] [] .fin .fin) .fin) .fin)) else bif id == 17 then ([0,1,2,3,4,5,6],(.br 7 [6,5,4,3] [0,1,2] [] (.br 8 [7,6,5,4,3,2] [0,1] [] (.br 9 [8,7,6,5,4,3,2] [0,1] [] (.br 10 [9,8,7,6,5,4,3,2,1,0] [] [11] (.br 12 [11,10,9,8,7,6,5,4,3,2,1,0] [] [] .fin .fin) .fin) .fin) .fin) .fin)) else bif id == 19 then ([0,1,2,4,7],(.br 3 [2] [0,1,4,7] [] (.br 5 [] [0,1,2,4,7] [] (.br 6 [5,4,3,2] [0,1,7] [] (.br 8 [] [0,1,2,4,7] [] (.br 9 [8,7,6,5,4,3,2] [0,1] [10] (.br 11 [10,9,8,7,6,5,4,3,2] [0,1] [] (.br 12 [11,10,9,8,7,6,5,4,3,2,1,0] [] [13] (.br 14 [13,12,11,10,9,8,7,6,5,4,3,2,1,0] [] [] .fin .fin) .fin) .fin) .fin) .fin) (.br 8 [] [0,1,2,4,7] [] (.br 6 [5,4,3,2] [0,1,7] [] (.br 9 [8,7,6,5,4,3,2] [0,1] [10] (.br 11 [10,9,8,7,6,5,4,3,2] [0,1] [] (.br 12 [11,10,9,8,7,6,5,4,3,2,1,0] [] [13] (.br 14 [13,12,11,10,9,8,7,6,5,4,3,2,1,0] [] [] .fin .fin) .fin) .fin) .fin) .fin) .fin)) (.br 8 [] [0,1,2,4,7] [] (.br 5 [] [0,1,2,4,7] [] (.br 6 [5,4,3,2] [0,1,7] [] (.br 9 [8,7,6,5,4,3,2] [0,1] [10] (.br 11 [10,9,8,7,6,5,4,3,2] [0,1] [] (.br 12 [11,10,9,8,7,6,5,4,3,2,1,0] [] [13] (.br 14 [13,12,11,10,9,8,7,6,5,4,3,2,1,0] [] [] .fin .fin) .fin) .fin) .fin) .fin) .fin) .fin)) (.br 5 [] [0,1,2,4,7] [] (.br 3 [2] [0,1,4,7] [] (.br 6 [5,4,3,2] [0,1,7] [] (.br 8 [] [0,1,2,4,7] [] (.br 9 [8,7,6,5,4,3,2] [0,1] [10] (.br 11 [10,9,8,7,6,5,4,3,2] [0,1] [] (.br 12 [11,10,9,8,7,6,5,4,3,2,1,0] [] [13] (.br 14 [13,12,11,10,9,8,7,6,5,4,3,2,1,0] [] [] .fin .fin) .fin) .fin) .fin) .fin) (.br 8 [] [0,1,2,4,7] [] (.br 6 [5,4,3,2] [0,1,7] [] (.br 9 [8,7,6,5,4,3,2] [0,1] [10] (.br 11 [10,9,8,7,6,5,4,3,2] [0,1] [] (.br 12 [11,10,9,8,7,6,5,4,3,2,1,0] [] [13] (.br 14 [13,12,11,10,9,8,7,6,5,4,3,2,1,0] [] [] .fin .fin) .fin) .fin) .fin) .fin) .fin)) (.br 8 [] [0,1,2,4,7] [] (.br 3 [2] [0,1,4,7] [] (.br 6 [5,4,3,2] [0,1,7] [] (.br 9 [8,7,6,5,4,3,2] [0,1] [10] (.br 11 [10,9,8,7,6,5,4,3,2] [0,1] [] (.br 12 [11,10,9,8,7,6,5,4,3,2,1,0] [] [13] (.br 14 [13,12,11,10,9,8,7,6,5,4,3,2,1,0] [] [] .fin .fin) .fin) .fin) .fin) .fin) .fin) .fin)) (.br 8 [] [0,1,2,4,7] [] (.br 3 [2] [0,1,4,7] [] (.br 5 [] [0,1,2,4,7] [] (.br 6 [5,4,3,2] [0,1,7] [] (.br 9 [8,7,6,5,4,3,2] [0,1] [10] (.br 11 [10,9,8,7,6,5,4,3,2] [0,1] [] (.br 12 [11,10,9,8,7,6,5,4,3,2,1,0] [] [13] (.br 14 [13,12,11,10,9,8,7,6,5,4,3,2,1,0] [] [] .fin .fin) .fin) .fin) .fin) .fin) .fin) (.br 5 [] [0,1,2,4,7] [] (.br 3 [2] [0,1,4,7] [] (.br 6 [5,4,3,2] [0,1,7] [] (.br 9 [8,7,6,5,4,3,2] [0,1] [10] (.br 11 [10,9,8,7,6,5,4,3,2] [0,1] [] (.br 12 [11,10,9,8,7,6,5,4,3,2,1,0] [] [13] (.br 14 [13,12,11,10,9,8,7,6,5,4,3,2,1,0] [] [] .fin .fin) .fin) .fin) .fin) .fin) .fin) .fin)) .fin)))) else bif id == 21 then ([0,1,2,4,6,9,11],(.br 3 [2] [0,1,4,6,9,11] [] (.br 5 [4,3,2] [0,1,6,9,11] [] (.br 7 [] [0,1,2,4,6,9,11] [] (.br 8 [7,6,5,4,3,2] [0,1,9,11] [] (.br 10 [9,8,7,6,5,4,3,2] [0,1,11] [] (.br 12 [11,10,9,8,7,6,5,4,3,2] [0,1] [13] (.br 14 [13,12,11,10,9,8,7,6,5,4,3,2] [0,1] [] (.br 15 [14,13,12,11,10,9,8,7,6,5,4,3,2,1,0] [] [16] (.br 17 [16,15,14,13,12,11,10,9,8,7,6,5,4,3,2,1,0] [] [] .fin .fin) .fin) .fin) .fin) .fin) .fin) .fin) (.br 7 [] [0,1,2,4,6,9,11] [] (.br 5 [4,3,2] [0,1,6,9,11] [] (.br 8 [7,6,5,4,3,2] [0,1,9,11] [] (.br 10 [9,8,7,6,5,4,3,2] [0,1,11] [] (.br 12 [11,10,9,8,7,6,5,4,3,2] [0,1] [13] (.br 14 [13,12,11,10,9,8,7,6,5,4,3,2] [0,1] [] (.br 15 [14,13,12,11,10,9,8,7,6,5,4,3,2,1,0] [] [16] (.br 17 [16,15,14,13,12,11,10,9,8,7,6,5,4,3,2,1,0] [] [] .fin .fin) .fin) .fin) .fin) .fin) .fin) .fin) .fin)) (.br 7 [] [0,1,2,4,6,9,11] [] (.br 3 [2] [0,1,4,6,9,11] [] (.br 5 [4,3,2] [0,1,6,9,11] [] (.br 8 [7,6,5,4,3,2] [0,1,9,11] [] (.br 10 [9,8,7,6,5,4,3,2] [0,1,11] [] (.br 12 [11,10,9,8,7,6,5,4,3,2] [0,1] [13] (.br 14 [13,12,11,10,9,8,7,6,5,4,3,2] [0,1] [] (.br 15 [14,13,12,11,10,9,8,7,6,5,4,3,2,1,0] [] [16] (.br 17 [16,15,14,13,12,11,10,9,8,7,6,5,4,3,2,1,0] [] [] .fin .fin) .fin) .fin) .fin) .fin) .fin) .fin) .fin) .fin))) else ([],.fin)
def F50:List UInt8×Int→Option ((Cls)×List UInt8×Int):=fun (o0,o1)=>zAA (F56 (o0,o1)) fun ((y,y1,y2,y3,y4,y5,x),x1,x2)=>cndO (decide ((y.length:Int)=0)) (some (((y,y1,y2,y3,y4,y5,x),x1,x2))) (zAA (F51 ((y.length:Int),x1,x2)) fun (y6,y7,y8)=>zAA (F51 ((16:Int),y7,y8)) fun (y9,y10,y11)=>bindE (Y:=(Cls)×(Cls)×List UInt8×Int) (cndO (decide (y9=0)) (seqU (seqU (grdO (decide (y6=y6)) (some ())) (some ())) (zAA (F105 ([(0:Int),(1:Int),(y.length:Int),IntKind.wrap .i64 ((y.length:Int)+1),(65536:Int),(-1:Int)],y10,y11)) fun (y12,y13,y14)=>seqU (seqU (grdO (decide (y6=y6)) (some ())) (some ())) (grdO (decide (0≤y6) && decide (y6<(y.length:Int))) (atO (y) y6.toNat fun x3=>some (inl (([],(0:Int),(0:Int),(0:Int),[],[],[]),(List.set y y6.toNat (x3.1,x3.2.1,y12,x3.2.2.2),y1,y2,y3,y4,y5,x),y13,y14)))))) (cndO (decide (y9=1)) (zAA (F51 ((8:Int),y10,y11)) fun (y12,y13,y14)=>seqU (seqU (grdO (decide (y6=y6)) (some ())) (some ())) (grdO (decide (0≤y6) && decide (y6<(y.length:Int))) (atO (y) y6.toNat fun x3=>some (inl (([],(0:Int),(0:Int),(0:Int),[],[],[]),(List.set y y6.toNat (y12,x3.2.1,x3.2.2.1,x3.2.2.2),y1,y2,y3,y4,y5,x),y13,y14))))) (cndO (decide (y9=2)) (seqU (seqU (grdO (decide (y6=y6)) (some ())) (some ())) (zAA (F119 ([[],[(65:UInt8)],[(73:UInt8)],[(40:UInt8),41,86],[(49:UInt8)],[(76:UInt8),65,59]],y10,y11)) fun (y12,y13,y14)=>seqU (seqU (grdO (decide (y6=y6)) (some ())) (some ())) (grdO (decide (0≤y6) && decide (y6<(y.length:Int))) (atO (y) y6.toNat fun x3=>some (inl (([],(0:Int),(0:Int),(0:Int),[],[],[]),(List.set y y6.toNat (x3.1,y12,x3.2.2.1,x3.2.2.2),y1,y2,y3,y4,y5,x),y13,y14)))))) (cndO (decide (y9=3)) (zAA (F51 ((9:Int),y10,y11)) fun (y12,y13,y14)=>some (inl (([],(0:Int),(0:Int),(0:Int),[],[],[]),(y,y12,y2,y3,y4,y5,x),y13,y14))) (cndO (decide (y9=4)) (zAA (F105 ([(0:Int),y2,(1:Int),(2:Int)],y10,y11)) fun (y12,y13,y14)=>some (inl (([],(0:Int),(0:Int),(0:Int),[],[],[]),(y,y1,y2,y12,y4,y5,x),y13,y14))) (cndO (decide (y9=5)) (zAA (F105 ([y2,y3,(0:Int),(1:Int)],y10,y11)) fun (y12,y13,y14)=>grdO (decide (List.length y4+1≤9223372036854775807) && decide ((List.length y4+1)*8≤140737488355328)) (some (inl (([],(0:Int),(0:Int),(0:Int),[],[],[]),(y,y1,y2,y3,y4++[y12],y5,x),y13,y14)))) (cndO (decide (y9=6)) (let q1:=fun (y12:Int) (y13:List UInt8) (y14:Int)=>zAA (F105 ([(1:Int),(2:Int),(5:Int)],y13,y14)) fun (y15,y16,y17)=>zAA (F105 ([(1:Int),(6:Int),(8:Int)],y16,y17)) fun (y18,y19,y20)=>grdO (decide (List.length y5+1≤9223372036854775807) && decide ((List.length y5+1)*24≤140737488355328)) (some (inl (([],(0:Int),(0:Int),(0:Int),[],[],[]),(y,y1,y2,y3,y4,y5++[(y12,y15,y18)],x),y19,y20)));zBU (zAA (F51 ((5:Int),y10,y11)) fun (y12,y13,y14)=>zBU (zBU (q1 y12 y13 y14) (q1 y12 y13 y14)) (q1 y12 y13 y14)) (zBU (zBU (zAA (F51 ((5:Int),y10,y11)) fun (y12,y13,y14)=>zBU (q1 y12 y13 y14) (q1 y12 y13 y14)) (zAA (F51 ((5:Int),y10,y11)) fun (y12,y13,y14)=>q1 y12 y13 y14)) (zBU (zAA (F51 ((5:Int),y10,y11)) fun (y12,y13,y14)=>q1 y12 y13 y14) (zAA (F51 ((5:Int),y10,y11)) fun (y12,y13,y14)=>q1 y12 y13 y14)))) (cndO (decide (y9=7)) (let q2:=fun (y12:Int) (y13:List UInt8) (y14:Int)=>zAA (F51 ((20:Int),y13,y14)) fun (y15,y16,y17)=>zAA (F119 ([[],[(32:UInt8)],[(0:UInt8)]],y16,y17)) fun (y18,y19,y20)=>zAA (F51 ((10:Int),y19,y20)) fun (y21,y22,y23)=>zAA (F51 ((10:Int),y22,y23)) fun (y24,y25,y26)=>grdO (decide (List.length x+1≤9223372036854775807) && decide ((List.length x+1)*104≤140737488355328)) (some (inl (([],(0:Int),(0:Int),(0:Int),[],[],[]),(y,y1,y2,y3,y4,y5,x++[(y12,(1:Int),y15,y21,y24,y18,[],[])]),y25,y26)));zBU (zAA (F51 ((17:Int),y10,y11)) fun (y12,y13,y14)=>zBU (q2 y12 y13 y14) (q2 y12 y13 y14)) (zAA (F51 ((17:Int),y10,y11)) fun (y12,y13,y14)=>q2 y12 y13 y14)) (some (inl (([],(0:Int),(0:Int),(0:Int),[],[],[]),(y,y1,y2,y3,y4,y5,x),y10,y11))))))))))) fun ((o01,o11,o2,o3,o4,o5,o6),(o02,o12,o21,o31,o41,o51,o61),o03,o13)=>zAA (F120 ((o12,o21,o31),(o03,o13),o02,o41,o51,o61)) fun ((y12,y13,y14),(y15,y16),y17,x3,x4,x5)=>some (((y17,y12,y13,y14,x3,x4,x5),y15,y16)))
def tb50:=insT 50 (mkE 50 false [(0,[])] ti50 to50 F50 [.cell 2 34] 120 [100000]) tb120
theorem ok50:TbOk Tryz.prog tb50:=okI ok120 tp50 tv50 func50 rfl call50
abbrev ti89:SPat:=⟨[(0,.i .i64),(1,.i .i64),(2,.i .i64)],[]⟩
abbrev to89:SPat:=⟨[(6,.b)],[]⟩
def F89:Int×Int×Int→Option (Bool):=fun (n,low,high) =>
 cndO (decide (low≤n))
 (some (decide (n≤high)))
 (some (false))
def tb89:=insT 89 (mkE 89 true [] ti89 to89 F89 [.tmp 6] 15 []) tb50
theorem ok89:TbOk Tryz.prog tb89:=okI ok50 noPl noIv func89 rfl call89
abbrev ti48:SPat:=⟨[(0,.s)],[]⟩
abbrev to48:SPat:=⟨[(2,.b)],[]⟩
abbrev ts48_4:SPat:=⟨[(0,.s),(20,.i .i64),(21,.i .i64)],[]⟩
abbrev zOT:SPat:=⟨[(0,.s)],[]⟩
abbrev zOS:SPat:=⟨[],[]⟩
abbrev zOR:SPat:=⟨[(0,.s),(20,.i .i64),(21,.i .i64)],[]⟩
def tv48:Nat→Option SPat:=fun k=>bif k == 4 then some ts48_4 else bif k == 1000003 then some zOT else bif k == 2000000 then some zOS else bif k == 2000001 then some zOR else none
def F48:List UInt8→Option (Bool):=fun s =>
 bindE (Y:=List UInt8) (zAA (F89 ((s.length:Int),(1:Int),(8:Int))) fun y =>
 cndO (!y)
 (some (inr false))
 (atO (s) ((0:Nat)) fun x=>cndO (decide (48≤(x.toNat:Int)))
 (atO (s) ((0:Nat)) fun x1=>cndO (decide ((x1.toNat:Int)≤57))
 (some (inr false))
 (some (inl s)))
 (some (inl s)))) fun s1 =>
 bindE (zAF (fun (s2,v20,v21) =>
 cndO (decide (v21<v20))
 (bindE (Y:=List UInt8×Int×Int) (grdO (decide (0≤v21)) (atO (s2) v21.toNat fun x=>cndO (decide (97≤(x.toNat:Int)))
 (cndO (decide ((x.toNat:Int)≤122))
 (some (inl (s2,v20,v21)))
 (cndO (decide (65≤(x.toNat:Int)))
 (cndO (decide ((x.toNat:Int)≤90))
 (some (inl (s2,v20,v21)))
 (cndO (decide (48≤(x.toNat:Int)))
 (cndO (!decide ((x.toNat:Int)≤57))
 (some (inr (inr (inr false))))
 (some (inl (s2,v20,v21))))
 (some (inr (inr (inr false))))))
 (cndO (decide (48≤(x.toNat:Int)))
 (cndO (!decide ((x.toNat:Int)≤57))
 (some (inr (inr (inr false))))
 (some (inl (s2,v20,v21))))
 (some (inr (inr (inr false)))))))
 (cndO (decide (65≤(x.toNat:Int)))
 (cndO (decide ((x.toNat:Int)≤90))
 (some (inl (s2,v20,v21)))
 (cndO (decide (48≤(x.toNat:Int)))
 (cndO (!decide ((x.toNat:Int)≤57))
 (some (inr (inr (inr false))))
 (some (inl (s2,v20,v21))))
 (some (inr (inr (inr false))))))
 (cndO (decide (48≤(x.toNat:Int)))
 (cndO (!decide ((x.toNat:Int)≤57))
 (some (inr (inr (inr false))))
 (some (inl (s2,v20,v21))))
 (some (inr (inr (inr false)))))))) fun (s3,v201,v211) =>
 some (inl (s3,v201,IntKind.wrap .i64 (v211+1))))
 (some (inr (inl ())))) ((s1,(s1.length:Int),(0:Int)))) fun _ =>
 some (true)
def tb48:=insT 48 (mkE 48 true [] ti48 to48 F48 [.tmp 2] 51 []) tb89
theorem ok48:TbOk Tryz.prog tb48:=okI ok89 noPl tv48 func48 rfl call48
abbrev ti293:SPat:=⟨[(0,.s),(1,.s)],[]⟩
abbrev to293:SPat:=⟨[(4,.b)],[]⟩
def F293:List UInt8×List UInt8→Option (Bool):=fun (s,prefix_) =>
 cndO (decide ((prefix_.length:Int)≤(s.length:Int)))
 (grdO (decide (0≤(prefix_.length:Int)) && decide ((prefix_.length:Int)≤(s.length:Int))) (some (decide (List.drop (0:Nat) (List.take (Int.toNat (prefix_.length:Int)) s)=prefix_))))
 (some (false))
def tb293:=insT 293 (mkE 293 true [] ti293 to293 F293 [.tmp 4] 18 []) tb48
theorem ok293:TbOk Tryz.prog tb293:=okI ok48 noPl noIv func293 rfl call293
abbrev ti259:SPat:=⟨[(0,.s),(1,.s)],[]⟩
abbrev to259:SPat:=⟨[(4,.s),(5,.b)],[]⟩
def F259:List UInt8×List UInt8→Option (List UInt8×Bool):=fun (s,prefix_) =>
 zAA (F293 (s,prefix_)) fun y =>
 cndO (!y)
 (some ((s,false)))
 (grdO (decide (0≤(prefix_.length:Int)) && decide ((prefix_.length:Int)≤(s.length:Int)) && decide ((s.length:Int)≤(s.length:Int))) (some ((List.drop (Int.toNat (prefix_.length:Int)) (List.take (Int.toNat (s.length:Int)) s),true))))
def tb259:=insT 259 (mkE 259 true [] ti259 to259 F259 [.tmp 4,.tmp 5] 15 []) tb293
theorem ok259:TbOk Tryz.prog tb259:=okI ok293 noPl noIv func259 rfl call259
abbrev ti204:SPat:=⟨[(0,.s),(1,.s)],[]⟩
abbrev to204:SPat:=⟨[(4,.s),(5,.b)],[]⟩
def F204:List UInt8×List UInt8→Option (List UInt8×Bool):=fun (s,prefix_) =>
 zAA (F259 (s,prefix_)) fun (y,y1) =>
 some ((y,y1))
def tb204:=insT 204 (mkE 204 true [] ti204 to204 F204 [.tmp 4,.tmp 5] 11 []) tb259
theorem ok204:TbOk Tryz.prog tb204:=okI ok259 noPl noIv func204 rfl call204
abbrev ti294:SPat:=⟨[(0,.s),(1,.s)],[]⟩
abbrev to294:SPat:=⟨[(4,.b)],[]⟩
def F294:List UInt8×List UInt8→Option (Bool):=fun (s,suffix) =>
 cndO (decide ((suffix.length:Int)≤(s.length:Int)))
 (grdO (decide (0≤IntKind.wrap .i64 ((s.length:Int) - (suffix.length:Int))) && decide (IntKind.wrap .i64 ((s.length:Int) - (suffix.length:Int))≤(s.length:Int)) && decide ((s.length:Int)≤(s.length:Int))) (some (decide (List.drop (Int.toNat (IntKind.wrap .i64 ((s.length:Int) - (suffix.length:Int)))) (List.take (Int.toNat (s.length:Int)) s)=suffix))))
 (some (false))
def tb294:=insT 294 (mkE 294 true [] ti294 to294 F294 [.tmp 4] 21 []) tb204
theorem ok294:TbOk Tryz.prog tb294:=okI ok204 noPl noIv func294 rfl call294
abbrev ti260:SPat:=⟨[(0,.s),(1,.s)],[]⟩
abbrev to260:SPat:=⟨[(4,.s),(5,.b)],[]⟩
def F260:List UInt8×List UInt8→Option (List UInt8×Bool):=fun (s,suffix) =>
 zAA (F294 (s,suffix)) fun y =>
 cndO (!y)
 (some ((s,false)))
 (grdO (decide (0≤IntKind.wrap .i64 ((s.length:Int) - (suffix.length:Int))) && decide (IntKind.wrap .i64 ((s.length:Int) - (suffix.length:Int))≤(s.length:Int))) (some ((List.drop (0:Nat) (List.take (Int.toNat (IntKind.wrap .i64 ((s.length:Int) - (suffix.length:Int)))) s),true))))
def tb260:=insT 260 (mkE 260 true [] ti260 to260 F260 [.tmp 4,.tmp 5] 18 []) tb294
theorem ok260:TbOk Tryz.prog tb260:=okI ok294 noPl noIv func260 rfl call260
abbrev ti205:SPat:=⟨[(0,.s),(1,.s)],[]⟩
abbrev to205:SPat:=⟨[(4,.s),(5,.b)],[]⟩
def F205:List UInt8×List UInt8→Option (List UInt8×Bool):=fun (s,suffix) =>
 zAA (F260 (s,suffix)) fun (y,y1) =>
 some ((y,y1))
def tb205:=insT 205 (mkE 205 true [] ti205 to205 F205 [.tmp 4,.tmp 5] 11 []) tb260
theorem ok205:TbOk Tryz.prog tb205:=okI ok260 noPl noIv func205 rfl call205
abbrev ti115:SPat:=⟨[(0,.s)],[]⟩
abbrev to115:SPat:=⟨[(2,.s),(3,.b)],[]⟩
def F115:List UInt8→Option (List UInt8×Bool):=fun s =>
 zAA (F204 (s,[(76:UInt8)])) fun (y,y1) =>
 zAA (F205 (y,[(59:UInt8)])) fun (y2,y3) =>
 cndO (y1)
 (cndO (y3)
 (zAA (F48 y2) fun y4 =>
 some ((y2,y4)))
 (some ((y2,false))))
 (some ((y2,false)))
def tb115:=insT 115 (mkE 115 true [] ti115 to115 F115 [.tmp 2,.tmp 3] 27 []) tb205
theorem ok115:TbOk Tryz.prog tb115:=okI ok205 noPl noIv func115 rfl call115
abbrev ti122:SPat:=⟨[(0,.s)],[]⟩
abbrev to122:SPat:=⟨[(2,.b)],[]⟩
def F122:List UInt8→Option (Bool):=fun s =>
 zAA (F115 s) fun (y,y1) =>
 cndO (y1)
 (some (true))
 (some (decide (s=[(73:UInt8)])))
def tb122:=insT 122 (mkE 122 true [] ti122 to122 F122 [.tmp 2] 15 []) tb115
theorem ok122:TbOk Tryz.prog tb122:=okI ok115 noPl noIv func122 rfl call122
abbrev ti289:SPat:=⟨[(0,.s),(1,.i .u8)],[]⟩
abbrev to289:SPat:=⟨[(4,.i .i64)],[]⟩
def F289:List UInt8×Int→Option (Int):=fun (s,c) =>
 zAA (F322 (s,c)) fun y =>
 some (y)
def tb289:=insT 289 (mkE 289 true [] ti289 to289 F289 [.tmp 4] 8 []) tb122
theorem ok289:TbOk Tryz.prog tb289:=okI ok122 noPl noIv func289 rfl call289
abbrev ti321:SPat:=⟨[(0,.s),(1,.sc [41])],[]⟩
abbrev to321:SPat:=⟨[(4,.i .i64)],[]⟩
abbrev zJe:SPat:=⟨[(0,.s),(1,.sc [41]),(5,.i .i64),(16,.b)],[]⟩
def tv321:Nat→Option SPat:=fun k=>bif k == 1000003 then some zJe else none
def F321:List UInt8→Option (Int):=fun app =>
 bindE (Y:=List UInt8×Int×Bool) (some (inl (app,(1:Int),decide ([(41:UInt8)]=app)))) fun (app1,v5,v16) =>
 cndO (v16)
 (some ((0:Int)))
 (cndO (decide (v5=1))
 (atO ([(41:UInt8)]) ((0:Nat)) fun x=>zAA (F289 (app1,(x.toNat:Int))) fun y =>
 some (y))
 (cndO (decide ((app1.length:Int)≤v5))
 (some ((-1:Int)))
 (none)))
def tb321:=insT 321 (mkE 321 true [] ti321 to321 F321 [.tmp 4] 143 []) tb289
theorem ok321:TbOk Tryz.prog tb321:=okI ok289 noPl tv321 func321 rfl call321
abbrev ti288:SPat:=⟨[(0,.s),(1,.sc [41])],[]⟩
abbrev to288:SPat:=⟨[(4,.s),(5,.s),(6,.b)],[]⟩
def tp288:Nat→List Nat×Plan:=fun id=>bif id == 3 then ([0,1,2,3,4,5,6,7,8],(.br 9 [2,1,0] [3,4,5,6,7,8] [] (.br 10 [9,8,7,6,5,4,3,2,1,0] [] [] (.br 11 [10,9,8,7,6,5,4,3,2,1,0] [] [] .fin .fin) .fin) .fin)) else ([],.fin)
def F288:List UInt8→Option (List UInt8×List UInt8×Bool):=fun s =>
 zAA (F321 s) fun y =>
 cndO (decide (0≤y))
 (grdO (decide (0≤y) && decide (y≤(s.length:Int))) (grdO (decide (0≤IntKind.wrap .i64 (y+1)) && decide (IntKind.wrap .i64 (y+1)≤(s.length:Int)) && decide ((s.length:Int)≤(s.length:Int))) (seqU (seqU (grdO (decide (s=s)) (some ())) (seqU (grdO (decide (y=y)) (some ())) (seqU (grdO (decide (IntKind.wrap .i64 (y+1)=IntKind.wrap .i64 (y+1))) (some ())) (seqU (grdO (decide (0≤IntKind.wrap .i64 (y+1)) && decide (IntKind.wrap .i64 (y+1)≤(s.length:Int)) && decide ((s.length:Int)≤(s.length:Int))) (grdO (decide (List.drop (Int.toNat (IntKind.wrap .i64 (y+1))) (List.take (Int.toNat (s.length:Int)) s)=List.drop (Int.toNat (IntKind.wrap .i64 (y+1))) (List.take (Int.toNat (s.length:Int)) s))) (some ()))) (some ()))))) (some ((List.drop (0:Nat) (List.take y.toNat s),List.drop (Int.toNat (IntKind.wrap .i64 (y+1))) (List.take (Int.toNat (s.length:Int)) s),true))))))
 (some ((s,[],false)))
def tb288:=insT 288 (mkE 288 true [] ti288 to288 F288 [.tmp 4,.tmp 5,.tmp 6] 23 []) tb321
theorem ok288:TbOk Tryz.prog tb288:=okI ok321 tp288 noIv func288 rfl call288
abbrev ti238:SPat:=⟨[(0,.s),(1,.sc [41])],[]⟩
abbrev to238:SPat:=⟨[(4,.s),(5,.s),(6,.b)],[]⟩
def F238:List UInt8→Option (List UInt8×List UInt8×Bool):=fun s =>
 zAA (F288 s) fun (y,y1,y2) =>
 some ((y,y1,y2))
def tb238:=insT 238 (mkE 238 true [] ti238 to238 F238 [.tmp 4,.tmp 5,.tmp 6] 13 []) tb288
theorem ok238:TbOk Tryz.prog tb238:=okI ok288 noPl noIv func238 rfl call238
abbrev ti239:SPat:=⟨[(0,.s),(1,.i .u8)],[]⟩
abbrev to239:SPat:=⟨[(4,.i .i64)],[]⟩
def F239:List UInt8×Int→Option (Int):=fun (s,c) =>
 zAA (F289 (s,c)) fun y =>
 some (y)
def tb239:=insT 239 (mkE 239 true [] ti239 to239 F239 [.tmp 4] 8 []) tb238
theorem ok239:TbOk Tryz.prog tb239:=okI ok238 noPl noIv func239 rfl call239
abbrev ti170:SPat:=⟨[(0,.s)],[]⟩
abbrev to170:SPat:=⟨[(2,.own .str true),(3,.s),(4,.b)],[]⟩
abbrev ts170_6:SPat:=⟨[(6,.s),(8,.s),(10,.own .str true)],[]⟩
abbrev zLl:SPat:=⟨[(6,.s),(8,.s)],[]⟩
abbrev zLk:SPat:=⟨[(6,.s),(8,.s),(10,.own .str true),(11,.i .i64)],[]⟩
abbrev zLj:SPat:=⟨[(6,.s),(8,.s),(10,.own .str true),(11,.i .i64)],[]⟩
abbrev zLi:SPat:=⟨[(6,.s),(10,.own .str true)],[]⟩
def tv170:Nat→Option SPat:=fun k=>bif k == 6 then some ts170_6 else bif k == 1000005 then some zLl else bif k == 1000010 then some zLk else bif k == 1000012 then some zLj else bif k == 2000000 then some zLi else none
def F170:List UInt8→Option (List (List UInt8)×List UInt8×Bool):=fun app =>
 zAA (F238 app) fun (y,y1,y2) =>
 zAA (F204 (y,[(40:UInt8)])) fun (y3,y4) =>
 bindE (Y:=List UInt8×List UInt8) (cndO (!y2)
 (some (inr ([],[],false)))
 (cndO (!y4)
 (some (inr ([],[],false)))
 (cndO (!decide (y1=[(86:UInt8)]))
 (zAA (F122 y1) fun y5 =>
 cndO (!y5)
 (some (inr ([],[],false)))
 (some (inl (y1,y3))))
 (some (inl (y1,y3)))))) fun (v6,v8) =>
 bindE (Y:=List UInt8×List (List UInt8)) (zAF (fun (v61,v81,v10) =>
 cndO (!decide (v81=[]))
 (bindE (Y:=List UInt8×List UInt8×List (List UInt8)×Int) (atO (v81) ((0:Nat)) fun x=>cndO (!decide ((x.toNat:Int)=73))
 (zAA (F239 (v81,(59:Int))) fun y5 =>
 some (inl (v61,v81,v10,IntKind.wrap .i64 (y5+1))))
 (some (inl (v61,v81,v10,(1:Int))))) fun (v62,v82,v101,v11) =>
 bindE (Y:=List UInt8×List UInt8×List (List UInt8)×Int) (grdO (decide (0≤v11) && decide (v11≤(v82.length:Int))) (zAA (F122 (List.drop (0:Nat) (List.take v11.toNat v82))) fun y5 =>
 cndO (!y5)
 (some (inr (inr (inr ([],[],false)))))
 (cndO (decide ((v101.length:Int)=4))
 (some (inr (inr (inr ([],[],false)))))
 (some (inl (v62,v82,v101,v11)))))) fun (v63,v83,v102,v111) =>
 grdO (decide (0≤v111) && decide (v111≤(v83.length:Int))) (grdO (decide (List.length v102+1≤9223372036854775807) && decide ((List.length v102+1)*16≤140737488355328)) (grdO (decide (0≤v111) && decide (v111≤(v83.length:Int)) && decide ((v83.length:Int)≤(v83.length:Int))) (some (inl (v63,List.drop v111.toNat (List.take (Int.toNat (v83.length:Int)) v83),v102++[List.drop (0:Nat) (List.take v111.toNat v83)]))))))
 (some (inr (inl (v61,v10))))) ((v6,v8,[]))) fun (v61,v10) =>
 some ((v10,v61,true))
def tb170:=insT 170 (mkE 170 false [] ti170 to170 F170 [.tmp 2,.tmp 3,.tmp 4] 67 []) tb239
theorem ok170:TbOk Tryz.prog tb170:=okI ok239 noPl tv170 func170 rfl call170
abbrev ti113:SPat:=⟨[(0,.s)],[]⟩
abbrev to113:SPat:=⟨[(2,.b)],[]⟩
def F113:List UInt8→Option (Bool):=fun s =>
 zAA (F170 s) fun (y,y1,y2) =>
 some (y2)
def tb113:=insT 113 (mkE 113 true [] ti113 to113 F113 [.tmp 2] 13 []) tb170
theorem ok113:TbOk Tryz.prog tb113:=okI ok170 noPl noIv func113 rfl call113
abbrev ti121:SPat:=⟨[(0,.s)],[]⟩
abbrev to121:SPat:=⟨[(2,.b)],[]⟩
def F121:List UInt8→Option (Bool):=fun s =>
 zAA (F122 s) fun y =>
 cndO (y)
 (some (true))
 (zAA (F113 s) fun y1 =>
 some (y1))
def tb121:=insT 121 (mkE 121 true [] ti121 to121 F121 [.tmp 2] 9 []) tb113
theorem ok121:TbOk Tryz.prog tb121:=okI ok113 noPl noIv func121 rfl call121
abbrev ti124:SPat:=⟨[(0,.sl tg27),(1,.i .i64)],[]⟩
abbrev to124:SPat:=⟨[(4,.ptr 4 0)],[.box 4 (pl [.i .i64,.s,.i .i64,.i .i64])]⟩
def F124:List Cst×Int→Option (Cst):=fun (pool,i) =>
 zAA (F89 (i,(1:Int),(pool.length:Int))) fun y =>
 cndO (!y)
 (some (((0:Int),[],(0:Int),(0:Int))))
 (grdO (decide (0≤IntKind.wrap .i64 (i - 1))) (atO (pool) (Int.toNat (IntKind.wrap .i64 (i - 1))) fun x=>some ((x.1,x.2.1,x.2.2.1,x.2.2.2))))
def tb124:=insT 124 (mkE 124 true [] ti124 to124 F124 [.cell 4 27] 16 []) tb121
theorem ok124:TbOk Tryz.prog tb124:=okI ok121 noPl noIv func124 rfl call124
abbrev ti49126:SPat:=⟨[(0,.sl tg27),(1,.i .i64),(2,.fn 48 (pl []))],[]⟩
abbrev to49126:SPat:=⟨[(6,.b)],[]⟩
def F49126:List Cst×Int→Option (Bool):=fun (pool,i) =>
 zAA (F124 (pool,i)) fun (y,y1,y2,y3) =>
 cndO (decide (y=1))
 (zAA (F48 y1) fun y4 =>
 some (y4))
 (some (false))
def zUX:=insT 49126 (mkE 126 true [] ti49126 to49126 F49126 [.tmp 6] 20 []) tb124
theorem ok49126:TbOk Tryz.prog zUX:=okI ok124 noPl noIv func126 rfl call126
abbrev ti122126:SPat:=⟨[(0,.sl tg27),(1,.i .i64),(2,.fn 121 (pl []))],[]⟩
abbrev to122126:SPat:=⟨[(6,.b)],[]⟩
def F122126:List Cst×Int→Option (Bool):=fun (pool,i) =>
 zAA (F124 (pool,i)) fun (y,y1,y2,y3) =>
 cndO (decide (y=1))
 (zAA (F121 y1) fun y4 =>
 some (y4))
 (some (false))
def zSI:=insT 122126 (mkE 126 true [] ti122126 to122126 F122126 [.tmp 6] 20 []) zUX
theorem ok122126:TbOk Tryz.prog zSI:=okI ok49126 noPl noIv func126 rfl call126
abbrev ti125:SPat:=⟨[(0,.sl tg27),(1,.i .i64)],[]⟩
abbrev to125:SPat:=⟨[(4,.b)],[]⟩
def F125:List Cst×Int→Option (Bool):=fun (pool,i) =>
 zAA (F124 (pool,i)) fun (y,y1,y2,y3) =>
 cndO (decide (y=2))
 (zAA (F49126 (pool,y2)) fun y4 =>
 some (y4))
 (some (false))
def tb125:=insT 125 (mkE 125 true [] ti125 to125 F125 [.tmp 4] 18 []) zSI
theorem ok125:TbOk Tryz.prog tb125:=okI ok122126 noPl noIv func125 rfl call125
abbrev ti123126:SPat:=⟨[(0,.sl tg27),(1,.i .i64),(2,.fn 122 (pl []))],[]⟩
abbrev to123126:SPat:=⟨[(6,.b)],[]⟩
def F123126:List Cst×Int→Option (Bool):=fun (pool,i) =>
 zAA (F124 (pool,i)) fun (y,y1,y2,y3) =>
 cndO (decide (y=1))
 (zAA (F122 y1) fun y4 =>
 some (y4))
 (some (false))
def zSG:=insT 123126 (mkE 126 true [] ti123126 to123126 F123126 [.tmp 6] 20 []) tb125
theorem ok123126:TbOk Tryz.prog zSG:=okI ok125 noPl noIv func126 rfl call126
abbrev ti123123:SPat:=⟨[(0,.fn 122 (pl [])),(1,.ptr 100000 0),(2,.ptr 100001 0)],[.box 100000 (pl [.sl tg27]),.box 100001 (pl [.i .i64,.s,.i .i64,.i .i64])]⟩
abbrev to123123:SPat:=⟨[(4,.b)],[.box 100000 (pl [.sl tg27]),.box 100001 (pl [.i .i64,.s,.i .i64,.i .i64])]⟩
def F123123:List Cst×Cst→Option (Bool×List Cst×Cst):=fun (o0,o01,o1,o2,o3) =>
 zAA (F124 (o0,o3)) fun (y,y1,y2,y3) =>
 cndO (decide (o1=[]))
 (zAA (F125 (o0,o2)) fun y4 =>
 cndO (y4)
 (cndO (decide (y=3))
 (zAA (F123126 (o0,y3)) fun y5 =>
 some ((y5,o0,o01,o1,o2,o3)))
 (some ((false,o0,o01,o1,o2,o3))))
 (some ((false,o0,o01,o1,o2,o3))))
 (some ((false,o0,o01,o1,o2,o3)))
def zSH:=insT 123123 (mkE 123 false [(1,[]),(2,[])] ti123123 to123123 F123123 [.tmp 4] 31 [100000,100001]) zSG
theorem ok123123:TbOk Tryz.prog zSH:=okI ok123126 noPl noIv func123 rfl call123
abbrev ti114126:SPat:=⟨[(0,.sl tg27),(1,.i .i64),(2,.fn 113 (pl []))],[]⟩
abbrev to114126:SPat:=⟨[(6,.b)],[]⟩
def F114126:List Cst×Int→Option (Bool):=fun (pool,i) =>
 zAA (F124 (pool,i)) fun (y,y1,y2,y3) =>
 cndO (decide (y=1))
 (zAA (F113 y1) fun y4 =>
 some (y4))
 (some (false))
def zSJ:=insT 114126 (mkE 126 true [] ti114126 to114126 F114126 [.tmp 6] 20 []) zSH
theorem ok114126:TbOk Tryz.prog zSJ:=okI ok123123 noPl noIv func126 rfl call126
abbrev ti114123:SPat:=⟨[(0,.fn 113 (pl [])),(1,.ptr 100000 0),(2,.ptr 100001 0)],[.box 100000 (pl [.sl tg27]),.box 100001 (pl [.i .i64,.s,.i .i64,.i .i64])]⟩
abbrev to114123:SPat:=⟨[(4,.b)],[.box 100000 (pl [.sl tg27]),.box 100001 (pl [.i .i64,.s,.i .i64,.i .i64])]⟩
def F114123:List Cst×Cst→Option (Bool×List Cst×Cst):=fun (o0,o01,o1,o2,o3) =>
 zAA (F124 (o0,o3)) fun (y,y1,y2,y3) =>
 cndO (decide (o1=[]))
 (zAA (F125 (o0,o2)) fun y4 =>
 cndO (y4)
 (cndO (decide (y=3))
 (zAA (F114126 (o0,y3)) fun y5 =>
 some ((y5,o0,o01,o1,o2,o3)))
 (some ((false,o0,o01,o1,o2,o3))))
 (some ((false,o0,o01,o1,o2,o3))))
 (some ((false,o0,o01,o1,o2,o3)))
def zSK:=insT 114123 (mkE 123 false [(1,[]),(2,[])] ti114123 to114123 F114123 [.tmp 4] 31 [100000,100001]) zSJ
theorem ok114123:TbOk Tryz.prog zSK:=okI ok114126 noPl noIv func123 rfl call123
abbrev ti52:SPat:=⟨[(0,.sl tg27),(1,.agg (pl [.i .i64,.s,.i .i64,.i .i64]))],[]⟩
abbrev to52:SPat:=⟨[(4,.b)],[]⟩
abbrev zOO:SPat:=⟨[],[]⟩
def tv52:Nat→Option SPat:=fun k=>bif k == 2000000 then some zOO else none
def F52:List Cst×Cst→Option (Bool):=fun (app,v10,v11,v12,v13) =>
 bindE (cndO (decide (v10=1))
 (cndO (decide (v12=0))
 (cndO (decide (v13=0))
 (zAA (F48 v11) fun y =>
 cndO (y)
 (some (inr true))
 (zAA (F121 v11) fun y1 =>
 some (inr y1)))
 (some (inr false)))
 (some (inr false)))
 (cndO (decide (v10=2))
 (cndO (decide (v11=[]))
 (cndO (decide (v13=0))
 (zAA (F49126 (app,v12)) fun y =>
 some (inr y))
 (some (inr false)))
 (some (inr false)))
 (cndO (decide (v10=3))
 (cndO (decide (v11=[]))
 (zAA (F49126 (app,v12)) fun y =>
 cndO (y)
 (zAA (F122126 (app,v13)) fun y1 =>
 some (inr y1))
 (some (inr false)))
 (some (inr false)))
 (cndO (decide (v10=4))
 (zAA (F123123 (app,v10,v11,v12,v13)) fun (y,y1,y2,y3,y4,y5) =>
 some (inr y))
 (cndO (decide (v10=5))
 (zAA (F114123 (app,v10,v11,v12,v13)) fun (y,y1,y2,y3,y4,y5) =>
 some (inr y))
 (cndO (decide (v10=6))
 (zAA (F114123 (app,v10,v11,v12,v13)) fun (y,y1,y2,y3,y4,y5) =>
 some (inr y))
 (some (inl ())))))))) fun _ =>
 some (false)
def tb52:=insT 52 (mkE 52 true [] ti52 to52 F52 [.tmp 4] 74 []) zSK
theorem ok52:TbOk Tryz.prog tb52:=okI ok114123 noPl tv52 func52 rfl call52
abbrev ti14:SPat:=⟨[(0,.sl tg27)],[]⟩
abbrev to14:SPat:=⟨[(2,.i .i64)],[]⟩
abbrev ts14_2:SPat:=⟨[(0,.sl tg27),(5,.sl tg27),(6,.i .i64),(7,.i .i64)],[]⟩
abbrev zOp:SPat:=⟨[],[]⟩
def tv14:Nat→Option SPat:=fun k=>bif k == 2 then some ts14_2 else bif k == 2000000 then some zOp else none
def F14:List Cst→Option (Int):=fun pool =>
 bindE (zAF (fun (pool1,v5,v6,v7) =>
 cndO (decide (v7<v6))
 (grdO (decide (0≤v7)) (atO (v5) v7.toNat fun x=>cndO (decide (v7=60))
 (some (inr (inr (61:Int))))
 (zAA (F52 (pool1,x.1,x.2.1,x.2.2.1,x.2.2.2)) fun y =>
 cndO (!y)
 (some (inr (inr (IntKind.wrap .i64 (v7+1)))))
 (some (inl (pool1,v5,v6,IntKind.wrap .i64 (v7+1)))))))
 (some (inr (inl ())))) ((pool,pool,(pool.length:Int),(0:Int)))) fun _ =>
 some ((0:Int))
def tb14:=insT 14 (mkE 14 true [] ti14 to14 F14 [.tmp 2] 21 []) tb52
theorem ok14:TbOk Tryz.prog tb14:=okI ok52 noPl tv14 func14 rfl call14
abbrev ti57:SPat:=⟨[(0,.ptr 100000 0),(1,.i .i64)],[.box 100000 (pl [.s,.b])]⟩
abbrev to57:SPat:=⟨[(4,.s)],[.box 100000 (pl [.s,.b])]⟩
abbrev zOF:SPat:=⟨[(0,.ptr 100000 0),(1,.i .i64),(18,.b)],[.box 100000 (pl [.s,.b])]⟩
def tv57:Nat→Option SPat:=fun k=>bif k == 1000002 then some zOF else none
def F57:Int×List UInt8×Bool→Option (List UInt8×List UInt8×Bool):=fun (n,o0,o1) =>
 bindE (Y:=Int×Bool×List UInt8×Bool) (cndO (o1)
 (some (inl (n,true,o0,o1)))
 (some (inl (n,decide ((o0.length:Int)<n),o0,o1)))) fun (n1,v18,o01,o11) =>
 cndO (v18)
 (some (([],o01,true)))
 (grdO (decide (0≤n1) && decide (n1≤(o01.length:Int))) (grdO (decide (0≤n1) && decide (n1≤(o01.length:Int)) && decide ((o01.length:Int)≤(o01.length:Int))) (some ((List.drop (0:Nat) (List.take n1.toNat o01),List.drop n1.toNat (List.take (Int.toNat (o01.length:Int)) o01),o11)))))
def tb57:=insT 57 (mkE 57 false [(0,[])] ti57 to57 F57 [.tmp 4] 38 [100000]) tb14
theorem ok57:TbOk Tryz.prog tb57:=okI ok14 noPl tv57 func57 rfl call57
abbrev ti59:SPat:=⟨[(0,.ptr 100000 0)],[.box 100000 (pl [.s,.b])]⟩
abbrev to59:SPat:=⟨[(2,.i .i64)],[.box 100000 (pl [.s,.b])]⟩
def F59:List UInt8×Bool→Option (Int×List UInt8×Bool):=fun (o0,o1) =>
 zAA (F57 ((1:Int),o0,o1)) fun (y,y1,y2) =>
 cndO (y2)
 (some (((0:Int),y1,y2)))
 (atO (y) ((0:Nat)) fun x=>some ((IntKind.wrap .i64 (x.toNat:Int),y1,y2)))
def tb59:=insT 59 (mkE 59 false [(0,[])] ti59 to59 F59 [.tmp 2] 13 [100000]) tb57
theorem ok59:TbOk Tryz.prog tb59:=okI ok57 noPl noIv func59 rfl call59
abbrev ti58:SPat:=⟨[(0,.ptr 100000 0),(1,.i .i64),(2,.i .i64)],[.box 100000 (pl [.s,.b])]⟩
abbrev to58:SPat:=⟨[(6,.i .i64)],[.box 100000 (pl [.s,.b])]⟩
def F58:Int×Int×List UInt8×Bool→Option (Int×List UInt8×Bool):=fun (n,most,o0,o1) =>
 cndO (decide (most<n))
 (some (((0:Int),o0,true)))
 (some ((n,o0,o1)))
def tb58:=insT 58 (mkE 58 false [(0,[])] ti58 to58 F58 [.tmp 6] 14 [100000]) tb59
theorem ok58:TbOk Tryz.prog tb58:=okI ok59 noPl noIv func58 rfl call58
abbrev ti61:SPat:=⟨[(0,.ptr 100000 0)],[.box 100000 (pl [.s,.b])]⟩
abbrev to61:SPat:=⟨[(2,.i .i64)],[.box 100000 (pl [.s,.b])]⟩
def F61:List UInt8×Bool→Option (Int×List UInt8×Bool):=fun (o0,o1) =>
 zAA (F59 (o0,o1)) fun (y,y1,y2) =>
 zAA (F59 (y1,y2)) fun (y3,y4,y5) =>
 some ((IntKind.wrap .i64 (IntKind.wrap .i64 ((256:Int)*y)+y3),y4,y5))
def tb61:=insT 61 (mkE 61 false [(0,[])] ti61 to61 F61 [.tmp 2] 11 [100000]) tb58
theorem ok61:TbOk Tryz.prog tb61:=okI ok58 noPl noIv func61 rfl call61
abbrev ti60:SPat:=⟨[(0,.ptr 100000 0)],[.box 100000 (pl [.s,.b])]⟩
abbrev to60:SPat:=⟨[(2,.ptr 2 0)],[.box 2 (pl [.i .i64,.s,.i .i64,.i .i64]),.box 100000 (pl [.s,.b])]⟩
abbrev zOE:SPat:=⟨[(0,.ptr 100000 0),(2,.ptr 2 0),(3,.ptr 3 0),(24,.b)],[.box 2 (pl [.i .i64,.s,.i .i64,.i .i64]),.box 3 (pl [.i .i64,.s,.i .i64,.i .i64]),.box 100000 (pl [.s,.b])]⟩
abbrev zOD:SPat:=⟨[(2,.ptr 2 0),(3,.ptr 3 0)],[.box 2 (pl [.i .i64,.s,.i .i64,.i .i64]),.box 3 (pl [.i .i64,.s,.i .i64,.i .i64]),.box 100000 (pl [.s,.b])]⟩
def tv60:Nat→Option SPat:=fun k=>bif k == 1000012 then some zOE else bif k == 2000000 then some zOD else none
def F60:List UInt8×Bool→Option ((Cst)×List UInt8×Bool):=fun (o0,o1) =>
 zAA (F59 (o0,o1)) fun (y,y1,y2) =>
 bindE (Y:=(Cst)×(Cst)×List UInt8×Bool) (cndO (decide (y=1))
 (zAA (F59 (y1,y2)) fun (y3,y4,y5) =>
 zAA (F57 (y3,y4,y5)) fun (y6,y7,y8) =>
 some (inl (((0:Int),[],(0:Int),(0:Int)),(y,y6,(0:Int),(0:Int)),y7,y8)))
 (cndO (decide (y=2))
 (zAA (F61 (y1,y2)) fun (y3,y4,y5) =>
 some (inl (((0:Int),[],(0:Int),(0:Int)),(y,[],y3,(0:Int)),y4,y5)))
 (bindE (Y:=Bool×(Cst)×(Cst)×List UInt8×Bool) (cndO (decide (y=3))
 (some (inl (true,((0:Int),[],(0:Int),(0:Int)),(y,[],(0:Int),(0:Int)),y1,y2)))
 (cndO (decide (y=4))
 (some (inl (true,((0:Int),[],(0:Int),(0:Int)),(y,[],(0:Int),(0:Int)),y1,y2)))
 (cndO (decide (y=5))
 (some (inl (true,((0:Int),[],(0:Int),(0:Int)),(y,[],(0:Int),(0:Int)),y1,y2)))
 (some (inl (decide (y=6),((0:Int),[],(0:Int),(0:Int)),(y,[],(0:Int),(0:Int)),y1,y2)))))) fun (v24,(o01,o11,o2,o3),(o02,o12,o21,o31),o03,o13) =>
 cndO (v24)
 (zAA (F61 (o03,o13)) fun (y3,y4,y5) =>
 zAA (F61 (y4,y5)) fun (y6,y7,y8) =>
 some (inl ((o01,o11,o2,o3),(o02,o12,y3,y6),y7,y8)))
 (some (inl ((o01,o11,o2,o3),(o02,o12,o21,o31),o03,true)))))) fun ((o01,o11,o2,o3),(o02,o12,o21,o31),o03,o13) =>
 some (((o02,o12,o21,o31),o03,o13))
def tb60:=insT 60 (mkE 60 false [(0,[])] ti60 to60 F60 [.cell 2 27] 36 [100000]) tb61
theorem ok60:TbOk Tryz.prog tb60:=okI ok61 noPl tv60 func60 rfl call60
abbrev ti86:SPat:=⟨[(0,.i .i64)],[]⟩
abbrev to86:SPat:=⟨[(2,.b)],[]⟩
def F86:Int→Option (Bool):=fun flags =>
 some (!decide (andI IntKind.i64 flags (8:Int)=0))
def tb86:=insT 86 (mkE 86 true [] ti86 to86 F86 [.tmp 2] 6 []) tb60
theorem ok86:TbOk Tryz.prog tb86:=okI ok60 noPl noIv func86 rfl call86
abbrev ti141:SPat:=⟨[(0,.ptr 100000 0)],[.box 100000 (pl [.s,.b])]⟩
abbrev to141:SPat:=⟨[(2,.own zBH true)],[.box 100000 (pl [.s,.b])]⟩
abbrev ts141_3:SPat:=⟨[(0,.ptr 100000 0),(3,.own zBH true),(4,.i .i64)],[.box 100000 (pl [.s,.b])]⟩
abbrev zMG:SPat:=⟨[(0,.ptr 100000 0),(3,.own zBH true),(4,.i .i64)],[.box 100000 (pl [.s,.b])]⟩
abbrev zMF:SPat:=⟨[(3,.own zBH true)],[.box 100000 (pl [.s,.b])]⟩
abbrev zME:SPat:=⟨[(0,.ptr 100000 0),(3,.own zBH true),(4,.i .i64)],[.box 100000 (pl [.s,.b])]⟩
def tv141:Nat→Option SPat:=fun k=>bif k == 3 then some ts141_3 else bif k == 1000005 then some zMG else bif k == 2000000 then some zMF else bif k == 2000001 then some zME else none
def F141:List UInt8×Bool→Option (List (Int×Int)×List UInt8×Bool):=fun (o0,o1) =>
 zAA (F59 (o0,o1)) fun (y,y1,y2) =>
 zAA (F58 (y,(8:Int),y1,y2)) fun (y3,y4,y5) =>
 bindE (Y:=List (Int×Int)×List UInt8×Bool) (zAF (fun (out,n,o01,o11) =>
 bindE (Y:=List (Int×Int)×Int×List UInt8×Bool) (cndO (decide (0<n))
 (cndO (!o11)
 (some (inl (out,n,o01,o11)))
 (some (inr (inr (inl (out,o01,o11))))))
 (some (inr (inr (inl (out,o01,o11)))))) fun (out1,n1,o02,o12) =>
 bindE (Y:=List (Int×Int)×Int×List UInt8×Bool) (zAA (F59 (o02,o12)) fun (y6,y7,y8) =>
 zAA (F58 (y6,(3:Int),y7,y8)) fun (y9,y10,y11) =>
 cndO (decide (y9=3))
 (zAA (F61 (y10,y11)) fun (y12,y13,y14) =>
 grdO (decide (List.length out1+1≤9223372036854775807) && decide ((List.length out1+1)*16≤140737488355328)) (some (inl (out1++[(y9,y12)],n1,y13,y14))))
 (grdO (decide (List.length out1+1≤9223372036854775807) && decide ((List.length out1+1)*16≤140737488355328)) (some (inl (out1++[(y9,(0:Int))],n1,y10,y11))))) fun (out2,n2,o03,o13) =>
 some (inl (out2,IntKind.wrap .i64 (n2 - 1),o03,o13))) (([],y3,y4,y5))) fun (out,o01,o11) =>
 some ((out,o01,o11))
def tb141:=insT 141 (mkE 141 false [(0,[])] ti141 to141 F141 [.tmp 2] 37 [100000]) tb86
theorem ok141:TbOk Tryz.prog tb141:=okI ok86 noPl tv141 func141 rfl call141
abbrev ti62:SPat:=⟨[(0,.ptr 100000 0)],[.box 100000 (pl [.s,.b])]⟩
abbrev to62:SPat:=⟨[(2,.ptr 2 0)],[.box 2 (pl plN),.box 100000 (pl [.s,.b])]⟩
abbrev ts62_10:SPat:=⟨[(0,.ptr 100000 0),(2,.ptr 2 0),(3,.ptr 3 0),(4,.i .i64)],[.box 2 (pl plN),.box 3 (pl plN),.box 100000 (pl [.s,.b])]⟩
abbrev ts62_18:SPat:=⟨[(0,.ptr 100000 0),(2,.ptr 2 0),(3,.ptr 3 0),(6,.i .i64)],[.box 2 (pl plN),.box 3 (pl plN),.box 100000 (pl [.s,.b])]⟩
abbrev zOC:SPat:=⟨[(0,.ptr 100000 0),(2,.ptr 2 0),(3,.ptr 3 0),(4,.i .i64)],[.box 2 (pl plN),.box 3 (pl plN),.box 100000 (pl [.s,.b])]⟩
abbrev zOB:SPat:=⟨[(0,.ptr 100000 0),(2,.ptr 2 0),(3,.ptr 3 0),(6,.i .i64)],[.box 2 (pl plN),.box 3 (pl plN),.box 100000 (pl [.s,.b])]⟩
abbrev zOA:SPat:=⟨[(0,.ptr 100000 0),(2,.ptr 2 0),(3,.ptr 3 0)],[.box 2 (pl plN),.box 3 (pl plN),.box 100000 (pl [.s,.b])]⟩
abbrev zNz:SPat:=⟨[(2,.ptr 2 0),(3,.ptr 3 0)],[.box 2 (pl plN),.box 3 (pl plN),.box 100000 (pl [.s,.b])]⟩
def tv62:Nat→Option SPat:=fun k=>bif k == 10 then some ts62_10 else bif k == 18 then some ts62_18 else bif k == 1000012 then some zOC else bif k == 1000020 then some zOB else bif k == 2000000 then some zOA else bif k == 2000002 then some zNz else none
def F62:List UInt8×Bool→Option ((Mth)×List UInt8×Bool):=fun (o0,o1) =>
 zAA (F59 (o0,o1)) fun (y,y1,y2) =>
 zAA (F61 (y1,y2)) fun (y3,y4,y5) =>
 zAA (F61 (y4,y5)) fun (y6,y7,y8) =>
 zAA (F86 y) fun y9 =>
 cndO (y9)
 (some (((y,y3,y6,(0:Int),(0:Int),[],[],[]),y7,y8)))
 (zAA (F59 (y7,y8)) fun (y10,y11,y12) =>
 zAA (F59 (y11,y12)) fun (y13,y14,y15) =>
 zAA (F61 (y14,y15)) fun (y16,y17,y18) =>
 zAA (F58 (y16,(120:Int),y17,y18)) fun (y19,y20,y21) =>
 zAA (F57 (y19,y20,y21)) fun (y22,y23,y24) =>
 zAA (F59 (y23,y24)) fun (y25,y26,y27) =>
 zAA (F58 (y25,(3:Int),y26,y27)) fun (y28,y29,y30) =>
 bindE (Y:=(Mth)×(Mth)×List UInt8×Bool) (zAF (fun (v4,(o01,o11,o2,o3,o4,o5,o6,o7),(o02,o12,o21,o31,o41,o51,o61,o71),o03,o13) =>
 bindE (Y:=Int×(Mth)×(Mth)×List UInt8×Bool) (cndO (decide (0<v4))
 (cndO (!o13)
 (some (inl (v4,(o01,o11,o2,o3,o4,o5,o6,o7),(o02,o12,o21,o31,o41,o51,o61,o71),o03,o13)))
 (some (inr (inr (inl ((o01,o11,o2,o3,o4,o5,o6,o7),(o02,o12,o21,o31,o41,o51,o61,o71),o03,o13))))))
 (some (inr (inr (inl ((o01,o11,o2,o3,o4,o5,o6,o7),(o02,o12,o21,o31,o41,o51,o61,o71),o03,o13)))))) fun (v41,(o04,o14,o22,o32,o42,o52,o62,o72),(o05,o15,o23,o33,o43,o53,o63,o73),o06,o16) =>
 zAA (F61 (o06,o16)) fun (y31,y32,y33) =>
 zAA (F61 (y32,y33)) fun (y34,y35,y36) =>
 zAA (F61 (y35,y36)) fun (y37,y38,y39) =>
 zAA (F61 (y38,y39)) fun (y40,y41,y42) =>
 grdO (decide (List.length o63+1≤9223372036854775807) && decide ((List.length o63+1)*32≤140737488355328)) (some (inl (IntKind.wrap .i64 (v41 - 1),(o04,o14,o22,o32,o42,o52,o62,o72),(o05,o15,o23,o33,o43,o53,o63++[(y31,y34,y37,y40)],o73),y41,y42)))) ((y28,((0:Int),(0:Int),(0:Int),(0:Int),(0:Int),[],[],[]),(y,y3,y6,y10,y13,y22,[],[]),y29,y30))) fun ((o01,o11,o2,o3,o4,o5,o6,o7),(o02,o12,o21,o31,o41,o51,o61,o71),o03,o13) =>
 zAA (F59 (o03,o13)) fun (y31,y32,y33) =>
 zAA (F58 (y31,(8:Int),y32,y33)) fun (y34,y35,y36) =>
 bindE (Y:=(Mth)×(Mth)×List UInt8×Bool) (zAF (fun (v6,(o04,o14,o22,o32,o42,o52,o62,o72),(o05,o15,o23,o33,o43,o53,o63,o73),o06,o16) =>
 bindE (Y:=Int×(Mth)×(Mth)×List UInt8×Bool) (cndO (decide (0<v6))
 (cndO (!o16)
 (some (inl (v6,(o04,o14,o22,o32,o42,o52,o62,o72),(o05,o15,o23,o33,o43,o53,o63,o73),o06,o16)))
 (some (inr (inr (inl ((o04,o14,o22,o32,o42,o52,o62,o72),(o05,o15,o23,o33,o43,o53,o63,o73),o06,o16))))))
 (some (inr (inr (inl ((o04,o14,o22,o32,o42,o52,o62,o72),(o05,o15,o23,o33,o43,o53,o63,o73),o06,o16)))))) fun (v61,(o07,o17,o24,o34,o44,o54,o64,o74),(o08,o18,o25,o35,o45,o55,o65,o75),o09,o19) =>
 zAA (F61 (o09,o19)) fun (y37,y38,y39) =>
 zAA (F141 (y38,y39)) fun (y40,y41,y42) =>
 zAA (F141 (y41,y42)) fun (y43,y44,y45) =>
 grdO (decide (List.length o75+1≤9223372036854775807) && decide ((List.length o75+1)*56≤140737488355328)) (some (inl (IntKind.wrap .i64 (v61 - 1),(o07,o17,o24,o34,o44,o54,o64,o74),(o08,o18,o25,o35,o45,o55,o65,o75++[(y37,y40,y43)]),y44,y45)))) ((y34,(o01,o11,o2,o3,o4,o5,o6,o7),(o02,o12,o21,o31,o41,o51,o61,o71),y35,y36))) fun ((o04,o14,o22,o32,o42,o52,o62,o72),(o05,o15,o23,o33,o43,o53,o63,o73),o06,o16) =>
 some (((o05,o15,o23,o33,o43,o53,o63,o73),o06,o16)))
def tb62:=insT 62 (mkE 62 false [(0,[])] ti62 to62 F62 [.cell 2 53] 98 [100000]) tb141
theorem ok62:TbOk Tryz.prog tb62:=okI ok141 noPl tv62 func62 rfl call62
abbrev ti17:SPat:=⟨[(0,.s)],[]⟩
abbrev to17:SPat:=⟨[(2,.ptr 2 0),(3,.b)],[.box 2 (pl plD)]⟩
abbrev ts17_8:SPat:=⟨[(2,.ptr 2 0),(4,.ptr 17 0),(5,.ptr 5 0),(6,.i .i64)],[.box 2 (pl plD),.box 5 (pl plD),.box 17 (pl [.s,.b])]⟩
abbrev ts17_15:SPat:=⟨[(2,.ptr 2 0),(4,.ptr 17 0),(5,.ptr 5 0),(7,.i .i64)],[.box 2 (pl plD),.box 5 (pl plD),.box 17 (pl [.s,.b])]⟩
abbrev ts17_19:SPat:=⟨[(2,.ptr 2 0),(4,.ptr 17 0),(5,.ptr 5 0),(8,.i .i64)],[.box 2 (pl plD),.box 5 (pl plD),.box 17 (pl [.s,.b])]⟩
abbrev ts17_26:SPat:=⟨[(2,.ptr 2 0),(4,.ptr 17 0),(5,.ptr 5 0),(10,.i .i64)],[.box 2 (pl plD),.box 5 (pl plD),.box 17 (pl [.s,.b])]⟩
abbrev zOm:SPat:=⟨[(2,.ptr 2 0),(4,.ptr 17 0),(5,.ptr 5 0),(6,.i .i64)],[.box 2 (pl plD),.box 5 (pl plD),.box 17 (pl [.s,.b])]⟩
abbrev zOl:SPat:=⟨[(2,.ptr 2 0),(4,.ptr 17 0),(5,.ptr 5 0),(7,.i .i64)],[.box 2 (pl plD),.box 5 (pl plD),.box 17 (pl [.s,.b])]⟩
abbrev zOj:SPat:=⟨[(2,.ptr 2 0),(4,.ptr 17 0),(5,.ptr 5 0),(8,.i .i64)],[.box 2 (pl plD),.box 5 (pl plD),.box 17 (pl [.s,.b])]⟩
abbrev zOi:SPat:=⟨[(2,.ptr 2 0),(4,.ptr 17 0),(5,.ptr 5 0),(10,.i .i64)],[.box 2 (pl plD),.box 5 (pl plD),.box 17 (pl [.s,.b])]⟩
abbrev zOh:SPat:=⟨[(2,.ptr 2 0),(4,.ptr 17 0),(5,.ptr 5 0)],[.box 2 (pl plD),.box 5 (pl plD),.box 17 (pl [.s,.b])]⟩
abbrev zOg:SPat:=⟨[(2,.ptr 2 0),(4,.ptr 17 0),(5,.ptr 5 0)],[.box 2 (pl plD),.box 5 (pl plD),.box 17 (pl [.s,.b])]⟩
abbrev zOf:SPat:=⟨[(2,.ptr 2 0),(4,.ptr 17 0),(5,.ptr 5 0)],[.box 2 (pl plD),.box 5 (pl plD),.box 17 (pl [.s,.b])]⟩
abbrev zOe:SPat:=⟨[(2,.ptr 2 0),(4,.ptr 17 0),(5,.ptr 5 0)],[.box 2 (pl plD),.box 5 (pl plD),.box 17 (pl [.s,.b])]⟩
def tv17:Nat→Option SPat:=fun k=>bif k == 8 then some ts17_8 else bif k == 15 then some ts17_15 else bif k == 19 then some ts17_19 else bif k == 26 then some ts17_26 else bif k == 1000010 then some zOm else bif k == 1000017 then some zOl else bif k == 1000021 then some zOj else bif k == 1000028 then some zOi else bif k == 2000000 then some zOh else bif k == 2000002 then some zOg else bif k == 2000004 then some zOf else bif k == 2000006 then some zOe else none
def tp17:Nat→List Nat×Plan:=fun id=>bif id == 10 then ([0,1,2],(.br 3 [2] [0,1] [] (.br 4 [3,2] [0,1] [] (.br 5 [4,3,2,1,0] [] [6] (.br 7 [6,5,4,3,2,1,0] [] [] .fin .fin) .fin) .fin) .fin)) else bif id == 17 then ([0,1,2],(.br 3 [2] [0,1] [] (.br 4 [3,2] [0,1] [] (.br 5 [4,3,2,1,0] [] [6] (.br 7 [6,5,4,3,2,1,0] [] [] .fin .fin) .fin) .fin) .fin)) else bif id == 28 then ([0,1,2],(.br 3 [2] [0,1] [] (.br 4 [3,2] [0,1] [] (.br 5 [4,3,2,1,0] [] [6] (.br 7 [6,5,4,3,2,1,0] [] [] .fin .fin) .fin) .fin) .fin)) else ([],.fin)
def F17:List UInt8→Option (Bool×Cls):=fun app =>
 cndO (decide (900<(app.length:Int)))
 (some ((false,[],(0:Int),(0:Int),(0:Int),[],[],[])))
 (zAA (F57 ((4:Int),app,false)) fun (y,y1,y2) =>
 cndO (!decide (y=[(83:UInt8),84,79,87]))
 (some ((false,[],(0:Int),(0:Int),(0:Int),[],[],[])))
 (zAA (F59 (y1,y2)) fun (y3,y4,y5) =>
 zAA (F58 (y3,(60:Int),y4,y5)) fun (y6,y7,y8) =>
 bindE (Y:=(Cls)×(Cls)×List UInt8×Bool) (zAF (fun (v6,(o0,o1,o2,o3,o4,o5,o6),(o01,o11,o21,o31,o41,o51,o61),o02,o12) =>
 bindE (Y:=Int×(Cls)×(Cls)×List UInt8×Bool) (cndO (decide (0<v6))
 (cndO (!o12)
 (some (inl (v6,(o0,o1,o2,o3,o4,o5,o6),(o01,o11,o21,o31,o41,o51,o61),o02,o12)))
 (some (inr (inr (inl ((o0,o1,o2,o3,o4,o5,o6),(o01,o11,o21,o31,o41,o51,o61),o02,o12))))))
 (some (inr (inr (inl ((o0,o1,o2,o3,o4,o5,o6),(o01,o11,o21,o31,o41,o51,o61),o02,o12)))))) fun (v61,(o03,o13,o22,o32,o42,o52,o62),(o04,o14,o23,o33,o43,o53,o63),o05,o15) =>
 zAA (F60 (o05,o15)) fun ((y9,y10,y11,y12),y13,y14) =>
 grdO (decide (List.length o04+1≤9223372036854775807) && decide ((List.length o04+1)*40≤140737488355328)) (some (inl (IntKind.wrap .i64 (v61 - 1),(o03,o13,o22,o32,o42,o52,o62),(o04++[(y9,y10,y11,y12)],o14,o23,o33,o43,o53,o63),y13,y14)))) ((y6,([],(0:Int),(0:Int),(0:Int),[],[],[]),([],(0:Int),(0:Int),(0:Int),[],[],[]),y7,y8))) fun ((o0,o1,o2,o3,o4,o5,o6),(o01,o11,o21,o31,o41,o51,o61),o02,o12) =>
 zAA (F59 (o02,o12)) fun (y9,y10,y11) =>
 zAA (F61 (y10,y11)) fun (y12,y13,y14) =>
 zAA (F61 (y13,y14)) fun (y15,y16,y17) =>
 zAA (F59 (y16,y17)) fun (y18,y19,y20) =>
 zAA (F58 (y18,(3:Int),y19,y20)) fun (y21,y22,y23) =>
 bindE (Y:=(Cls)×(Cls)×List UInt8×Bool) (zAF (fun (v7,(o03,o13,o22,o32,o42,o52,o62),(o04,o14,o23,o33,o43,o53,o63),o05,o15) =>
 bindE (Y:=Int×(Cls)×(Cls)×List UInt8×Bool) (cndO (decide (0<v7))
 (cndO (!o15)
 (some (inl (v7,(o03,o13,o22,o32,o42,o52,o62),(o04,o14,o23,o33,o43,o53,o63),o05,o15)))
 (some (inr (inr (inl ((o03,o13,o22,o32,o42,o52,o62),(o04,o14,o23,o33,o43,o53,o63),o05,o15))))))
 (some (inr (inr (inl ((o03,o13,o22,o32,o42,o52,o62),(o04,o14,o23,o33,o43,o53,o63),o05,o15)))))) fun (v71,(o06,o16,o24,o34,o44,o54,o64),(o07,o17,o25,o35,o45,o55,o65),o08,o18) =>
 zAA (F61 (o08,o18)) fun (y24,y25,y26) =>
 grdO (decide (List.length o45+1≤9223372036854775807) && decide ((List.length o45+1)*8≤140737488355328)) (some (inl (IntKind.wrap .i64 (v71 - 1),(o06,o16,o24,o34,o44,o54,o64),(o07,o17,o25,o35,o45++[y24],o55,o65),y25,y26)))) ((y21,(o0,o1,o2,o3,o4,o5,o6),(o01,y9,y12,y15,o41,o51,o61),y22,y23))) fun ((o03,o13,o22,o32,o42,o52,o62),(o04,o14,o23,o33,o43,o53,o63),o05,o15) =>
 zAA (F59 (o05,o15)) fun (y24,y25,y26) =>
 zAA (F58 (y24,(5:Int),y25,y26)) fun (y27,y28,y29) =>
 bindE (Y:=(Cls)×(Cls)×List UInt8×Bool) (zAF (fun (v8,(o06,o16,o24,o34,o44,o54,o64),(o07,o17,o25,o35,o45,o55,o65),o08,o18) =>
 bindE (Y:=Int×(Cls)×(Cls)×List UInt8×Bool) (cndO (decide (0<v8))
 (cndO (!o18)
 (some (inl (v8,(o06,o16,o24,o34,o44,o54,o64),(o07,o17,o25,o35,o45,o55,o65),o08,o18)))
 (some (inr (inr (inl ((o06,o16,o24,o34,o44,o54,o64),(o07,o17,o25,o35,o45,o55,o65),o08,o18))))))
 (some (inr (inr (inl ((o06,o16,o24,o34,o44,o54,o64),(o07,o17,o25,o35,o45,o55,o65),o08,o18)))))) fun (v81,(o09,o19,o26,o36,o46,o56,o66),(o010,o110,o27,o37,o47,o57,o67),o011,o111) =>
 zAA (F59 (o011,o111)) fun (y30,y31,y32) =>
 zAA (F61 (y31,y32)) fun (y33,y34,y35) =>
 zAA (F61 (y34,y35)) fun (y36,y37,y38) =>
 grdO (decide (List.length o57+1≤9223372036854775807) && decide ((List.length o57+1)*24≤140737488355328)) (some (inl (IntKind.wrap .i64 (v81 - 1),(o09,o19,o26,o36,o46,o56,o66),(o010,o110,o27,o37,o47,o57++[(y30,y33,y36)],o67),y37,y38)))) ((y27,(o03,o13,o22,o32,o42,o52,o62),(o04,o14,o23,o33,o43,o53,o63),y28,y29))) fun ((o06,o16,o24,o34,o44,o54,o64),(o07,o17,o25,o35,o45,o55,o65),o08,o18) =>
 zAA (F59 (o08,o18)) fun (y30,y31,y32) =>
 zAA (F58 (y30,(6:Int),y31,y32)) fun (y33,y34,y35) =>
 bindE (Y:=(Cls)×(Cls)×List UInt8×Bool) (zAF (fun (v10,(o09,o19,o26,o36,o46,o56,o66),(o010,o110,o27,o37,o47,o57,o67),o011,o111) =>
 bindE (Y:=Int×(Cls)×(Cls)×List UInt8×Bool) (cndO (decide (0<v10))
 (cndO (!o111)
 (some (inl (v10,(o09,o19,o26,o36,o46,o56,o66),(o010,o110,o27,o37,o47,o57,o67),o011,o111)))
 (some (inr (inr (inl ((o09,o19,o26,o36,o46,o56,o66),(o010,o110,o27,o37,o47,o57,o67),o011,o111))))))
 (some (inr (inr (inl ((o09,o19,o26,o36,o46,o56,o66),(o010,o110,o27,o37,o47,o57,o67),o011,o111)))))) fun (v101,(o012,o112,o28,o38,o48,o58,o68),(o013,o113,o29,o39,o49,o59,o69),o014,o114) =>
 zAA (F62 (o014,o114)) fun ((y36,y37,y38,y39,y40,y41,x,x1),x2,x3) =>
 grdO (decide (List.length o69+1≤9223372036854775807) && decide ((List.length o69+1)*104≤140737488355328)) (some (inl (IntKind.wrap .i64 (v101 - 1),(o012,o112,o28,o38,o48,o58,o68),(o013,o113,o29,o39,o49,o59,o69++[(y36,y37,y38,y39,y40,y41,x,x1)]),x2,x3)))) ((y33,(o06,o16,o24,o34,o44,o54,o64),(o07,o17,o25,o35,o45,o55,o65),y34,y35))) fun ((o09,o19,o26,o36,o46,o56,o66),(o010,o110,o27,o37,o47,o57,o67),o011,o111) =>
 cndO (o111)
 (some ((false,[],(0:Int),(0:Int),(0:Int),[],[],[])))
 (cndO (!decide (o011=[]))
 (some ((false,[],(0:Int),(0:Int),(0:Int),[],[],[])))
 (some ((true,o010,o110,o27,o37,o47,o57,o67))))))
def tb17:=insT 17 (mkE 17 false [] ti17 to17 F17 [.cell 2 34,.tmp 3] 140 []) tb62
theorem ok17:TbOk Tryz.prog tb17:=okI ok62 tp17 tv17 func17 rfl call17
abbrev ti66:SPat:=⟨[(0,.agg (pl plC))],[]⟩
abbrev to66:SPat:=⟨[(2,.b)],[]⟩
abbrev ts66_4:SPat:=⟨[(1,.ptr 1 0),(32,.sl tg27),(33,.i .i64),(34,.i .i64)],[.box 1 (pl plC)]⟩
abbrev ts66_10:SPat:=⟨[(44,.sl tg53),(45,.i .i64),(46,.i .i64)],[]⟩
abbrev ts66_15:SPat:=⟨[(44,.sl tg53),(45,.i .i64),(46,.i .i64),(67,.sl zBd),(68,.i .i64),(69,.i .i64)],[]⟩
abbrev zNy:SPat:=⟨[(1,.ptr 1 0)],[.box 1 (pl plC)]⟩
abbrev zNx:SPat:=⟨[(6,.ptr 6 0),(44,.sl tg53),(45,.i .i64),(46,.i .i64)],[.box 6 (pl plM)]⟩
abbrev zNw:SPat:=⟨[(1,.ptr 1 0)],[.box 1 (pl plC)]⟩
abbrev zNv:SPat:=⟨[],[]⟩
abbrev zNu:SPat:=⟨[(44,.sl tg53),(45,.i .i64),(46,.i .i64)],[]⟩
abbrev zNt:SPat:=⟨[(44,.sl tg53),(45,.i .i64),(46,.i .i64)],[]⟩
abbrev zNs:SPat:=⟨[(44,.sl tg53),(45,.i .i64),(46,.i .i64),(67,.sl zBd),(68,.i .i64),(69,.i .i64)],[]⟩
def tv66:Nat→Option SPat:=fun k=>bif k == 4 then some ts66_4 else bif k == 10 then some ts66_10 else bif k == 15 then some ts66_15 else bif k == 1000003 then some zNy else bif k == 1000014 then some zNx else bif k == 2000000 then some zNw else bif k == 2000002 then some zNv else bif k == 2000003 then some zNu else bif k == 2000004 then some zNt else bif k == 2000005 then some zNs else none
def F66:Cls→Option (Bool):=fun (app0,app1,app2,app3,app4,app5,app6) =>
 bindE (Y:=Cls) (cndO (decide (60<(app0.length:Int)))
 (some (inr false))
 (cndO (decide (3<(app4.length:Int)))
 (some (inr false))
 (cndO (decide (5<(app5.length:Int)))
 (some (inr false))
 (cndO (decide (6<(app6.length:Int)))
 (some (inr false))
 (some (inl (app0,app1,app2,app3,app4,app5,app6))))))) fun (o0,o1,o2,o3,o4,o5,o6) =>
 bindE (Y:=Cls) (zAF (fun (v32,v33,v34,o01,o11,o21,o31,o41,o51,o61) =>
 cndO (decide (v34<v33))
 (grdO (decide (0≤v34)) (atO (v32) v34.toNat fun x=>cndO (decide (255<(x.2.1.length:Int)))
 (some (inr (inr false)))
 (some (inl (v32,v33,IntKind.wrap .i64 (v34+1),o01,o11,o21,o31,o41,o51,o61)))))
 (some (inr (inl (o01,o11,o21,o31,o41,o51,o61))))) ((o0,(o0.length:Int),(0:Int),o0,o1,o2,o3,o4,o5,o6))) fun (o01,o11,o21,o31,o41,o51,o61) =>
 bindE (zAF (fun (v44,v45,v46) =>
 cndO (decide (v46<v45))
 (bindE (Y:=List Mth×Int×Int) (grdO (decide (0≤v46)) (atO (v44) v46.toNat fun x=>bindE (Y:=List Mth×Int×Int×Mth) (cndO (decide (120<(x.2.2.2.2.2.1.length:Int)))
 (some (inr (inr (inr (inr false)))))
 (cndO (decide (3<(x.2.2.2.2.2.2.1.length:Int)))
 (some (inr (inr (inr (inr false)))))
 (cndO (decide (8<(x.2.2.2.2.2.2.2.length:Int)))
 (some (inr (inr (inr (inr false)))))
 (some (inl (v44,v45,v46,x.1,x.2.1,x.2.2.1,x.2.2.2.1,x.2.2.2.2.1,x.2.2.2.2.2.1,x.2.2.2.2.2.2.1,x.2.2.2.2.2.2.2)))))) fun (v441,v451,v461,o02,o12,o22,o32,o42,o52,o62,o7) =>
 bindE (Y:=List Mth×Int×Int) (zAF (fun (v442,v452,v462,v67,v68,v69) =>
 cndO (decide (v69<v68))
 (bindE (Y:=List Mth×Int×Int×List Frm×Int×Int) (grdO (decide (0≤v69)) (atO (v67) v69.toNat fun x1=>cndO (decide (8<(x1.2.1.length:Int)))
 (some (inr (inr (inr (inr (inr (inr false)))))))
 (cndO (decide (8<(x1.2.2.length:Int)))
 (some (inr (inr (inr (inr (inr (inr false)))))))
 (some (inl (v442,v452,v462,v67,v68,v69)))))) fun (v443,v453,v463,v671,v681,v691) =>
 some (inl (v443,v453,v463,v671,v681,IntKind.wrap .i64 (v691+1))))
 (some (inr (inl (v442,v452,v462))))) ((v441,v451,v461,o7,(o7.length:Int),(0:Int)))) fun (v442,v452,v462) =>
 some (inl (v442,v452,v462)))) fun (v441,v451,v461) =>
 some (inl (v441,v451,IntKind.wrap .i64 (v461+1))))
 (some (inr (inl ())))) ((o61,(o61.length:Int),(0:Int)))) fun _ =>
 some (true)
def tb66:=insT 66 (mkE 66 true [] ti66 to66 F66 [.tmp 2] 85 []) tb17
theorem ok66:TbOk Tryz.prog tb66:=okI ok17 noPl tv66 func66 rfl call66
abbrev ti144:SPat:=⟨[(0,.i .i64)],[]⟩
abbrev to144:SPat:=⟨[(2,.s)],[]⟩
def F144:Int→Option (List UInt8):=fun n =>
 grdO (decide (0≤IntKind.wrap .u8 n) && decide (IntKind.wrap .u8 n≤255)) (some ([UInt8.ofNat (Int.toNat (IntKind.wrap .u8 n))]))
def tb144:=insT 144 (mkE 144 true [] ti144 to144 F144 [.tmp 2] 7 []) tb66
theorem ok144:TbOk Tryz.prog tb144:=okI ok66 noPl noIv func144 rfl call144
abbrev ti145:SPat:=⟨[(0,.i .i64)],[]⟩
abbrev to145:SPat:=⟨[(2,.s)],[]⟩
def F145:Int→Option (List UInt8):=fun n =>
 zAA (F144 (Int.fdiv n (256:Int))) fun y =>
 zAA (F144 n) fun y1 =>
 grdO (decide (List.length y+List.length y1≤9223372036854775807)) (some (y++y1))
def tb145:=insT 145 (mkE 145 true [] ti145 to145 F145 [.tmp 2] 9 []) tb144
theorem ok145:TbOk Tryz.prog tb145:=okI ok144 noPl noIv func145 rfl call145
abbrev ti146:SPat:=⟨[(0,.sl zBH)],[]⟩
abbrev to146:SPat:=⟨[(2,.s)],[]⟩
abbrev ts146_3:SPat:=⟨[(3,.s),(9,.sl zBH),(10,.i .i64),(11,.i .i64)],[]⟩
abbrev zLt:SPat:=⟨[(3,.s)],[]⟩
abbrev zLs:SPat:=⟨[(3,.s),(9,.sl zBH),(10,.i .i64),(11,.i .i64)],[]⟩
def tv146:Nat→Option SPat:=fun k=>bif k == 3 then some ts146_3 else bif k == 2000000 then some zLt else bif k == 2000001 then some zLs else none
def F146:List (Int×Int)→Option (List UInt8):=fun list =>
 zAA (F144 (list.length:Int)) fun y =>
 bindE (Y:=List UInt8) (zAF (fun (out,v9,v10,v11) =>
 cndO (decide (v11<v10))
 (bindE (Y:=List UInt8×List (Int×Int)×Int×Int) (grdO (decide (0≤v11)) (atO (v9) v11.toNat fun x=>zAA (F144 (x.1)) fun y1 =>
 grdO (decide (List.length out+List.length y1≤9223372036854775807)) (cndO (decide (x.1=3))
 (zAA (F145 (x.2)) fun y2 =>
 grdO (decide (List.length (out++y1)+List.length y2≤9223372036854775807)) (some (inl (out++y1++y2,v9,v10,v11))))
 (some (inl (out++y1,v9,v10,v11)))))) fun (out1,v91,v101,v111) =>
 some (inl (out1,v91,v101,IntKind.wrap .i64 (v111+1))))
 (some (inr (inl out)))) ((y,list,(list.length:Int),(0:Int)))) fun out =>
 some (out)
def tb146:=insT 146 (mkE 146 true [] ti146 to146 F146 [.tmp 2] 30 []) tb145
theorem ok146:TbOk Tryz.prog tb146:=okI ok145 noPl tv146 func146 rfl call146
abbrev ti67:SPat:=⟨[(0,.agg (pl plC))],[]⟩
abbrev to67:SPat:=⟨[(2,.s)],[]⟩
abbrev ts67_3:SPat:=⟨[(1,.ptr 1 0),(3,.s),(22,.sl tg27),(23,.i .i64),(24,.i .i64)],[.box 1 (pl plC)]⟩
abbrev ts67_15:SPat:=⟨[(1,.ptr 1 0),(3,.s),(82,.sl (.int .i64)),(83,.i .i64),(84,.i .i64)],[.box 1 (pl plC)]⟩
abbrev ts67_21:SPat:=⟨[(1,.ptr 1 0),(3,.s),(100,.sl tg89),(101,.i .i64),(102,.i .i64)],[.box 1 (pl plC)]⟩
abbrev ts67_27:SPat:=⟨[(3,.s),(127,.sl tg53),(128,.i .i64),(129,.i .i64)],[]⟩
abbrev ts67_33:SPat:=⟨[(3,.s),(11,.ptr 11 0),(127,.sl tg53),(128,.i .i64),(129,.i .i64),(172,.sl zCg),(173,.i .i64),(174,.i .i64)],[.box 11 (pl plM)]⟩
abbrev ts67_39:SPat:=⟨[(3,.s),(127,.sl tg53),(128,.i .i64),(129,.i .i64),(203,.sl zBd),(204,.i .i64),(205,.i .i64)],[]⟩
abbrev zNr:SPat:=⟨[(1,.ptr 1 0),(3,.s)],[.box 1 (pl plC)]⟩
abbrev zNq:SPat:=⟨[(1,.ptr 1 0),(3,.s),(22,.sl tg27),(23,.i .i64),(24,.i .i64)],[.box 1 (pl plC)]⟩
abbrev zNp:SPat:=⟨[(1,.ptr 1 0),(3,.s)],[.box 1 (pl plC)]⟩
abbrev zNo:SPat:=⟨[(1,.ptr 1 0),(3,.s)],[.box 1 (pl plC)]⟩
abbrev zNn:SPat:=⟨[(3,.s)],[]⟩
abbrev zNm:SPat:=⟨[(3,.s),(127,.sl tg53),(128,.i .i64),(129,.i .i64)],[]⟩
abbrev zNl:SPat:=⟨[(3,.s),(11,.ptr 11 0),(127,.sl tg53),(128,.i .i64),(129,.i .i64)],[.box 11 (pl plM)]⟩
abbrev zNk:SPat:=⟨[(3,.s),(127,.sl tg53),(128,.i .i64),(129,.i .i64)],[]⟩
def tv67:Nat→Option SPat:=fun k=>bif k == 3 then some ts67_3 else bif k == 15 then some ts67_15 else bif k == 21 then some ts67_21 else bif k == 27 then some ts67_27 else bif k == 33 then some ts67_33 else bif k == 39 then some ts67_39 else bif k == 2000000 then some zNr else bif k == 2000002 then some zNq else bif k == 2000003 then some zNp else bif k == 2000005 then some zNo else bif k == 2000007 then some zNn else bif k == 2000008 then some zNm else bif k == 2000009 then some zNl else bif k == 2000011 then some zNk else none
def tp67:Nat→List Nat×Plan:=fun id=>bif id == 9 then ([0,1,2,3,5,6],(.br 4 [3,2,1] [0,5,6] [7,8] (.br 9 [8,7,6,5,4,3,2,1,0] [] [] .fin .fin) .fin)) else bif id == 7 then ([0,1,2,4,5],(.br 3 [2,1] [0,4,5] [] (.br 6 [5,4,3,2,1] [0] [7,8] (.br 9 [8,7,6,5,4,3,2,1,0] [] [] .fin .fin) .fin) .fin)) else bif id == 13 then ([0,1,2,4,5,8,9,12,13,14],(.br 3 [2,1] [0,4,5,8,9,12,13,14] [] (.br 6 [5,4,3,2,1] [0,8,9,12,13,14] [7] (.br 10 [9,8,6,5,4,3,2,1] [0,12,13,14,7] [11] (.br 15 [14,13,12,10,9,8,6,5,4,3,2,1] [0,7,11] [16,17] (.br 18 [17,16,15,14,13,12,11,10,9,8,7,6,5,4,3,2,1,0] [] [] .fin .fin) .fin) .fin) .fin) .fin)) else bif id == 23 then ([0,1,2,4,5,8,9],(.br 3 [2,1] [0,4,5,8,9] [] (.br 6 [5,4,3,2,1] [0,8,9] [7] (.br 10 [9,8,6,5,4,3,2,1] [0,7] [11,12] (.br 13 [12,11,10,9,8,7,6,5,4,3,2,1,0] [] [] .fin .fin) .fin) .fin) .fin)) else bif id == 29 then ([0,1,2,4,5,8,9],(.br 3 [2,1] [0,4,5,8,9] [] (.br 6 [5,4,3,2,1] [0,8,9] [7] (.br 10 [9,8,6,5,4,3,2,1] [0,7] [11,12] (.br 13 [12,11,10,9,8,7,6,5,4,3,2,1,0] [] [] .fin .fin) .fin) .fin) .fin)) else bif id == 31 then ([0,1,2,4,5,8,9,10,13,14,16,17,18],(.br 3 [2,1] [0,4,5,8,9,10,13,14,16,17,18] [] (.br 6 [5,4,3,2,1] [0,8,9,10,13,14,16,17,18] [7] (.br 11 [10,9,8,6,5,4,3,2,1] [0,13,14,16,17,18,7] [12,15] (.br 19 [18,17,16,11,10,9,8,6,5,4,3,2,1] [0,13,14,7,12,15] [20,21] (.br 22 [21,20,19,18,17,16,15,14,13,12,11,10,9,8,7,6,5,4,3,2,1,0] [] [] .fin .fin) .fin) .fin) .fin) .fin)) else bif id == 35 then ([0,1,2,4,5,8,9,12,13],(.br 3 [2,1] [0,4,5,8,9,12,13] [] (.br 6 [5,4,3,2,1] [0,8,9,12,13] [7] (.br 10 [9,8,6,5,4,3,2,1] [0,12,13,7] [11] (.br 14 [13,12,10,9,8,6,5,4,3,2,1] [0,7,11] [15,16] (.br 17 [16,15,14,13,12,11,10,9,8,7,6,5,4,3,2,1,0] [] [] .fin .fin) .fin) .fin) .fin) .fin)) else bif id == 41 then ([0,1,2,4,5,8,9],(.br 3 [2,1] [0,4,5,8,9] [] (.br 6 [5,4,3,2,1] [0,8,9] [7] (.br 10 [9,8,6,5,4,3,2,1] [0,7] [11,12] (.br 13 [12,11,10,9,8,7,6,5,4,3,2,1,0] [] [] .fin .fin) .fin) .fin) .fin)) else ([],.fin)
def F67:Cls→Option (List UInt8):=fun (app0,app1,app2,app3,app4,app5,app6) =>
 zAA (F144 (app0.length:Int)) fun y =>
 grdO (decide ((4:Nat)+List.length y≤9223372036854775807)) (bindE (Y:=List UInt8×Cls) (zAF (fun (v3,v22,v23,v24,o0,o1,o2,o3,o4,o5,o6) =>
 cndO (decide (v24<v23))
 (grdO (decide (0≤v24)) (atO (v22) v24.toNat fun x=>zAA (F144 (x.1)) fun y1 =>
 grdO (decide (List.length v3+List.length y1≤9223372036854775807)) (bindE (Y:=List UInt8×List Cst×Int×Int×Cls) (cndO (decide (x.1=1))
 (zAA (F144 (x.2.1.length:Int)) fun y2 =>
 seqU (seqU (grdO (decide (v3++y1=v3++y1)) (some ())) (seqU (grdO (decide (x.2.1=x.2.1)) (some ())) (some ()))) (grdO (decide (List.length y2+List.length (x.2.1)≤9223372036854775807)) (grdO (decide (List.length (v3++y1)+List.length (y2++x.2.1)≤9223372036854775807)) (some (inl (v3++y1++(y2++x.2.1),v22,v23,v24,o0,o1,o2,o3,o4,o5,o6))))))
 (cndO (decide (x.1=2))
 (zAA (F145 (x.2.2.1)) fun y2 =>
 grdO (decide (List.length (v3++y1)+List.length y2≤9223372036854775807)) (some (inl (v3++y1++y2,v22,v23,v24,o0,o1,o2,o3,o4,o5,o6))))
 (zAA (F145 (x.2.2.1)) fun y2 =>
 seqU (seqU (grdO (decide (v3++y1=v3++y1)) (some ())) (seqU (grdO (decide (x.2.2.2=x.2.2.2)) (some ())) (some ()))) (zAA (F145 (x.2.2.2)) fun y3 =>
 seqU (seqU (grdO (decide (v3++y1=v3++y1)) (some ())) (some ())) (grdO (decide (List.length y2+List.length y3≤9223372036854775807)) (grdO (decide (List.length (v3++y1)+List.length (y2++y3)≤9223372036854775807)) (some (inl (v3++y1++(y2++y3),v22,v23,v24,o0,o1,o2,o3,o4,o5,o6))))))))) fun (v31,v221,v231,v241,o01,o11,o21,o31,o41,o51,o61) =>
 some (inl (v31,v221,v231,IntKind.wrap .i64 (v241+1),o01,o11,o21,o31,o41,o51,o61)))))
 (some (inr (inl (v3,o0,o1,o2,o3,o4,o5,o6))))) (([(83:UInt8),84,79,87]++y,app0,(app0.length:Int),(0:Int),app0,app1,app2,app3,app4,app5,app6))) fun (v3,o0,o1,o2,o3,o4,o5,o6) =>
 zAA (F144 o1) fun y1 =>
 seqU (seqU (grdO (decide (v3=v3)) (some ())) (seqU (grdO (decide (o2=o2)) (some ())) (seqU (grdO (decide (o3=o3)) (some ())) (seqU (grdO (decide (o4=o4)) (some ())) (seqU (grdO (decide ((o4.length:Int)=(o4.length:Int))) (some ())) (some ())))))) (zAA (F145 o2) fun y2 =>
 seqU (seqU (grdO (decide (v3=v3)) (some ())) (seqU (grdO (decide (o3=o3)) (some ())) (seqU (grdO (decide (o4=o4)) (some ())) (seqU (grdO (decide ((o4.length:Int)=(o4.length:Int))) (some ())) (some ()))))) (grdO (decide (List.length y1+List.length y2≤9223372036854775807)) (zAA (F145 o3) fun y3 =>
 seqU (seqU (grdO (decide (v3=v3)) (some ())) (seqU (grdO (decide (o4=o4)) (some ())) (seqU (grdO (decide ((o4.length:Int)=(o4.length:Int))) (some ())) (seqU (grdO (decide (List.length y1+List.length y2≤9223372036854775807)) (grdO (decide (y1++y2=y1++y2)) (some ()))) (some ()))))) (grdO (decide (List.length (y1++y2)+List.length y3≤9223372036854775807)) (zAA (F144 (o4.length:Int)) fun y4 =>
 seqU (seqU (grdO (decide (v3=v3)) (some ())) (seqU (grdO (decide (List.length y1+List.length y2≤9223372036854775807)) (grdO (decide (y1++y2=y1++y2)) (some ()))) (seqU (grdO (decide (List.length (y1++y2)+List.length y3≤9223372036854775807)) (grdO (decide (y1++y2++y3=y1++y2++y3)) (some ()))) (some ())))) (grdO (decide (List.length (y1++y2++y3)+List.length y4≤9223372036854775807)) (grdO (decide (List.length v3+List.length (y1++y2++y3++y4)≤9223372036854775807)) (bindE (Y:=List UInt8×Cls) (zAF (fun (v31,v82,v83,v84,o01,o11,o21,o31,o41,o51,o61) =>
 cndO (decide (v84<v83))
 (grdO (decide (0≤v84)) (atO (v82) v84.toNat fun x=>zAA (F145 x) fun y5 =>
 grdO (decide (List.length v31+List.length y5≤9223372036854775807)) (some (inl (v31++y5,v82,v83,IntKind.wrap .i64 (v84+1),o01,o11,o21,o31,o41,o51,o61)))))
 (some (inr (inl (v31,o01,o11,o21,o31,o41,o51,o61))))) ((v3++(y1++y2++y3++y4),o4,(o4.length:Int),(0:Int),o0,o1,o2,o3,o4,o5,o6))) fun (v31,o01,o11,o21,o31,o41,o51,o61) =>
 zAA (F144 (o51.length:Int)) fun y5 =>
 grdO (decide (List.length v31+List.length y5≤9223372036854775807)) (bindE (Y:=List UInt8×Cls) (zAF (fun (v32,v100,v101,v102,o02,o12,o22,o32,o42,o52,o62) =>
 cndO (decide (v102<v101))
 (grdO (decide (0≤v102)) (atO (v100) v102.toNat fun x=>zAA (F144 (x.1)) fun y6 =>
 seqU (seqU (grdO (decide (v32=v32)) (some ())) (seqU (grdO (decide (x.2.1=x.2.1)) (some ())) (seqU (grdO (decide (x.2.2=x.2.2)) (some ())) (some ())))) (zAA (F145 (x.2.1)) fun y7 =>
 seqU (seqU (grdO (decide (v32=v32)) (some ())) (seqU (grdO (decide (x.2.2=x.2.2)) (some ())) (some ()))) (grdO (decide (List.length y6+List.length y7≤9223372036854775807)) (zAA (F145 (x.2.2)) fun y8 =>
 seqU (seqU (grdO (decide (v32=v32)) (some ())) (seqU (grdO (decide (List.length y6+List.length y7≤9223372036854775807)) (grdO (decide (y6++y7=y6++y7)) (some ()))) (some ()))) (grdO (decide (List.length (y6++y7)+List.length y8≤9223372036854775807)) (grdO (decide (List.length v32+List.length (y6++y7++y8)≤9223372036854775807)) (some (inl (v32++(y6++y7++y8),v100,v101,IntKind.wrap .i64 (v102+1),o02,o12,o22,o32,o42,o52,o62))))))))))
 (some (inr (inl (v32,o02,o12,o22,o32,o42,o52,o62))))) ((v31++y5,o51,(o51.length:Int),(0:Int),o01,o11,o21,o31,o41,o51,o61))) fun (v32,o02,o12,o22,o32,o42,o52,o62) =>
 zAA (F144 (o62.length:Int)) fun y6 =>
 grdO (decide (List.length v32+List.length y6≤9223372036854775807)) (bindE (Y:=List UInt8) (zAF (fun (v33,v127,v128,v129) =>
 cndO (decide (v129<v128))
 (bindE (Y:=List UInt8×List Mth×Int×Int) (grdO (decide (0≤v129)) (atO (v127) v129.toNat fun x=>zAA (F144 (x.1)) fun y7 =>
 seqU (seqU (grdO (decide (v33=v33)) (some ())) (seqU (grdO (decide (x.2.1=x.2.1)) (some ())) (seqU (grdO (decide (x.2.2.1=x.2.2.1)) (some ())) (some ())))) (zAA (F145 (x.2.1)) fun y8 =>
 seqU (seqU (grdO (decide (v33=v33)) (some ())) (seqU (grdO (decide (x.2.2.1=x.2.2.1)) (some ())) (some ()))) (grdO (decide (List.length y7+List.length y8≤9223372036854775807)) (zAA (F145 (x.2.2.1)) fun y9 =>
 seqU (seqU (grdO (decide (v33=v33)) (some ())) (seqU (grdO (decide (List.length y7+List.length y8≤9223372036854775807)) (grdO (decide (y7++y8=y7++y8)) (some ()))) (some ()))) (grdO (decide (List.length (y7++y8)+List.length y9≤9223372036854775807)) (grdO (decide (List.length v33+List.length (y7++y8++y9)≤9223372036854775807)) (zAA (F86 (x.1)) fun y10 =>
 cndO (y10)
 (some (inl (v33++(y7++y8++y9),v127,v128,v129)))
 (zAA (F144 (x.2.2.2.1)) fun y11 =>
 seqU (seqU (grdO (decide (v33++(y7++y8++y9)=v33++(y7++y8++y9))) (some ())) (seqU (grdO (decide (x.2.2.2.2.1=x.2.2.2.2.1)) (some ())) (seqU (grdO (decide (x.2.2.2.2.2.1=x.2.2.2.2.2.1)) (some ())) (seqU (grdO (decide ((x.2.2.2.2.2.1.length:Int)=(x.2.2.2.2.2.1.length:Int))) (some ())) (seqU (grdO (decide (x.2.2.2.2.2.1=x.2.2.2.2.2.1)) (some ())) (seqU (grdO (decide (x.2.2.2.2.2.2.1=x.2.2.2.2.2.2.1)) (some ())) (seqU (grdO (decide ((x.2.2.2.2.2.2.1.length:Int)=(x.2.2.2.2.2.2.1.length:Int))) (some ())) (some ())))))))) (zAA (F144 (x.2.2.2.2.1)) fun y12 =>
 seqU (seqU (grdO (decide (v33++(y7++y8++y9)=v33++(y7++y8++y9))) (some ())) (seqU (grdO (decide (x.2.2.2.2.2.1=x.2.2.2.2.2.1)) (some ())) (seqU (grdO (decide ((x.2.2.2.2.2.1.length:Int)=(x.2.2.2.2.2.1.length:Int))) (some ())) (seqU (grdO (decide (x.2.2.2.2.2.1=x.2.2.2.2.2.1)) (some ())) (seqU (grdO (decide (x.2.2.2.2.2.2.1=x.2.2.2.2.2.2.1)) (some ())) (seqU (grdO (decide ((x.2.2.2.2.2.2.1.length:Int)=(x.2.2.2.2.2.2.1.length:Int))) (some ())) (some ()))))))) (grdO (decide (List.length y11+List.length y12≤9223372036854775807)) (zAA (F145 (x.2.2.2.2.2.1.length:Int)) fun y13 =>
 seqU (seqU (grdO (decide (v33++(y7++y8++y9)=v33++(y7++y8++y9))) (some ())) (seqU (grdO (decide (x.2.2.2.2.2.1=x.2.2.2.2.2.1)) (some ())) (seqU (grdO (decide (x.2.2.2.2.2.2.1=x.2.2.2.2.2.2.1)) (some ())) (seqU (grdO (decide ((x.2.2.2.2.2.2.1.length:Int)=(x.2.2.2.2.2.2.1.length:Int))) (some ())) (seqU (grdO (decide (List.length y11+List.length y12≤9223372036854775807)) (grdO (decide (y11++y12=y11++y12)) (some ()))) (some ())))))) (grdO (decide (List.length (y11++y12)+List.length y13≤9223372036854775807)) (grdO (decide (List.length (y11++y12++y13)+List.length (x.2.2.2.2.2.1)≤9223372036854775807)) (zAA (F144 (x.2.2.2.2.2.2.1.length:Int)) fun y14 =>
 seqU (seqU (grdO (decide (v33++(y7++y8++y9)=v33++(y7++y8++y9))) (some ())) (seqU (grdO (decide (x.2.2.2.2.2.1=x.2.2.2.2.2.1)) (some ())) (seqU (grdO (decide (List.length y11+List.length y12≤9223372036854775807)) (grdO (decide (y11++y12=y11++y12)) (some ()))) (seqU (grdO (decide (List.length (y11++y12)+List.length y13≤9223372036854775807)) (grdO (decide (y11++y12++y13=y11++y12++y13)) (some ()))) (seqU (grdO (decide (List.length (y11++y12++y13)+List.length (x.2.2.2.2.2.1)≤9223372036854775807)) (grdO (decide (y11++y12++y13++x.2.2.2.2.2.1=y11++y12++y13++x.2.2.2.2.2.1)) (some ()))) (some ())))))) (grdO (decide (List.length (y11++y12++y13++x.2.2.2.2.2.1)+List.length y14≤9223372036854775807)) (grdO (decide (List.length (v33++(y7++y8++y9))+List.length (y11++y12++y13++x.2.2.2.2.2.1++y14)≤9223372036854775807)) (bindE (Y:=List UInt8×List Mth×Int×Int×Mth) (zAF (fun (v34,v1271,v1281,v1291,v172,v173,v174,o03,o13,o23,o33,o43,o53,o63,o7) =>
 cndO (decide (v174<v173))
 (grdO (decide (0≤v174)) (atO (v172) v174.toNat fun x1=>zAA (F145 (x1.1)) fun y15 =>
 seqU (seqU (grdO (decide (v34=v34)) (some ())) (seqU (grdO (decide (x1.2.1=x1.2.1)) (some ())) (seqU (grdO (decide (x1.2.2.1=x1.2.2.1)) (some ())) (seqU (grdO (decide (x1.2.2.2=x1.2.2.2)) (some ())) (some ()))))) (zAA (F145 (x1.2.1)) fun y16 =>
 seqU (seqU (grdO (decide (v34=v34)) (some ())) (seqU (grdO (decide (x1.2.2.1=x1.2.2.1)) (some ())) (seqU (grdO (decide (x1.2.2.2=x1.2.2.2)) (some ())) (some ())))) (grdO (decide (List.length y15+List.length y16≤9223372036854775807)) (zAA (F145 (x1.2.2.1)) fun y17 =>
 seqU (seqU (grdO (decide (v34=v34)) (some ())) (seqU (grdO (decide (x1.2.2.2=x1.2.2.2)) (some ())) (seqU (grdO (decide (List.length y15+List.length y16≤9223372036854775807)) (grdO (decide (y15++y16=y15++y16)) (some ()))) (some ())))) (grdO (decide (List.length (y15++y16)+List.length y17≤9223372036854775807)) (zAA (F145 (x1.2.2.2)) fun y18 =>
 seqU (seqU (grdO (decide (v34=v34)) (some ())) (seqU (grdO (decide (List.length y15+List.length y16≤9223372036854775807)) (grdO (decide (y15++y16=y15++y16)) (some ()))) (seqU (grdO (decide (List.length (y15++y16)+List.length y17≤9223372036854775807)) (grdO (decide (y15++y16++y17=y15++y16++y17)) (some ()))) (some ())))) (grdO (decide (List.length (y15++y16++y17)+List.length y18≤9223372036854775807)) (grdO (decide (List.length v34+List.length (y15++y16++y17++y18)≤9223372036854775807)) (some (inl (v34++(y15++y16++y17++y18),v1271,v1281,v1291,v172,v173,IntKind.wrap .i64 (v174+1),o03,o13,o23,o33,o43,o53,o63,o7))))))))))))
 (some (inr (inl (v34,v1271,v1281,v1291,o03,o13,o23,o33,o43,o53,o63,o7))))) ((v33++(y7++y8++y9)++(y11++y12++y13++x.2.2.2.2.2.1++y14),v127,v128,v129,x.2.2.2.2.2.2.1,(x.2.2.2.2.2.2.1.length:Int),(0:Int),x.1,x.2.1,x.2.2.1,x.2.2.2.1,x.2.2.2.2.1,x.2.2.2.2.2.1,x.2.2.2.2.2.2.1,x.2.2.2.2.2.2.2))) fun (v34,v1271,v1281,v1291,o03,o13,o23,o33,o43,o53,o63,o7) =>
 zAA (F144 (o7.length:Int)) fun y15 =>
 grdO (decide (List.length v34+List.length y15≤9223372036854775807)) (bindE (Y:=List UInt8×List Mth×Int×Int) (zAF (fun (v35,v1272,v1282,v1292,v203,v204,v205) =>
 cndO (decide (v205<v204))
 (grdO (decide (0≤v205)) (atO (v203) v205.toNat fun x1=>zAA (F145 (x1.1)) fun y16 =>
 seqU (seqU (grdO (decide (v35=v35)) (some ())) (seqU (grdO (decide (x1.2.1=x1.2.1)) (some ())) (seqU (grdO (decide (x1.2.2=x1.2.2)) (some ())) (some ())))) (zAA (F146 (x1.2.1)) fun y17 =>
 seqU (seqU (grdO (decide (v35=v35)) (some ())) (seqU (grdO (decide (x1.2.2=x1.2.2)) (some ())) (some ()))) (grdO (decide (List.length y16+List.length y17≤9223372036854775807)) (zAA (F146 (x1.2.2)) fun y18 =>
 seqU (seqU (grdO (decide (v35=v35)) (some ())) (seqU (grdO (decide (List.length y16+List.length y17≤9223372036854775807)) (grdO (decide (y16++y17=y16++y17)) (some ()))) (some ()))) (grdO (decide (List.length (y16++y17)+List.length y18≤9223372036854775807)) (grdO (decide (List.length v35+List.length (y16++y17++y18)≤9223372036854775807)) (some (inl (v35++(y16++y17++y18),v1272,v1282,v1292,v203,v204,IntKind.wrap .i64 (v205+1)))))))))))
 (some (inr (inl (v35,v1272,v1282,v1292))))) ((v34++y15,v1271,v1281,v1291,o7,(o7.length:Int),(0:Int)))) fun (v35,v1272,v1282,v1292) =>
 some (inl (v35,v1272,v1282,v1292))))))))))))))))))))) fun (v34,v1271,v1281,v1291) =>
 some (inl (v34,v1271,v1281,IntKind.wrap .i64 (v1291+1))))
 (some (inr (inl v33)))) ((v32++y6,o62,(o62.length:Int),(0:Int)))) fun v33 =>
 some (v33))))))))))))
def tb67:=insT 67 (mkE 67 true [] ti67 to67 F67 [.tmp 2] 225 []) tb146
theorem ok67:TbOk Tryz.prog tb67:=okI ok146 tp67 tv67 func67 rfl call67
abbrev ti147:SPat:=⟨[(0,.sl tg27),(1,.sl tg27)],[]⟩
abbrev to147:SPat:=⟨[(4,.b)],[]⟩
abbrev ts147_4:SPat:=⟨[(0,.sl tg27),(1,.sl tg27),(12,.i .i64),(13,.i .i64)],[]⟩
abbrev zLr:SPat:=⟨[],[]⟩
def tv147:Nat→Option SPat:=fun k=>bif k == 4 then some ts147_4 else bif k == 2000000 then some zLr else none
def tp147:Nat→List Nat×Plan:=fun id=>bif id == 6 then ([0,1,2,3,4,5,6,7,8],.fin) else ([],.fin)
def F147:List Cst×List Cst→Option (Bool):=fun (s1,s2) =>
 cndO (!decide ((s1.length:Int)=(s2.length:Int)))
 (some (false))
 (bindE (zAF (fun (s11,s21,v12,v13) =>
 cndO (decide (v13<v12))
 (grdO (decide (0≤v13)) (atO (s11) v13.toNat fun x=>grdO (decide (0≤v13)) (atO (s21) v13.toNat fun x1=>cndO (!(decide (x.1=x1.1) && (decide (x.2.1=x1.2.1) && (decide (x.2.2.1=x1.2.2.1) && (decide (x.2.2.2=x1.2.2.2) && true)))))
 (some (inr (inr false)))
 (some (inl (s11,s21,v12,IntKind.wrap .i64 (v13+1)))))))
 (some (inr (inl ())))) ((s1,s2,(s1.length:Int),(0:Int)))) fun _ =>
 some (true))
def tb147:=insT 147 (mkE 147 true [] ti147 to147 F147 [.tmp 4] 26 []) tb67
theorem ok147:TbOk Tryz.prog tb147:=okI ok67 tp147 tv147 func147 rfl call147
abbrev ti148:SPat:=⟨[(0,.sl (.int .i64)),(1,.sl (.int .i64))],[]⟩
abbrev to148:SPat:=⟨[(4,.b)],[]⟩
abbrev ts148_4:SPat:=⟨[(0,.sl (.int .i64)),(1,.sl (.int .i64)),(12,.i .i64),(13,.i .i64)],[]⟩
abbrev zLq:SPat:=⟨[],[]⟩
def tv148:Nat→Option SPat:=fun k=>bif k == 4 then some ts148_4 else bif k == 2000000 then some zLq else none
def tp148:Nat→List Nat×Plan:=fun id=>bif id == 6 then ([0,1,2,3,4,5,6,7,8],.fin) else ([],.fin)
def F148:List Int×List Int→Option (Bool):=fun (s1,s2) =>
 cndO (!decide ((s1.length:Int)=(s2.length:Int)))
 (some (false))
 (bindE (zAF (fun (s11,s21,v12,v13) =>
 cndO (decide (v13<v12))
 (grdO (decide (0≤v13)) (atO (s11) v13.toNat fun x=>grdO (decide (0≤v13)) (atO (s21) v13.toNat fun x1=>cndO (!decide (x=x1))
 (some (inr (inr false)))
 (some (inl (s11,s21,v12,IntKind.wrap .i64 (v13+1)))))))
 (some (inr (inl ())))) ((s1,s2,(s1.length:Int),(0:Int)))) fun _ =>
 some (true))
def tb148:=insT 148 (mkE 148 true [] ti148 to148 F148 [.tmp 4] 26 []) tb147
theorem ok148:TbOk Tryz.prog tb148:=okI ok147 tp148 tv148 func148 rfl call148
abbrev ti149:SPat:=⟨[(0,.sl tg89),(1,.sl tg89)],[]⟩
abbrev to149:SPat:=⟨[(4,.b)],[]⟩
abbrev ts149_4:SPat:=⟨[(0,.sl tg89),(1,.sl tg89),(12,.i .i64),(13,.i .i64)],[]⟩
abbrev zLp:SPat:=⟨[],[]⟩
def tv149:Nat→Option SPat:=fun k=>bif k == 4 then some ts149_4 else bif k == 2000000 then some zLp else none
def tp149:Nat→List Nat×Plan:=fun id=>bif id == 6 then ([0,1,2,3,4,5,6,7,8],.fin) else ([],.fin)
def F149:List (Int×Int×Int)×List (Int×Int×Int)→Option (Bool):=fun (s1,s2) =>
 cndO (!decide ((s1.length:Int)=(s2.length:Int)))
 (some (false))
 (bindE (zAF (fun (s11,s21,v12,v13) =>
 cndO (decide (v13<v12))
 (grdO (decide (0≤v13)) (atO (s11) v13.toNat fun x=>grdO (decide (0≤v13)) (atO (s21) v13.toNat fun x1=>cndO (!(decide (x.1=x1.1) && (decide (x.2.1=x1.2.1) && (decide (x.2.2=x1.2.2) && true))))
 (some (inr (inr false)))
 (some (inl (s11,s21,v12,IntKind.wrap .i64 (v13+1)))))))
 (some (inr (inl ())))) ((s1,s2,(s1.length:Int),(0:Int)))) fun _ =>
 some (true))
def tb149:=insT 149 (mkE 149 true [] ti149 to149 F149 [.tmp 4] 26 []) tb148
theorem ok149:TbOk Tryz.prog tb149:=okI ok148 tp149 tv149 func149 rfl call149
abbrev ti224:SPat:=⟨[(0,.sl zCg),(1,.sl zCg)],[]⟩
abbrev to224:SPat:=⟨[(4,.b)],[]⟩
abbrev ts224_4:SPat:=⟨[(0,.sl zCg),(1,.sl zCg),(12,.i .i64),(13,.i .i64)],[]⟩
abbrev zKo:SPat:=⟨[],[]⟩
def tv224:Nat→Option SPat:=fun k=>bif k == 4 then some ts224_4 else bif k == 2000000 then some zKo else none
def tp224:Nat→List Nat×Plan:=fun id=>bif id == 6 then ([0,1,2,3,4,5,6,7,8],.fin) else ([],.fin)
def F224:List (Int×Int×Int×Int)×List (Int×Int×Int×Int)→Option (Bool):=fun (s1,s2) =>
 cndO (!decide ((s1.length:Int)=(s2.length:Int)))
 (some (false))
 (bindE (zAF (fun (s11,s21,v12,v13) =>
 cndO (decide (v13<v12))
 (grdO (decide (0≤v13)) (atO (s11) v13.toNat fun x=>grdO (decide (0≤v13)) (atO (s21) v13.toNat fun x1=>cndO (!(decide (x.1=x1.1) && (decide (x.2.1=x1.2.1) && (decide (x.2.2.1=x1.2.2.1) && (decide (x.2.2.2=x1.2.2.2) && true)))))
 (some (inr (inr false)))
 (some (inl (s11,s21,v12,IntKind.wrap .i64 (v13+1)))))))
 (some (inr (inl ())))) ((s1,s2,(s1.length:Int),(0:Int)))) fun _ =>
 some (true))
def tb224:=insT 224 (mkE 224 true [] ti224 to224 F224 [.tmp 4] 26 []) tb149
theorem ok224:TbOk Tryz.prog tb224:=okI ok149 tp224 tv224 func224 rfl call224
end Go.Proofs.YtdpapeledldifaaGreat
end
