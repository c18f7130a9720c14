/- Part 31 of the proof that the law FnFilePut holds of every input; no condition. -/
import Derived.Test.YtdpapeledldifaaGreatX29
set_option autoImplicit true
set_option relaxedAutoImplicit true
set_option linter.all false
noncomputable section
namespace Go.Proofs.YtdpapeledldifaaGreat
open Go Go.AM Go.TM
set_option maxRecDepth 100000
set_option maxHeartbeats 4000000
abbrev ti140:SPat:=⟨[(0,.ptr 100000 0),(1,.s)],[.box 100000 (pl [.sl .byte,.i .i64])]⟩
abbrev to140:SPat:=⟨[(4,.s)],[.box 100000 (pl [.sl .byte,.i .i64])]⟩
def F140:List UInt8×List UInt8×Int→Option (List UInt8×List UInt8×Int):=fun (v1,o0,o1) =>
 cndO (decide (v1=[(65:UInt8)]))
  (zAA (F119 ([[],[],[(102:UInt8),105,101,108,100,32,122,32,73,32,48,10]],o0,o1)) fun (y,y1,y2) =>
  grdO (decide ((52:Nat)+List.length y≤9223372036854775807)) (grdO (decide (List.length ([(99:UInt8),108,97,115,115,32,65,32,79,98,106,32,48,10,102,105,101,108,100,32,120,32,73,32,48,10,102,105,101,108,100,32,110,32,76,65,59,32,48,10,102,105,101,108,100,32,115,32,73,32,49,10]++y)+55≤9223372036854775807)) (grdO (decide (List.length ([(99:UInt8),108,97,115,115,32,65,32,79,98,106,32,48,10,102,105,101,108,100,32,120,32,73,32,48,10,102,105,101,108,100,32,110,32,76,65,59,32,48,10,102,105,101,108,100,32,115,32,73,32,49,10]++y++[(109:UInt8),101,116,104,111,100,32,103,101,116,32,40,41,73,32,48,32,50,32,49,10,32,32,114,101,102,108,111,97,100,32,48,10,32,32,103,101,116,32,65,32,120,32,73,10,32,32,103,105,118,101,105,110,116,10])+60≤9223372036854775807)) (grdO (decide (List.length ([(99:UInt8),108,97,115,115,32,65,32,79,98,106,32,48,10,102,105,101,108,100,32,120,32,73,32,48,10,102,105,101,108,100,32,110,32,76,65,59,32,48,10,102,105,101,108,100,32,115,32,73,32,49,10]++y++[(109:UInt8),101,116,104,111,100,32,103,101,116,32,40,41,73,32,48,32,50,32,49,10,32,32,114,101,102,108,111,97,100,32,48,10,32,32,103,101,116,32,65,32,120,32,73,10,32,32,103,105,118,101,105,110,116,10]++[(109:UInt8),101,116,104,111,100,32,110,101,120,116,32,40,41,76,65,59,32,48,32,50,32,49,10,32,32,114,101,102,108,111,97,100,32,48,10,32,32,103,101,116,32,65,32,110,32,76,65,59,10,32,32,103,105,118,101,114,101,102,10])+40≤9223372036854775807)) (zAA (F119 ([[],[(109:UInt8),101,116,104,111,100,32,104,105,100,32,40,41,86,32,50,32,48,32,49,10,32,32,103,105,118,101,10]],y1,y2)) fun (y3,y4,y5) =>
  grdO (decide (List.length ([(99:UInt8),108,97,115,115,32,65,32,79,98,106,32,48,10,102,105,101,108,100,32,120,32,73,32,48,10,102,105,101,108,100,32,110,32,76,65,59,32,48,10,102,105,101,108,100,32,115,32,73,32,49,10]++y++[(109:UInt8),101,116,104,111,100,32,103,101,116,32,40,41,73,32,48,32,50,32,49,10,32,32,114,101,102,108,111,97,100,32,48,10,32,32,103,101,116,32,65,32,120,32,73,10,32,32,103,105,118,101,105,110,116,10]++[(109:UInt8),101,116,104,111,100,32,110,101,120,116,32,40,41,76,65,59,32,48,32,50,32,49,10,32,32,114,101,102,108,111,97,100,32,48,10,32,32,103,101,116,32,65,32,110,32,76,65,59,10,32,32,103,105,118,101,114,101,102,10]++[(109:UInt8),101,116,104,111,100,32,109,107,32,40,41,76,65,59,32,49,32,49,32,48,10,32,32,110,101,119,32,65,10,32,32,103,105,118,101,114,101,102,10])+List.length y3≤9223372036854775807)) (zAA (F119 ([[],List.append [(109:UInt8),101,116,104,111,100,32,98,101,103,105,110,32,40,41,86,32,49,32,49,32,48,10,32,32,112,117,115,104,32,49,48,10,32,32,112] [(114:UInt8),105,110,116,10,32,32,112,117,115,104,32,51,10,32,32,112,117,116,97,108,108,32,65,32,115,32,73,10,32,32,103,105,118,101,10],[(109:UInt8),101,116,104,111,100,32,98,101,103,105,110,32,40,41,86,32,49,32,50,32,48,10,32,32,112,117,115,104,32,49,10,32,32,112,117,115,104,32,48,10,32,32,100,105,118,10,32,32,112,114,105,110,116,10,32,32,103,105,118,101,10]],y4,y5)) fun (y6,y7,y8) =>
  grdO (decide (List.length ([(99:UInt8),108,97,115,115,32,65,32,79,98,106,32,48,10,102,105,101,108,100,32,120,32,73,32,48,10,102,105,101,108,100,32,110,32,76,65,59,32,48,10,102,105,101,108,100,32,115,32,73,32,49,10]++y++[(109:UInt8),101,116,104,111,100,32,103,101,116,32,40,41,73,32,48,32,50,32,49,10,32,32,114,101,102,108,111,97,100,32,48,10,32,32,103,101,116,32,65,32,120,32,73,10,32,32,103,105,118,101,105,110,116,10]++[(109:UInt8),101,116,104,111,100,32,110,101,120,116,32,40,41,76,65,59,32,48,32,50,32,49,10,32,32,114,101,102,108,111,97,100,32,48,10,32,32,103,101,116,32,65,32,110,32,76,65,59,10,32,32,103,105,118,101,114,101,102,10]++[(109:UInt8),101,116,104,111,100,32,109,107,32,40,41,76,65,59,32,49,32,49,32,48,10,32,32,110,101,119,32,65,10,32,32,103,105,118,101,114,101,102,10]++y3)+List.length y6≤9223372036854775807)) (some (([(99:UInt8),108,97,115,115,32,65,32,79,98,106,32,48,10,102,105,101,108,100,32,120,32,73,32,48,10,102,105,101,108,100,32,110,32,76,65,59,32,48,10,102,105,101,108,100,32,115,32,73,32,49,10]++y++[(109:UInt8),101,116,104,111,100,32,103,101,116,32,40,41,73,32,48,32,50,32,49,10,32,32,114,101,102,108,111,97,100,32,48,10,32,32,103,101,116,32,65,32,120,32,73,10,32,32,103,105,118,101,105,110,116,10]++[(109:UInt8),101,116,104,111,100,32,110,101,120,116,32,40,41,76,65,59,32,48,32,50,32,49,10,32,32,114,101,102,108,111,97,100,32,48,10,32,32,103,101,116,32,65,32,110,32,76,65,59,10,32,32,103,105,118,101,114,101,102,10]++[(109:UInt8),101,116,104,111,100,32,109,107,32,40,41,76,65,59,32,49,32,49,32,48,10,32,32,110,101,119,32,65,10,32,32,103,105,118,101,114,101,102,10]++y3++y6,y7,y8)))))))))
  (cndO (decide (v1=[(66:UInt8)]))
   (zAA (F119 ([[(48:UInt8)],[(48:UInt8)],[(50:UInt8)]],o0,o1)) fun (y,y1,y2) =>
   grdO (decide ((10:Nat)+List.length y≤9223372036854775807)) (grdO (decide (List.length ([(99:UInt8),108,97,115,115,32,66,32,65,32]++y)+13≤9223372036854775807)) (zAA (F119 ([[(109:UInt8),101,116,104,111,100,32,103,101,116,32,40,41,73,32,48,32,49,32,49,10,32,32,112,117,115,104,32,53,10,32,32,103,105,118,101,105,110,116,10],List.append [(109:UInt8),101,116,104,111,100,32,103,101,116,32,40,41,73,32,48,32,50,32,49,10,32,32,114,101,102,108,111,97,100,32,48,10,32,32,115,112,101,99] [(105:UInt8),97,108,32,65,32,103,101,116,32,40,41,73,10,32,32,112,117,115,104,32,49,10,32,32,97,100,100,10,32,32,103,105,118,101,105,110,116,10],[(109:UInt8),101,116,104,111,100,32,103,101,116,32,40,41,73,32,50,32,49,32,49,10,32,32,112,117,115,104,32,57,10,32,32,103,105,118,101,105,110,116,10],[(109:UInt8),101,116,104,111,100,32,110,101,120,116,32,40,41,76,65,59,32,48,32,49,32,49,10,32,32,110,101,119,32,66,10,32,32,103,105,118,101,114,101,102,10],[(109:UInt8),101,116,104,111,100,32,103,101,116,32,40,41,73,32,48,32,49,32,49,10,32,32,110,117,108,108,10,32,32,103,105,118,101,105,110,116,10],[(109:UInt8),101,116,104,111,100,32,98,101,103,105,110,32,40,41,86,32,49,32,49,32,48,10,32,32,112,117,115,104,32,50,48,10,32,32,112,114,105,110,116,10,32,32,103,105,118,101,10]],y1,y2)) fun (y3,y4,y5) =>
   grdO (decide (List.length ([(99:UInt8),108,97,115,115,32,66,32,65,32]++y++[(10:UInt8),102,105,101,108,100,32,121,32,73,32,48,10])+List.length y3≤9223372036854775807)) (some (([(99:UInt8),108,97,115,115,32,66,32,65,32]++y++[(10:UInt8),102,105,101,108,100,32,121,32,73,32,48,10]++y3,y4,y5))))))
   (cndO (decide (v1=[(67:UInt8)]))
    (zAA (F119 ([[],[(109:UInt8),101,116,104,111,100,32,103,101,116,32,40,41,73,32,48,32,49,32,49,10,32,32,112,117,115,104,32,54,10,32,32,103,105,118,101,105,110,116,10],[(109:UInt8),101,116,104,111,100,32,103,101,116,32,40,41,73,32,48,32,49,32,49,10,32,32,112,117,115,104,32,54,10,32,32,103,105,118,101,105,110,116,10]],o0,o1)) fun (y,y1,y2) =>
    grdO (decide ((21:Nat)+List.length y≤9223372036854775807)) (grdO (decide (List.length ([(99:UInt8),108,97,115,115,32,67,32,79,98,106,32,48,10,102,97,99,101,32,70,10]++y)+39≤9223372036854775807)) (zAA (F119 ([[(118:UInt8),105,114,116,117,97,108,32,65,32,103,101,116,32,40,41,73],[(103:UInt8),101,116,32,65,32,120,32,73]],y1,y2)) fun (y3,y4,y5) =>
    grdO (decide (List.length ([(99:UInt8),108,97,115,115,32,67,32,79,98,106,32,48,10,102,97,99,101,32,70,10]++y++[(109:UInt8),101,116,104,111,100,32,116,97,107,101,32,40,76,65,59,41,73,32,48,32,50,32,50,10,32,32,114,101,102,108,111,97,100,32,49,10,32,32])+List.length y3≤9223372036854775807)) (grdO (decide (List.length ([(99:UInt8),108,97,115,115,32,67,32,79,98,106,32,48,10,102,97,99,101,32,70,10]++y++[(109:UInt8),101,116,104,111,100,32,116,97,107,101,32,40,76,65,59,41,73,32,48,32,50,32,50,10,32,32,114,101,102,108,111,97,100,32,49,10,32,32]++y3)+11≤9223372036854775807)) (some (([(99:UInt8),108,97,115,115,32,67,32,79,98,106,32,48,10,102,97,99,101,32,70,10]++y++[(109:UInt8),101,116,104,111,100,32,116,97,107,101,32,40,76,65,59,41,73,32,48,32,50,32,50,10,32,32,114,101,102,108,111,97,100,32,49,10,32,32]++y3++[(10:UInt8),32,32,103,105,118,101,105,110,116,10],y4,y5)))))))
    (cndO (decide (v1=[(70:UInt8)]))
     (zAA (F119 ([[(53:UInt8)],[(53:UInt8)],[(53:UInt8)],[(52:UInt8)]],o0,o1)) fun (y,y1,y2) =>
     grdO (decide ((12:Nat)+List.length y≤9223372036854775807)) (grdO (decide (List.length ([(99:UInt8),108,97,115,115,32,70,32,79,98,106,32]++y)+39≤9223372036854775807)) (some (([(99:UInt8),108,97,115,115,32,70,32,79,98,106,32]++y++[(10:UInt8),109,101,116,104,111,100,32,103,101,116,32,40,41,73,32,56,10,109,101,116,104,111,100,32,116,97,107,101,32,40,76,65,59,41,73,32,56,10],y1,y2)))))
     (zAA (F119 ([[(65:UInt8)],[(65:UInt8)],[(66:UInt8)]],o0,o1)) fun (y,y1,y2) =>
     grdO (decide ((116:Nat)+List.length y≤9223372036854775807)) (grdO (decide (List.length (List.append [(99:UInt8),108,97,115,115,32,85,32,79,98,106,32,48,10,102,105,101,108,100,32,97,32,76,65,59,32,49,10,109,101,116,104,111,100,32,101,97,116,32,40,76,65,59] [(41:UInt8),73,32,49,32,50,32,49,10,32,32,114,101,102,108,111,97,100,32,48,10,32,32,103,101,116,32,65,32,120,32,73,10,32,32,103,105,118,101,105,110,116,10]++[(109:UInt8),101,116,104,111,100,32,109,97,107,101,32,40,41,76,65,59,32,49,32,49,32,48,10,32,32,110,101,119,32]++y)+11≤9223372036854775807)) (some ((List.append [(99:UInt8),108,97,115,115,32,85,32,79,98,106,32,48,10,102,105,101,108,100,32,97,32,76,65,59,32,49,10,109,101,116,104,111,100,32,101,97,116,32,40,76,65,59] [(41:UInt8),73,32,49,32,50,32,49,10,32,32,114,101,102,108,111,97,100,32,48,10,32,32,103,101,116,32,65,32,120,32,73,10,32,32,103,105,118,101,105,110,116,10]++[(109:UInt8),101,116,104,111,100,32,109,97,107,101,32,40,41,76,65,59,32,49,32,49,32,48,10,32,32,110,101,119,32]++y++[(10:UInt8),32,32,103,105,118,101,114,101,102,10],y1,y2))))))))
theorem r140 x:funT T tb138 noPl 71 noIv (zAD Tryz.f140) ti140 to140 x=F140 x:=by kernel_rfl
def te140:=mkE 140 false [(0,[])] ti140 to140 F140 [.tmp 4] 71 [100000]
def tb140:=insT 140 te140 tb138
theorem ok140:TbOk Tryz.prog tb140:=okI ok138 noPl noIv Tryz.func140 rfl Tryz.results140 Tryz.ntmps140 (by kernel_rfl) (by kernel_rfl) Tryz.call140 r140
abbrev ti56:SPat:=⟨[(0,.ptr 100000 0)],[.box 100000 (pl [.sl .byte,.i .i64])]⟩
abbrev to56:SPat:=⟨[(2,.ptr 2 0)],[.box 2 (pl plD),.box 100000 (pl [.sl .byte,.i .i64])]⟩
abbrev zNm:SPat:=⟨[(2,.ptr 2 0),(4,.s)],[.box 2 (pl plD),.box 100000 (pl [.sl .byte,.i .i64])]⟩
def tv56:Nat→Option SPat:=fun k=>bif k == 1000006 then some zNm else none
def F56:List UInt8×Int→Option ((Cls)×List UInt8×Int):=fun (o0,o1) =>
 zAA (F119 ([[(65:UInt8)],[(66:UInt8)],[(67:UInt8)],[(70:UInt8)],[(85:UInt8)],[(77:UInt8)]],o0,o1)) fun (y,y1,y2) =>
 bindE (Y:=List UInt8×(Cls)×List UInt8×Int) (cndO (decide (y=[(77:UInt8)]))
   (zAA (F138 (y1,y2)) fun ((y3,y4),y5,y6) =>
   some (Sum.inl (y4,([],(0:Int),(0:Int),(0:Int),[],[],[]),y5,y6)))
   (zAA (F140 (y,y1,y2)) fun (y3,y4,y5) =>
   zAA (F139 y3) fun y6 =>
   some (Sum.inl (y6,([],(0:Int),(0:Int),(0:Int),[],[],[]),y4,y5)))) fun (text_,(o01,o11,o2,o3,o4,o5,o6),o02,o12) =>
 zAA (F63 text_) fun (y3,y4,y5,y6,y7,y8,x,x1) =>
 some (((y4,y5,y6,y7,y8,x,x1),o02,o12))
theorem r56 x:funT T tb140 noPl 25 tv56 (zAD Tryz.f56) ti56 to56 x=F56 x:=by kernel_rfl
def te56:=mkE 56 false [(0,[])] ti56 to56 F56 [.cell 2 34] 25 [100000]
def tb56:=insT 56 te56 tb140
theorem ok56:TbOk Tryz.prog tb56:=okI ok140 noPl tv56 Tryz.func56 rfl Tryz.results56 Tryz.ntmps56 (by kernel_rfl) (by kernel_rfl) Tryz.call56 r56
abbrev ti54:SPat:=⟨[(0,.ptr 100000 0),(1,.s)],[.box 100000 (pl [.sl .byte,.i .i64])]⟩
abbrev to54:SPat:=⟨[(4,.s)],[.box 100000 (pl [.sl .byte,.i .i64])]⟩
abbrev zNs:SPat:=⟨[(0,.ptr 100000 0),(1,.s),(5,.i .i64),(12,.i .i64),(13,.b)],[.box 100000 (pl [.sl .byte,.i .i64])]⟩
abbrev zNr:SPat:=⟨[(1,.s)],[.box 100000 (pl [.sl .byte,.i .i64])]⟩
def tv54:Nat→Option SPat:=fun k=>bif k == 1000005 then some zNs else bif k == 2000000 then some zNr else none
def tp54:Nat→List Nat×Plan:=fun id=>bif id == 6 then ([0,1,2,3,9,10,11,12],(.br 4 [3] [0,1,2,9,10,11,12] [5] (.br 6 [5,4,3] [0,1,2,9,10,11,12] [7,8,13] (.br 14 [13,12,11,10,9,8,7,6,5,4,3,2,1,0] [] [] .fin .fin) .fin) .fin)) else ([],.fin)
def F54:List UInt8×List UInt8×Int→Option (List UInt8×List UInt8×Int):=fun (s,o0,o1) =>
 zAA (F51 (IntKind.wrap .i64 ((s.length:Int)+1),o0,o1)) fun (y,y1,y2) =>
 zAA (F51 ((5:Int),y1,y2)) fun (y3,y4,y5) =>
 bindE (Y:=List UInt8×List UInt8×Int) (bindE (Y:=List UInt8×Int×Int×Bool×List UInt8×Int) (cndO (decide (y3=0))
    (some (Sum.inl (s,y,y3,true,y4,y5)))
    (some (Sum.inl (s,y,y3,decide (y3=1),y4,y5)))) fun (s1,k,v12,v13,o01,o11) =>
  cndO (v13)
   (cndO (decide (k<(s1.length:Int)))
    (grdO (decide (0≤k) && decide (k≤(s1.length:Int))) (grdO (decide (0≤IntKind.wrap .i64 (k+1)) && decide (IntKind.wrap .i64 (k+1)≤(s1.length:Int)) && decide ((s1.length:Int)≤(s1.length:Int))) (zAA (F51 ((256:Int),o01,o11)) fun (y6,y7,y8) =>
    seqU (seqU (grdO (decide (s1=s1)) (some ())) (seqU (grdO (decide (k=k)) (some ())) (seqU (grdO (decide (0≤k) && decide (k≤(s1.length:Int))) (grdO (decide (List.drop (0:Nat) (List.take k.toNat s1)=List.drop (0:Nat) (List.take k.toNat s1))) (some ()))) (seqU (grdO (decide (s1=s1)) (some ())) (seqU (grdO (decide (k=k)) (some ())) (seqU (grdO (decide (IntKind.wrap .i64 (k+1)=IntKind.wrap .i64 (k+1))) (some ())) (seqU (grdO (decide (0≤IntKind.wrap .i64 (k+1)) && decide (IntKind.wrap .i64 (k+1)≤(s1.length:Int)) && decide ((s1.length:Int)≤(s1.length:Int))) (grdO (decide (List.drop (Int.toNat (IntKind.wrap .i64 (k+1))) (List.take (Int.toNat (s1.length:Int)) s1)=List.drop (Int.toNat (IntKind.wrap .i64 (k+1))) (List.take (Int.toNat (s1.length:Int)) s1))) (some ()))) (some ())))))))) (grdO (decide (0≤IntKind.wrap .u8 y6) && decide (IntKind.wrap .u8 y6≤255)) (seqU (seqU (grdO (decide (s1=s1)) (some ())) (seqU (grdO (decide (k=k)) (some ())) (seqU (grdO (decide (0≤k) && decide (k≤(s1.length:Int))) (grdO (decide (List.drop (0:Nat) (List.take k.toNat s1)=List.drop (0:Nat) (List.take k.toNat s1))) (some ()))) (seqU (grdO (decide (s1=s1)) (some ())) (seqU (grdO (decide (k=k)) (some ())) (seqU (grdO (decide (IntKind.wrap .i64 (k+1)=IntKind.wrap .i64 (k+1))) (some ())) (seqU (grdO (decide (0≤IntKind.wrap .i64 (k+1)) && decide (IntKind.wrap .i64 (k+1)≤(s1.length:Int)) && decide ((s1.length:Int)≤(s1.length:Int))) (grdO (decide (List.drop (Int.toNat (IntKind.wrap .i64 (k+1))) (List.take (Int.toNat (s1.length:Int)) s1)=List.drop (Int.toNat (IntKind.wrap .i64 (k+1))) (List.take (Int.toNat (s1.length:Int)) s1))) (some ()))) (some ())))))))) (grdO (decide (List.length (List.drop (0:Nat) (List.take k.toNat s1))+1≤9223372036854775807)) (grdO (decide (List.length (List.drop (0:Nat) (List.take k.toNat s1)++[UInt8.ofNat (Int.toNat (IntKind.wrap .u8 y6))])+List.length (List.drop (Int.toNat (IntKind.wrap .i64 (k+1))) (List.take (Int.toNat (s1.length:Int)) s1))≤9223372036854775807)) (some (Sum.inr (List.drop (0:Nat) (List.take k.toNat s1)++[UInt8.ofNat (Int.toNat (IntKind.wrap .u8 y6))]++List.drop (Int.toNat (IntKind.wrap .i64 (k+1))) (List.take (Int.toNat (s1.length:Int)) s1),y7,y8))))))))))
    (some (Sum.inl (s1,o01,o11))))
   (cndO (decide (v12=2))
    (grdO (decide (0≤k) && decide (k≤(s1.length:Int))) (some (Sum.inr (List.drop (0:Nat) (List.take k.toNat s1),o01,o11))))
    (cndO (decide (v12=3))
     (zAA (F51 ((256:Int),o01,o11)) fun (y6,y7,y8) =>
     grdO (decide (0≤IntKind.wrap .u8 y6) && decide (IntKind.wrap .u8 y6≤255)) (grdO (decide (List.length s1+1≤9223372036854775807)) (some (Sum.inr (s1++[UInt8.ofNat (Int.toNat (IntKind.wrap .u8 y6))],y7,y8)))))
     (some (Sum.inl (s1,o01,o11)))))) fun (s1,o01,o11) =>
 some ((s1,o01,o11))
theorem r54 x:funT T tb56 tp54 49 tv54 (zAD Tryz.f54) ti54 to54 x=F54 x:=by kernel_rfl
def te54:=mkE 54 false [(0,[])] ti54 to54 F54 [.tmp 4] 49 [100000]
def tb54:=insT 54 te54 tb56
theorem ok54:TbOk Tryz.prog tb54:=okI ok56 tp54 tv54 Tryz.func54 rfl Tryz.results54 Tryz.ntmps54 (by kernel_rfl) (by kernel_rfl) Tryz.call54 r54
abbrev ti120:SPat:=⟨[(0,.ptr 100000 0),(1,.agg (pl [.ar 100001,.i .i64,.i .i64,.i .i64,.ar 100002,.ar 100003,.ar 100004]))],[.box 100000 (pl [.sl .byte,.i .i64]),.arr 100001 tg27 true,.arr 100002 (.int .i64) true,.arr 100003 tg89 true,.arr 100004 tg53 true]⟩
abbrev to120:SPat:=⟨[(4,.ptr 4 0)],[.box 4 (pl [.ar 100001,.i .i64,.i .i64,.i .i64,.ar 100002,.ar 100003,.ar 100004]),.box 100000 (pl [.sl .byte,.i .i64]),.arr 100001 tg27 true,.arr 100002 (.int .i64) true,.arr 100003 tg89 true,.arr 100004 tg53 true]⟩
abbrev zME:SPat:=⟨[(0,.ptr 100000 0),(3,.ptr 3 0),(4,.ptr 4 0)],[.box 3 (pl [.ar 100001,.i .i64,.i .i64,.i .i64,.ar 100002,.ar 100003,.ar 100004]),.box 4 (pl plD),.box 100000 (pl [.sl .byte,.i .i64]),.arr 100001 tg27 true,.arr 100002 (.int .i64) true,.arr 100003 tg89 true,.arr 100004 tg53 true]⟩
abbrev zMD:SPat:=⟨[(3,.ptr 3 0),(4,.ptr 4 0)],[.box 3 (pl [.ar 100001,.i .i64,.i .i64,.i .i64,.ar 100002,.ar 100003,.ar 100004]),.box 4 (pl plD),.box 100000 (pl [.sl .byte,.i .i64]),.arr 100001 tg27 true,.arr 100002 (.int .i64) true,.arr 100003 tg89 true,.arr 100004 tg53 true]⟩
def tv120:Nat→Option SPat:=fun k=>bif k == 1000003 then some zME else bif k == 2000000 then some zMD else none
def tp120:Nat→List Nat×Plan:=fun id=>bif id == 3 then ([0,1,2,3,4,5],(.br 6 [5,4,3,2] [0,1] [7] (.br 8 [7,6,5,4,3,2,1,0] [] [] .fin .fin) .fin)) else bif id == 13 then ([0,1,2,3,4,5,7,9],(.br 6 [5] [0,1,2,3,4,7,9] [] (.br 8 [7,6,5] [0,1,2,3,4,9] [] (.br 10 [9,8,7,6,5] [0,1,2,3,4] [11] (.br 12 [11,10,9,8,7,6,5] [0,1,2,3,4] [13] (.br 14 [13,12,11,10,9,8,7,6,5] [0,1,2,3,4] [] (.br 15 [14,13,12,11,10,9,8,7,6,5,4,3,2,1] [0] [16,17] (.br 18 [17,16,15,14,13,12,11,10,9,8,7,6,5,4,3,2,1,0] [] [] .fin .fin) .fin) .fin) .fin) .fin) .fin) .fin)) else bif id == 15 then ([0,1,2,3,4,5,7,9,11],(.br 6 [5] [0,1,2,3,4,7,9,11] [] (.br 8 [7,6,5] [0,1,2,3,4,9,11] [] (.br 10 [9,8,7,6,5] [0,1,2,3,4,11] [] (.br 12 [11,10,9,8,7,6,5] [0,1,2,3,4] [13] (.br 14 [13,12,11,10,9,8,7,6,5] [0,1,2,3,4] [] (.br 15 [14,13,12,11,10,9,8,7,6,5,4,3,2,1] [0] [16,17] (.br 18 [17,16,15,14,13,12,11,10,9,8,7,6,5,4,3,2,1,0] [] [] .fin .fin) .fin) .fin) .fin) .fin) .fin) .fin)) else ([],.fin)
def F120:(Int×Int×Int)×(List UInt8×Int)×List Cst×List Int×List (Int×Int×Int)×List Mth→Option ((Int×Int×Int)×(List UInt8×Int)×List Cst×List Int×List (Int×Int×Int)×List Mth):=fun ((v11,v12,v13),(o0,o1),l100001,l100002,l100003,l100004) =>
 bindE (Y:=(Int×Int×Int)×(Cls)×(List UInt8×Int)×List Cst×List Int×List (Int×Int×Int)×List Mth) (cndO (decide ((l100004.length:Int)=0))
   (some (Sum.inr ((v11,v12,v13),(o0,o1),l100001,l100002,l100003,l100004)))
   (zAA (F51 ((3:Int),o0,o1)) fun (y,y1,y2) =>
   cndO (decide (0<y))
    (some (Sum.inr ((v11,v12,v13),(y1,y2),l100001,l100002,l100003,l100004)))
    (some (Sum.inl ((v11,v12,v13),([],(0:Int),(0:Int),(0:Int),[],[],[]),(y1,y2),l100001,l100002,l100003,l100004))))) fun ((o11,o2,o3),(o01,o12,o21,o31,o4,o5,o6),(o02,o13),l1000011,l1000021,l1000031,l1000041) =>
 zAA (F51 ((l1000041.length:Int),o02,o13)) fun (y,y1,y2) =>
 grdO (decide (0≤y) && decide (y<(l1000041.length:Int))) (zAA (F51 ((7:Int),y1,y2)) fun (y3,y4,y5) =>
 bindE (Y:=(Int×Int×Int)×(Cls)×(List UInt8×Int)×List Cst×List Int×List (Int×Int×Int)×List Mth) (cndO (decide (y3=0))
   (atO (l1000041) y.toNat fun x=>zAA (F54 (x.2.2.2.2.2.1,y4,y5)) fun (y6,y7,y8) =>
   atO (l1000041) y.toNat fun x1=>some (Sum.inl ((o11,o2,o3),(o01,o12,o21,o31,o4,o5,o6),(y7,y8),l1000011,l1000021,l1000031,List.set l1000041 y.toNat (x1.1,x1.2.1,x1.2.2.1,x1.2.2.2.1,x1.2.2.2.2.1,y6,x1.2.2.2.2.2.2.1,x1.2.2.2.2.2.2.2))))
   (cndO (decide (y3=1))
    (zAA (F105 ([(0:Int),(1:Int),(8:Int),(9:Int),(256:Int)],y4,y5)) fun (y6,y7,y8) =>
    atO (l1000041) y.toNat fun x=>some (Sum.inl ((o11,o2,o3),(o01,o12,o21,o31,o4,o5,o6),(y7,y8),l1000011,l1000021,l1000031,List.set l1000041 y.toNat (x.1,x.2.1,x.2.2.1,y6,x.2.2.2.2.1,x.2.2.2.2.2.1,x.2.2.2.2.2.2.1,x.2.2.2.2.2.2.2))))
    (cndO (decide (y3=2))
     (zAA (F105 ([(0:Int),(1:Int),(8:Int),(9:Int),(256:Int)],y4,y5)) fun (y6,y7,y8) =>
     atO (l1000041) y.toNat fun x=>some (Sum.inl ((o11,o2,o3),(o01,o12,o21,o31,o4,o5,o6),(y7,y8),l1000011,l1000021,l1000031,List.set l1000041 y.toNat (x.1,x.2.1,x.2.2.1,x.2.2.2.1,y6,x.2.2.2.2.2.1,x.2.2.2.2.2.2.1,x.2.2.2.2.2.2.2))))
     (cndO (decide (y3=3))
      (atO (l1000041) y.toNat fun x=>grdO (decide (Int.toNat y=Int.toNat y) && decide (Int.toNat y<List.length l1000041)) (grdO (decide (Int.toNat y=Int.toNat y) && decide (Int.toNat y<List.length l1000041)) (grdO (decide (Int.toNat y=Int.toNat y) && decide (Int.toNat y<List.length l1000041)) (zAA (F51 ((8:Int),y4,y5)) fun (y6,y7,y8) =>
      seqU (seqU (grdO (Int.toNat y == Int.toNat y && true) (some ())) (seqU (grdO (Int.toNat y == Int.toNat y && true) (some ())) (seqU (grdO (Int.toNat y == Int.toNat y && true) (some ())) (seqU (grdO (Int.toNat y == Int.toNat y && true) (some ())) (seqU (grdO (decide (Int.toNat y=Int.toNat y) && decide (Int.toNat y<List.length l1000041)) (grdO (decide (Int.toNat y=Int.toNat y) && decide (Int.toNat y<List.length l1000041)) (grdO (decide (Int.toNat y=Int.toNat y) && decide (Int.toNat y<List.length l1000041)) (some ())))) (some ())))))) (zAA (F51 ((5:Int),y7,y8)) fun (y9,y10,y11) =>
      seqU (seqU (grdO (Int.toNat y == Int.toNat y && true) (some ())) (seqU (grdO (Int.toNat y == Int.toNat y && true) (some ())) (seqU (grdO (Int.toNat y == Int.toNat y && true) (some ())) (seqU (grdO (Int.toNat y == Int.toNat y && true) (some ())) (seqU (grdO (decide (Int.toNat y=Int.toNat y) && decide (Int.toNat y<List.length l1000041)) (grdO (decide (Int.toNat y=Int.toNat y) && decide (Int.toNat y<List.length l1000041)) (grdO (decide (Int.toNat y=Int.toNat y) && decide (Int.toNat y<List.length l1000041)) (some ())))) (some ())))))) (zAA (F51 ((3:Int),y10,y11)) fun (y12,y13,y14) =>
      seqU (seqU (grdO (Int.toNat y == Int.toNat y && true) (some ())) (seqU (grdO (Int.toNat y == Int.toNat y && true) (some ())) (seqU (grdO (Int.toNat y == Int.toNat y && true) (some ())) (seqU (grdO (Int.toNat y == Int.toNat y && true) (some ())) (seqU (grdO (decide (Int.toNat y=Int.toNat y) && decide (Int.toNat y<List.length l1000041)) (grdO (decide (Int.toNat y=Int.toNat y) && decide (Int.toNat y<List.length l1000041)) (grdO (decide (Int.toNat y=Int.toNat y) && decide (Int.toNat y<List.length l1000041)) (some ())))) (some ())))))) (seqU (seqU (grdO (Int.toNat y == Int.toNat y && true) (some ())) (seqU (grdO (Int.toNat y == Int.toNat y && true) (some ())) (seqU (grdO (Int.toNat y == Int.toNat y && true) (some ())) (seqU (grdO (Int.toNat y == Int.toNat y && true) (some ())) (seqU (grdO (decide (Int.toNat y=Int.toNat y) && decide (Int.toNat y<List.length l1000041)) (grdO (decide (Int.toNat y=Int.toNat y) && decide (Int.toNat y<List.length l1000041)) (grdO (decide (Int.toNat y=Int.toNat y) && decide (Int.toNat y<List.length l1000041)) (some ())))) (some ())))))) (seqU (seqU (grdO (Int.toNat y == Int.toNat y && true) (some ())) (seqU (grdO (Int.toNat y == Int.toNat y && true) (some ())) (seqU (grdO (Int.toNat y == Int.toNat y && true) (some ())) (seqU (grdO (Int.toNat y == Int.toNat y && true) (some ())) (seqU (grdO (decide (Int.toNat y=Int.toNat y) && decide (Int.toNat y<List.length l1000041)) (grdO (decide (Int.toNat y=Int.toNat y) && decide (Int.toNat y<List.length l1000041)) (grdO (decide (Int.toNat y=Int.toNat y) && decide (Int.toNat y<List.length l1000041)) (some ())))) (some ())))))) (grdO (decide (List.length (x.2.2.2.2.2.2.2)+1≤9223372036854775807) && decide ((List.length (x.2.2.2.2.2.2.2)+1)*56≤140737488355328)) (seqU (seqU (grdO (Int.toNat y == Int.toNat y && true) (some ())) (some ())) (grdO (decide (Int.toNat y=Int.toNat y) && decide (Int.toNat y<List.length l1000041)) (grdO (decide (Int.toNat y<List.length l1000041)) (some (Sum.inl ((o11,o2,o3),(o01,o12,o21,o31,o4,o5,o6),(y13,y14),l1000011,l1000021,l1000031,List.set l1000041 y.toNat (x.1,x.2.1,x.2.2.1,x.2.2.2.1,x.2.2.2.2.1,x.2.2.2.2.2.1,x.2.2.2.2.2.2.1,x.2.2.2.2.2.2.2++[(y6,[(y9,y12)],[])]))))))))))))))))
      (cndO (decide (y3=4))
       (atO (l1000041) y.toNat fun x=>grdO (decide (Int.toNat y=Int.toNat y) && decide (Int.toNat y<List.length l1000041)) (grdO (decide (Int.toNat y=Int.toNat y) && decide (Int.toNat y<List.length l1000041)) (grdO (decide (Int.toNat y=Int.toNat y) && decide (Int.toNat y<List.length l1000041)) (zAA (F51 ((4:Int),y4,y5)) fun (y6,y7,y8) =>
       seqU (seqU (grdO (Int.toNat y == Int.toNat y && true) (some ())) (seqU (grdO (Int.toNat y == Int.toNat y && true) (some ())) (seqU (grdO (Int.toNat y == Int.toNat y && true) (some ())) (seqU (grdO (Int.toNat y == Int.toNat y && true) (some ())) (seqU (grdO (decide (Int.toNat y=Int.toNat y) && decide (Int.toNat y<List.length l1000041)) (grdO (decide (Int.toNat y=Int.toNat y) && decide (Int.toNat y<List.length l1000041)) (grdO (decide (Int.toNat y=Int.toNat y) && decide (Int.toNat y<List.length l1000041)) (some ())))) (some ())))))) (zAA (F51 ((6:Int),y7,y8)) fun (y9,y10,y11) =>
       seqU (seqU (grdO (Int.toNat y == Int.toNat y && true) (some ())) (seqU (grdO (Int.toNat y == Int.toNat y && true) (some ())) (seqU (grdO (Int.toNat y == Int.toNat y && true) (some ())) (seqU (grdO (Int.toNat y == Int.toNat y && true) (some ())) (seqU (grdO (decide (Int.toNat y=Int.toNat y) && decide (Int.toNat y<List.length l1000041)) (grdO (decide (Int.toNat y=Int.toNat y) && decide (Int.toNat y<List.length l1000041)) (grdO (decide (Int.toNat y=Int.toNat y) && decide (Int.toNat y<List.length l1000041)) (some ())))) (some ())))))) (zAA (F51 ((6:Int),y10,y11)) fun (y12,y13,y14) =>
       seqU (seqU (grdO (Int.toNat y == Int.toNat y && true) (some ())) (seqU (grdO (Int.toNat y == Int.toNat y && true) (some ())) (seqU (grdO (Int.toNat y == Int.toNat y && true) (some ())) (seqU (grdO (Int.toNat y == Int.toNat y && true) (some ())) (seqU (grdO (decide (Int.toNat y=Int.toNat y) && decide (Int.toNat y<List.length l1000041)) (grdO (decide (Int.toNat y=Int.toNat y) && decide (Int.toNat y<List.length l1000041)) (grdO (decide (Int.toNat y=Int.toNat y) && decide (Int.toNat y<List.length l1000041)) (some ())))) (some ())))))) (zAA (F51 ((3:Int),y13,y14)) fun (y15,y16,y17) =>
       seqU (seqU (grdO (Int.toNat y == Int.toNat y && true) (some ())) (seqU (grdO (Int.toNat y == Int.toNat y && true) (some ())) (seqU (grdO (Int.toNat y == Int.toNat y && true) (some ())) (seqU (grdO (Int.toNat y == Int.toNat y && true) (some ())) (seqU (grdO (decide (Int.toNat y=Int.toNat y) && decide (Int.toNat y<List.length l1000041)) (grdO (decide (Int.toNat y=Int.toNat y) && decide (Int.toNat y<List.length l1000041)) (grdO (decide (Int.toNat y=Int.toNat y) && decide (Int.toNat y<List.length l1000041)) (some ())))) (some ())))))) (seqU (seqU (grdO (Int.toNat y == Int.toNat y && true) (some ())) (seqU (grdO (Int.toNat y == Int.toNat y && true) (some ())) (seqU (grdO (Int.toNat y == Int.toNat y && true) (some ())) (seqU (grdO (Int.toNat y == Int.toNat y && true) (some ())) (seqU (grdO (decide (Int.toNat y=Int.toNat y) && decide (Int.toNat y<List.length l1000041)) (grdO (decide (Int.toNat y=Int.toNat y) && decide (Int.toNat y<List.length l1000041)) (grdO (decide (Int.toNat y=Int.toNat y) && decide (Int.toNat y<List.length l1000041)) (some ())))) (some ())))))) (grdO (decide (List.length (x.2.2.2.2.2.2.1)+1≤9223372036854775807) && decide ((List.length (x.2.2.2.2.2.2.1)+1)*32≤140737488355328)) (seqU (seqU (grdO (Int.toNat y == Int.toNat y && true) (some ())) (some ())) (grdO (decide (Int.toNat y=Int.toNat y) && decide (Int.toNat y<List.length l1000041)) (grdO (decide (Int.toNat y<List.length l1000041)) (some (Sum.inl ((o11,o2,o3),(o01,o12,o21,o31,o4,o5,o6),(y16,y17),l1000011,l1000021,l1000031,List.set l1000041 y.toNat (x.1,x.2.1,x.2.2.1,x.2.2.2.1,x.2.2.2.2.1,x.2.2.2.2.2.1,x.2.2.2.2.2.2.1++[(y6,y9,y12,y15)],x.2.2.2.2.2.2.2))))))))))))))))
       (cndO (decide (y3=5))
        (zAA (F51 ((16:Int),y4,y5)) fun (y6,y7,y8) =>
        atO (l1000041) y.toNat fun x=>some (Sum.inl ((o11,o2,o3),(o01,o12,o21,o31,o4,o5,o6),(y7,y8),l1000011,l1000021,l1000031,List.set l1000041 y.toNat (y6,x.2.1,x.2.2.1,x.2.2.2.1,x.2.2.2.2.1,x.2.2.2.2.2.1,x.2.2.2.2.2.2.1,x.2.2.2.2.2.2.2))))
        (zAA (F51 ((l1000011.length:Int),y4,y5)) fun (y6,y7,y8) =>
        atO (l1000041) y.toNat fun x=>some (Sum.inl ((o11,o2,o3),(o01,o12,o21,o31,o4,o5,o6),(y7,y8),l1000011,l1000021,l1000031,List.set l1000041 y.toNat (x.1,x.2.1,IntKind.wrap .i64 ((1:Int)+y6),x.2.2.2.1,x.2.2.2.2.1,x.2.2.2.2.2.1,x.2.2.2.2.2.2.1,x.2.2.2.2.2.2.2)))))))))) fun ((o14,o22,o32),(o03,o15,o23,o33,o41,o51,o61),(o04,o16),l1000012,l1000022,l1000032,l1000042) =>
 some (((o14,o22,o32),(o04,o16),l1000012,l1000022,l1000032,l1000042)))
theorem r120 x:funT T tb54 tp120 110 tv120 (zAD Tryz.f120) ti120 to120 x=F120 x:=by kernel_rfl
def te120:=mkE 120 false [(0,[]),(1,[0]),(1,[4]),(1,[5]),(1,[6])] ti120 to120 F120 [.cell 4 34] 110 [100000,100001,100002,100003,100004]
def tb120:=insT 120 te120 tb54
theorem ok120:TbOk Tryz.prog tb120:=okI ok54 tp120 tv120 Tryz.func120 rfl Tryz.results120 Tryz.ntmps120 (by kernel_rfl) (by kernel_rfl) Tryz.call120 r120
abbrev ti50:SPat:=⟨[(0,.ptr 100000 0)],[.box 100000 (pl [.sl .byte,.i .i64])]⟩
abbrev to50:SPat:=⟨[(2,.ptr 2 0)],[.box 2 (pl plD),.box 100000 (pl [.sl .byte,.i .i64])]⟩
abbrev zNv:SPat:=⟨[(0,.ptr 100000 0),(2,.ptr 2 0),(3,.ptr 3 0)],[.box 2 (pl plD),.box 3 (pl plD),.box 100000 (pl [.sl .byte,.i .i64])]⟩
def tv50:Nat→Option SPat:=fun k=>bif k == 2000000 then some zNv else none
def tp50:Nat→List Nat×Plan:=fun id=>bif id == 7 then ([0,1,2,3,4,5,6,7,8,9,10],(.br 11 [10,9,8,7,6,5,4] [0,1,2,3] [] (.br 12 [11,10,9,8,7,6,5,4,3] [0,1,2] [13,14] (.br 15 [14,13,12,11,10,9,8,7,6,5,4,3,2,1,0] [] [] .fin .fin) .fin) .fin)) else bif id == 9 then ([0,1,2,3],(.br 4 [3] [0,1,2] [5,6] (.br 7 [6,5,4,3,2,1,0] [] [] .fin .fin) .fin)) else bif id == 11 then ([0,1,2,3],(.br 4 [] [0,1,2,3] [] (.br 5 [4,3] [0,1,2] [6,7] (.br 8 [7,6,5,4,3,2,1,0] [] [] .fin .fin) .fin) .fin)) else bif id == 17 then ([0,1,2,3,4,5,6],(.br 7 [6,5,4,3] [0,1,2] [] (.br 8 [7,6,5,4,3,2] [0,1] [] (.br 9 [8,7,6,5,4,3,2] [0,1] [] (.br 10 [9,8,7,6,5,4,3,2,1,0] [] [11] (.br 12 [11,10,9,8,7,6,5,4,3,2,1,0] [] [] .fin .fin) .fin) .fin) .fin) .fin)) else bif id == 19 then ([0,1,2,4,7],(.br 3 [2] [0,1,4,7] [] (.br 5 [] [0,1,2,4,7] [] (.br 6 [5,4,3,2] [0,1,7] [] (.br 8 [] [0,1,2,4,7] [] (.br 9 [8,7,6,5,4,3,2] [0,1] [10] (.br 11 [10,9,8,7,6,5,4,3,2] [0,1] [] (.br 12 [11,10,9,8,7,6,5,4,3,2,1,0] [] [13] (.br 14 [13,12,11,10,9,8,7,6,5,4,3,2,1,0] [] [] .fin .fin) .fin) .fin) .fin) .fin) (.br 8 [] [0,1,2,4,7] [] (.br 6 [5,4,3,2] [0,1,7] [] (.br 9 [8,7,6,5,4,3,2] [0,1] [10] (.br 11 [10,9,8,7,6,5,4,3,2] [0,1] [] (.br 12 [11,10,9,8,7,6,5,4,3,2,1,0] [] [13] (.br 14 [13,12,11,10,9,8,7,6,5,4,3,2,1,0] [] [] .fin .fin) .fin) .fin) .fin) .fin) .fin)) (.br 8 [] [0,1,2,4,7] [] (.br 5 [] [0,1,2,4,7] [] (.br 6 [5,4,3,2] [0,1,7] [] (.br 9 [8,7,6,5,4,3,2] [0,1] [10] (.br 11 [10,9,8,7,6,5,4,3,2] [0,1] [] (.br 12 [11,10,9,8,7,6,5,4,3,2,1,0] [] [13] (.br 14 [13,12,11,10,9,8,7,6,5,4,3,2,1,0] [] [] .fin .fin) .fin) .fin) .fin) .fin) .fin) .fin)) (.br 5 [] [0,1,2,4,7] [] (.br 3 [2] [0,1,4,7] [] (.br 6 [5,4,3,2] [0,1,7] [] (.br 8 [] [0,1,2,4,7] [] (.br 9 [8,7,6,5,4,3,2] [0,1] [10] (.br 11 [10,9,8,7,6,5,4,3,2] [0,1] [] (.br 12 [11,10,9,8,7,6,5,4,3,2,1,0] [] [13] (.br 14 [13,12,11,10,9,8,7,6,5,4,3,2,1,0] [] [] .fin .fin) .fin) .fin) .fin) .fin) (.br 8 [] [0,1,2,4,7] [] (.br 6 [5,4,3,2] [0,1,7] [] (.br 9 [8,7,6,5,4,3,2] [0,1] [10] (.br 11 [10,9,8,7,6,5,4,3,2] [0,1] [] (.br 12 [11,10,9,8,7,6,5,4,3,2,1,0] [] [13] (.br 14 [13,12,11,10,9,8,7,6,5,4,3,2,1,0] [] [] .fin .fin) .fin) .fin) .fin) .fin) .fin)) (.br 8 [] [0,1,2,4,7] [] (.br 3 [2] [0,1,4,7] [] (.br 6 [5,4,3,2] [0,1,7] [] (.br 9 [8,7,6,5,4,3,2] [0,1] [10] (.br 11 [10,9,8,7,6,5,4,3,2] [0,1] [] (.br 12 [11,10,9,8,7,6,5,4,3,2,1,0] [] [13] (.br 14 [13,12,11,10,9,8,7,6,5,4,3,2,1,0] [] [] .fin .fin) .fin) .fin) .fin) .fin) .fin) .fin)) (.br 8 [] [0,1,2,4,7] [] (.br 3 [2] [0,1,4,7] [] (.br 5 [] [0,1,2,4,7] [] (.br 6 [5,4,3,2] [0,1,7] [] (.br 9 [8,7,6,5,4,3,2] [0,1] [10] (.br 11 [10,9,8,7,6,5,4,3,2] [0,1] [] (.br 12 [11,10,9,8,7,6,5,4,3,2,1,0] [] [13] (.br 14 [13,12,11,10,9,8,7,6,5,4,3,2,1,0] [] [] .fin .fin) .fin) .fin) .fin) .fin) .fin) (.br 5 [] [0,1,2,4,7] [] (.br 3 [2] [0,1,4,7] [] (.br 6 [5,4,3,2] [0,1,7] [] (.br 9 [8,7,6,5,4,3,2] [0,1] [10] (.br 11 [10,9,8,7,6,5,4,3,2] [0,1] [] (.br 12 [11,10,9,8,7,6,5,4,3,2,1,0] [] [13] (.br 14 [13,12,11,10,9,8,7,6,5,4,3,2,1,0] [] [] .fin .fin) .fin) .fin) .fin) .fin) .fin) .fin)) .fin)))) else bif id == 21 then ([0,1,2,4,6,9,11],(.br 3 [2] [0,1,4,6,9,11] [] (.br 5 [4,3,2] [0,1,6,9,11] [] (.br 7 [] [0,1,2,4,6,9,11] [] (.br 8 [7,6,5,4,3,2] [0,1,9,11] [] (.br 10 [9,8,7,6,5,4,3,2] [0,1,11] [] (.br 12 [11,10,9,8,7,6,5,4,3,2] [0,1] [13] (.br 14 [13,12,11,10,9,8,7,6,5,4,3,2] [0,1] [] (.br 15 [14,13,12,11,10,9,8,7,6,5,4,3,2,1,0] [] [16] (.br 17 [16,15,14,13,12,11,10,9,8,7,6,5,4,3,2,1,0] [] [] .fin .fin) .fin) .fin) .fin) .fin) .fin) .fin) (.br 7 [] [0,1,2,4,6,9,11] [] (.br 5 [4,3,2] [0,1,6,9,11] [] (.br 8 [7,6,5,4,3,2] [0,1,9,11] [] (.br 10 [9,8,7,6,5,4,3,2] [0,1,11] [] (.br 12 [11,10,9,8,7,6,5,4,3,2] [0,1] [13] (.br 14 [13,12,11,10,9,8,7,6,5,4,3,2] [0,1] [] (.br 15 [14,13,12,11,10,9,8,7,6,5,4,3,2,1,0] [] [16] (.br 17 [16,15,14,13,12,11,10,9,8,7,6,5,4,3,2,1,0] [] [] .fin .fin) .fin) .fin) .fin) .fin) .fin) .fin) .fin)) (.br 7 [] [0,1,2,4,6,9,11] [] (.br 3 [2] [0,1,4,6,9,11] [] (.br 5 [4,3,2] [0,1,6,9,11] [] (.br 8 [7,6,5,4,3,2] [0,1,9,11] [] (.br 10 [9,8,7,6,5,4,3,2] [0,1,11] [] (.br 12 [11,10,9,8,7,6,5,4,3,2] [0,1] [13] (.br 14 [13,12,11,10,9,8,7,6,5,4,3,2] [0,1] [] (.br 15 [14,13,12,11,10,9,8,7,6,5,4,3,2,1,0] [] [16] (.br 17 [16,15,14,13,12,11,10,9,8,7,6,5,4,3,2,1,0] [] [] .fin .fin) .fin) .fin) .fin) .fin) .fin) .fin) .fin) .fin))) else ([],.fin)
def F50:List UInt8×Int→Option ((Cls)×List UInt8×Int):=fun (o0,o1) =>
 zAA (F56 (o0,o1)) fun ((y,y1,y2,y3,y4,y5,x),x1,x2) =>
 cndO (decide ((y.length:Int)=0))
  (some (((y,y1,y2,y3,y4,y5,x),x1,x2)))
  (zAA (F51 ((y.length:Int),x1,x2)) fun (y6,y7,y8) =>
  zAA (F51 ((16:Int),y7,y8)) fun (y9,y10,y11) =>
  bindE (Y:=(Cls)×(Cls)×List UInt8×Int) (cndO (decide (y9=0))
    (seqU (seqU (grdO (decide (y6=y6)) (some ())) (some ())) (zAA (F105 ([(0:Int),(1:Int),(y.length:Int),IntKind.wrap .i64 ((y.length:Int)+1),(65536:Int),(-1:Int)],y10,y11)) fun (y12,y13,y14) =>
    seqU (seqU (grdO (decide (y6=y6)) (some ())) (some ())) (grdO (decide (0≤y6) && decide (y6<(y.length:Int))) (atO (y) y6.toNat fun x3=>some (Sum.inl (([],(0:Int),(0:Int),(0:Int),[],[],[]),(List.set y y6.toNat (x3.1,x3.2.1,y12,x3.2.2.2),y1,y2,y3,y4,y5,x),y13,y14))))))
    (cndO (decide (y9=1))
     (zAA (F51 ((8:Int),y10,y11)) fun (y12,y13,y14) =>
     seqU (seqU (grdO (decide (y6=y6)) (some ())) (some ())) (grdO (decide (0≤y6) && decide (y6<(y.length:Int))) (atO (y) y6.toNat fun x3=>some (Sum.inl (([],(0:Int),(0:Int),(0:Int),[],[],[]),(List.set y y6.toNat (y12,x3.2.1,x3.2.2.1,x3.2.2.2),y1,y2,y3,y4,y5,x),y13,y14)))))
     (cndO (decide (y9=2))
      (seqU (seqU (grdO (decide (y6=y6)) (some ())) (some ())) (zAA (F119 ([[],[(65:UInt8)],[(73:UInt8)],[(40:UInt8),41,86],[(49:UInt8)],[(76:UInt8),65,59]],y10,y11)) fun (y12,y13,y14) =>
      seqU (seqU (grdO (decide (y6=y6)) (some ())) (some ())) (grdO (decide (0≤y6) && decide (y6<(y.length:Int))) (atO (y) y6.toNat fun x3=>some (Sum.inl (([],(0:Int),(0:Int),(0:Int),[],[],[]),(List.set y y6.toNat (x3.1,y12,x3.2.2.1,x3.2.2.2),y1,y2,y3,y4,y5,x),y13,y14))))))
      (cndO (decide (y9=3))
       (zAA (F51 ((9:Int),y10,y11)) fun (y12,y13,y14) =>
       some (Sum.inl (([],(0:Int),(0:Int),(0:Int),[],[],[]),(y,y12,y2,y3,y4,y5,x),y13,y14)))
       (cndO (decide (y9=4))
        (zAA (F105 ([(0:Int),y2,(1:Int),(2:Int)],y10,y11)) fun (y12,y13,y14) =>
        some (Sum.inl (([],(0:Int),(0:Int),(0:Int),[],[],[]),(y,y1,y2,y12,y4,y5,x),y13,y14)))
        (cndO (decide (y9=5))
         (zAA (F105 ([y2,y3,(0:Int),(1:Int)],y10,y11)) fun (y12,y13,y14) =>
         grdO (decide (List.length y4+1≤9223372036854775807) && decide ((List.length y4+1)*8≤140737488355328)) (some (Sum.inl (([],(0:Int),(0:Int),(0:Int),[],[],[]),(y,y1,y2,y3,y4++[y12],y5,x),y13,y14))))
         (cndO (decide (y9=6))
          (zBP
           (zAA (F51 ((5:Int),y10,y11)) fun (y12,y13,y14) =>
           zBP
            (zBP
             (zAA (F105 ([(1:Int),(2:Int),(5:Int)],y13,y14)) fun (y15,y16,y17) =>
             zAA (F105 ([(1:Int),(6:Int),(8:Int)],y16,y17)) fun (y18,y19,y20) =>
             grdO (decide (List.length y5+1≤9223372036854775807) && decide ((List.length y5+1)*24≤140737488355328)) (some (Sum.inl (([],(0:Int),(0:Int),(0:Int),[],[],[]),(y,y1,y2,y3,y4,y5++[(y12,y15,y18)],x),y19,y20))))
             (zAA (F105 ([(1:Int),(2:Int),(5:Int)],y13,y14)) fun (y15,y16,y17) =>
             zAA (F105 ([(1:Int),(6:Int),(8:Int)],y16,y17)) fun (y18,y19,y20) =>
             grdO (decide (List.length y5+1≤9223372036854775807) && decide ((List.length y5+1)*24≤140737488355328)) (some (Sum.inl (([],(0:Int),(0:Int),(0:Int),[],[],[]),(y,y1,y2,y3,y4,y5++[(y12,y15,y18)],x),y19,y20)))))
            (zAA (F105 ([(1:Int),(2:Int),(5:Int)],y13,y14)) fun (y15,y16,y17) =>
            zAA (F105 ([(1:Int),(6:Int),(8:Int)],y16,y17)) fun (y18,y19,y20) =>
            grdO (decide (List.length y5+1≤9223372036854775807) && decide ((List.length y5+1)*24≤140737488355328)) (some (Sum.inl (([],(0:Int),(0:Int),(0:Int),[],[],[]),(y,y1,y2,y3,y4,y5++[(y12,y15,y18)],x),y19,y20)))))
           (zBP
            (zBP
             (zAA (F51 ((5:Int),y10,y11)) fun (y12,y13,y14) =>
             zBP
              (zAA (F105 ([(1:Int),(2:Int),(5:Int)],y13,y14)) fun (y15,y16,y17) =>
              zAA (F105 ([(1:Int),(6:Int),(8:Int)],y16,y17)) fun (y18,y19,y20) =>
              grdO (decide (List.length y5+1≤9223372036854775807) && decide ((List.length y5+1)*24≤140737488355328)) (some (Sum.inl (([],(0:Int),(0:Int),(0:Int),[],[],[]),(y,y1,y2,y3,y4,y5++[(y12,y15,y18)],x),y19,y20))))
              (zAA (F105 ([(1:Int),(2:Int),(5:Int)],y13,y14)) fun (y15,y16,y17) =>
              zAA (F105 ([(1:Int),(6:Int),(8:Int)],y16,y17)) fun (y18,y19,y20) =>
              grdO (decide (List.length y5+1≤9223372036854775807) && decide ((List.length y5+1)*24≤140737488355328)) (some (Sum.inl (([],(0:Int),(0:Int),(0:Int),[],[],[]),(y,y1,y2,y3,y4,y5++[(y12,y15,y18)],x),y19,y20)))))
             (zAA (F51 ((5:Int),y10,y11)) fun (y12,y13,y14) =>
             zAA (F105 ([(1:Int),(2:Int),(5:Int)],y13,y14)) fun (y15,y16,y17) =>
             zAA (F105 ([(1:Int),(6:Int),(8:Int)],y16,y17)) fun (y18,y19,y20) =>
             grdO (decide (List.length y5+1≤9223372036854775807) && decide ((List.length y5+1)*24≤140737488355328)) (some (Sum.inl (([],(0:Int),(0:Int),(0:Int),[],[],[]),(y,y1,y2,y3,y4,y5++[(y12,y15,y18)],x),y19,y20)))))
            (zBP
             (zAA (F51 ((5:Int),y10,y11)) fun (y12,y13,y14) =>
             zAA (F105 ([(1:Int),(2:Int),(5:Int)],y13,y14)) fun (y15,y16,y17) =>
             zAA (F105 ([(1:Int),(6:Int),(8:Int)],y16,y17)) fun (y18,y19,y20) =>
             grdO (decide (List.length y5+1≤9223372036854775807) && decide ((List.length y5+1)*24≤140737488355328)) (some (Sum.inl (([],(0:Int),(0:Int),(0:Int),[],[],[]),(y,y1,y2,y3,y4,y5++[(y12,y15,y18)],x),y19,y20))))
             (zAA (F51 ((5:Int),y10,y11)) fun (y12,y13,y14) =>
             zAA (F105 ([(1:Int),(2:Int),(5:Int)],y13,y14)) fun (y15,y16,y17) =>
             zAA (F105 ([(1:Int),(6:Int),(8:Int)],y16,y17)) fun (y18,y19,y20) =>
             grdO (decide (List.length y5+1≤9223372036854775807) && decide ((List.length y5+1)*24≤140737488355328)) (some (Sum.inl (([],(0:Int),(0:Int),(0:Int),[],[],[]),(y,y1,y2,y3,y4,y5++[(y12,y15,y18)],x),y19,y20)))))))
          (cndO (decide (y9=7))
           (zBP
            (zAA (F51 ((17:Int),y10,y11)) fun (y12,y13,y14) =>
            zBP
             (zAA (F51 ((20:Int),y13,y14)) fun (y15,y16,y17) =>
             zAA (F119 ([[],[(32:UInt8)],[(0:UInt8)]],y16,y17)) fun (y18,y19,y20) =>
             zAA (F51 ((10:Int),y19,y20)) fun (y21,y22,y23) =>
             zAA (F51 ((10:Int),y22,y23)) fun (y24,y25,y26) =>
             grdO (decide (List.length x+1≤9223372036854775807) && decide ((List.length x+1)*104≤140737488355328)) (some (Sum.inl (([],(0:Int),(0:Int),(0:Int),[],[],[]),(y,y1,y2,y3,y4,y5,x++[(y12,(1:Int),y15,y21,y24,y18,[],[])]),y25,y26))))
             (zAA (F51 ((20:Int),y13,y14)) fun (y15,y16,y17) =>
             zAA (F119 ([[],[(32:UInt8)],[(0:UInt8)]],y16,y17)) fun (y18,y19,y20) =>
             zAA (F51 ((10:Int),y19,y20)) fun (y21,y22,y23) =>
             zAA (F51 ((10:Int),y22,y23)) fun (y24,y25,y26) =>
             grdO (decide (List.length x+1≤9223372036854775807) && decide ((List.length x+1)*104≤140737488355328)) (some (Sum.inl (([],(0:Int),(0:Int),(0:Int),[],[],[]),(y,y1,y2,y3,y4,y5,x++[(y12,(1:Int),y15,y21,y24,y18,[],[])]),y25,y26)))))
            (zAA (F51 ((17:Int),y10,y11)) fun (y12,y13,y14) =>
            zAA (F51 ((20:Int),y13,y14)) fun (y15,y16,y17) =>
            zAA (F119 ([[],[(32:UInt8)],[(0:UInt8)]],y16,y17)) fun (y18,y19,y20) =>
            zAA (F51 ((10:Int),y19,y20)) fun (y21,y22,y23) =>
            zAA (F51 ((10:Int),y22,y23)) fun (y24,y25,y26) =>
            grdO (decide (List.length x+1≤9223372036854775807) && decide ((List.length x+1)*104≤140737488355328)) (some (Sum.inl (([],(0:Int),(0:Int),(0:Int),[],[],[]),(y,y1,y2,y3,y4,y5,x++[(y12,(1:Int),y15,y21,y24,y18,[],[])]),y25,y26)))))
           (some (Sum.inl (([],(0:Int),(0:Int),(0:Int),[],[],[]),(y,y1,y2,y3,y4,y5,x),y10,y11))))))))))) fun ((o01,o11,o2,o3,o4,o5,o6),(o02,o12,o21,o31,o41,o51,o61),o03,o13) =>
  zAA (F120 ((o12,o21,o31),(o03,o13),o02,o41,o51,o61)) fun ((y12,y13,y14),(y15,y16),y17,x3,x4,x5) =>
  some (((y17,y12,y13,y14,x3,x4,x5),y15,y16)))
theorem r50 x:funT T tb120 tp50 120 tv50 (zAD Tryz.f50) ti50 to50 x=F50 x:=by kernel_rfl
def te50:=mkE 50 false [(0,[])] ti50 to50 F50 [.cell 2 34] 120 [100000]
def tb50:=insT 50 te50 tb120
theorem ok50:TbOk Tryz.prog tb50:=okI ok120 tp50 tv50 Tryz.func50 rfl Tryz.results50 Tryz.ntmps50 (by kernel_rfl) (by kernel_rfl) Tryz.call50 r50
end Go.Proofs.YtdpapeledldifaaGreat
end
noncomputable section
namespace Go.Proofs.YtdpapeledldifaaGreat
open Go Go.AM Go.TM
set_option maxRecDepth 100000
set_option maxHeartbeats 4000000
abbrev ti57:SPat:=⟨[(0,.ptr 100000 0),(1,.i .i64)],[.box 100000 (pl [.s,.b])]⟩
abbrev to57:SPat:=⟨[(4,.s)],[.box 100000 (pl [.s,.b])]⟩
abbrev zNl:SPat:=⟨[(0,.ptr 100000 0),(1,.i .i64),(18,.b)],[.box 100000 (pl [.s,.b])]⟩
def tv57:Nat→Option SPat:=fun k=>bif k == 1000002 then some zNl else none
def F57:Int×List UInt8×Bool→Option (List UInt8×List UInt8×Bool):=fun (n,o0,o1) =>
 bindE (Y:=Int×Bool×List UInt8×Bool) (cndO (o1)
   (some (Sum.inl (n,true,o0,o1)))
   (some (Sum.inl (n,decide ((o0.length:Int)<n),o0,o1)))) fun (n1,v18,o01,o11) =>
 cndO (v18)
  (some (([],o01,true)))
  (grdO (decide (0≤n1) && decide (n1≤(o01.length:Int))) (grdO (decide (0≤n1) && decide (n1≤(o01.length:Int)) && decide ((o01.length:Int)≤(o01.length:Int))) (some ((List.drop (0:Nat) (List.take n1.toNat o01),List.drop n1.toNat (List.take (Int.toNat (o01.length:Int)) o01),o11)))))
theorem r57 x:funT T tb50 noPl 38 tv57 (zAD Tryz.f57) ti57 to57 x=F57 x:=by kernel_rfl
def te57:=mkE 57 false [(0,[])] ti57 to57 F57 [.tmp 4] 38 [100000]
def tb57:=insT 57 te57 tb50
theorem ok57:TbOk Tryz.prog tb57:=okI ok50 noPl tv57 Tryz.func57 rfl Tryz.results57 Tryz.ntmps57 (by kernel_rfl) (by kernel_rfl) Tryz.call57 r57
abbrev ti59:SPat:=⟨[(0,.ptr 100000 0)],[.box 100000 (pl [.s,.b])]⟩
abbrev to59:SPat:=⟨[(2,.i .i64)],[.box 100000 (pl [.s,.b])]⟩
def F59:List UInt8×Bool→Option (Int×List UInt8×Bool):=fun (o0,o1) =>
 zAA (F57 ((1:Int),o0,o1)) fun (y,y1,y2) =>
 cndO (y2)
  (some (((0:Int),y1,y2)))
  (atO (y) ((0:Nat)) fun x=>some ((IntKind.wrap .i64 (x.toNat:Int),y1,y2)))
theorem r59 x:funT T tb57 noPl 13 noIv (zAD Tryz.f59) ti59 to59 x=F59 x:=by kernel_rfl
def te59:=mkE 59 false [(0,[])] ti59 to59 F59 [.tmp 2] 13 [100000]
def tb59:=insT 59 te59 tb57
theorem ok59:TbOk Tryz.prog tb59:=okI ok57 noPl noIv Tryz.func59 rfl Tryz.results59 Tryz.ntmps59 (by kernel_rfl) (by kernel_rfl) Tryz.call59 r59
abbrev ti58:SPat:=⟨[(0,.ptr 100000 0),(1,.i .i64),(2,.i .i64)],[.box 100000 (pl [.s,.b])]⟩
abbrev to58:SPat:=⟨[(6,.i .i64)],[.box 100000 (pl [.s,.b])]⟩
def F58:Int×Int×List UInt8×Bool→Option (Int×List UInt8×Bool):=fun (n,most,o0,o1) =>
 cndO (decide (most<n))
  (some (((0:Int),o0,true)))
  (some ((n,o0,o1)))
theorem r58 x:funT T tb59 noPl 14 noIv (zAD Tryz.f58) ti58 to58 x=F58 x:=by kernel_rfl
def te58:=mkE 58 false [(0,[])] ti58 to58 F58 [.tmp 6] 14 [100000]
def tb58:=insT 58 te58 tb59
theorem ok58:TbOk Tryz.prog tb58:=okI ok59 noPl noIv Tryz.func58 rfl Tryz.results58 Tryz.ntmps58 (by kernel_rfl) (by kernel_rfl) Tryz.call58 r58
abbrev ti61:SPat:=⟨[(0,.ptr 100000 0)],[.box 100000 (pl [.s,.b])]⟩
abbrev to61:SPat:=⟨[(2,.i .i64)],[.box 100000 (pl [.s,.b])]⟩
def F61:List UInt8×Bool→Option (Int×List UInt8×Bool):=fun (o0,o1) =>
 zAA (F59 (o0,o1)) fun (y,y1,y2) =>
 zAA (F59 (y1,y2)) fun (y3,y4,y5) =>
 some ((IntKind.wrap .i64 (IntKind.wrap .i64 ((256:Int)*y)+y3),y4,y5))
theorem r61 x:funT T tb58 noPl 11 noIv (zAD Tryz.f61) ti61 to61 x=F61 x:=by kernel_rfl
def te61:=mkE 61 false [(0,[])] ti61 to61 F61 [.tmp 2] 11 [100000]
def tb61:=insT 61 te61 tb58
theorem ok61:TbOk Tryz.prog tb61:=okI ok58 noPl noIv Tryz.func61 rfl Tryz.results61 Tryz.ntmps61 (by kernel_rfl) (by kernel_rfl) Tryz.call61 r61
end Go.Proofs.YtdpapeledldifaaGreat
end
noncomputable section
namespace Go.Proofs.YtdpapeledldifaaGreat
open Go Go.AM Go.TM
set_option maxRecDepth 100000
set_option maxHeartbeats 4000000
abbrev ti60:SPat:=⟨[(0,.ptr 100000 0)],[.box 100000 (pl [.s,.b])]⟩
abbrev to60:SPat:=⟨[(2,.ptr 2 0)],[.box 2 (pl [.i .i64,.s,.i .i64,.i .i64]),.box 100000 (pl [.s,.b])]⟩
abbrev zNk:SPat:=⟨[(0,.ptr 100000 0),(2,.ptr 2 0),(3,.ptr 3 0),(24,.b)],[.box 2 (pl [.i .i64,.s,.i .i64,.i .i64]),.box 3 (pl [.i .i64,.s,.i .i64,.i .i64]),.box 100000 (pl [.s,.b])]⟩
abbrev zNj:SPat:=⟨[(2,.ptr 2 0),(3,.ptr 3 0)],[.box 2 (pl [.i .i64,.s,.i .i64,.i .i64]),.box 3 (pl [.i .i64,.s,.i .i64,.i .i64]),.box 100000 (pl [.s,.b])]⟩
def tv60:Nat→Option SPat:=fun k=>bif k == 1000012 then some zNk else bif k == 2000000 then some zNj else none
def F60:List UInt8×Bool→Option ((Cst)×List UInt8×Bool):=fun (o0,o1) =>
 zAA (F59 (o0,o1)) fun (y,y1,y2) =>
 bindE (Y:=(Cst)×(Cst)×List UInt8×Bool) (cndO (decide (y=1))
   (zAA (F59 (y1,y2)) fun (y3,y4,y5) =>
   zAA (F57 (y3,y4,y5)) fun (y6,y7,y8) =>
   some (Sum.inl (((0:Int),[],(0:Int),(0:Int)),(y,y6,(0:Int),(0:Int)),y7,y8)))
   (cndO (decide (y=2))
    (zAA (F61 (y1,y2)) fun (y3,y4,y5) =>
    some (Sum.inl (((0:Int),[],(0:Int),(0:Int)),(y,[],y3,(0:Int)),y4,y5)))
    (bindE (Y:=Bool×(Cst)×(Cst)×List UInt8×Bool) (cndO (decide (y=3))
      (some (Sum.inl (true,((0:Int),[],(0:Int),(0:Int)),(y,[],(0:Int),(0:Int)),y1,y2)))
      (cndO (decide (y=4))
       (some (Sum.inl (true,((0:Int),[],(0:Int),(0:Int)),(y,[],(0:Int),(0:Int)),y1,y2)))
       (cndO (decide (y=5))
        (some (Sum.inl (true,((0:Int),[],(0:Int),(0:Int)),(y,[],(0:Int),(0:Int)),y1,y2)))
        (some (Sum.inl (decide (y=6),((0:Int),[],(0:Int),(0:Int)),(y,[],(0:Int),(0:Int)),y1,y2)))))) fun (v24,(o01,o11,o2,o3),(o02,o12,o21,o31),o03,o13) =>
    cndO (v24)
     (zAA (F61 (o03,o13)) fun (y3,y4,y5) =>
     zAA (F61 (y4,y5)) fun (y6,y7,y8) =>
     some (Sum.inl ((o01,o11,o2,o3),(o02,o12,y3,y6),y7,y8)))
     (some (Sum.inl ((o01,o11,o2,o3),(o02,o12,o21,o31),o03,true)))))) fun ((o01,o11,o2,o3),(o02,o12,o21,o31),o03,o13) =>
 some (((o02,o12,o21,o31),o03,o13))
theorem r60 x:funT T tb61 noPl 36 tv60 (zAD Tryz.f60) ti60 to60 x=F60 x:=by kernel_rfl
def te60:=mkE 60 false [(0,[])] ti60 to60 F60 [.cell 2 27] 36 [100000]
def tb60:=insT 60 te60 tb61
theorem ok60:TbOk Tryz.prog tb60:=okI ok61 noPl tv60 Tryz.func60 rfl Tryz.results60 Tryz.ntmps60 (by kernel_rfl) (by kernel_rfl) Tryz.call60 r60
abbrev ti86:SPat:=⟨[(0,.i .i64)],[]⟩
abbrev to86:SPat:=⟨[(2,.b)],[]⟩
def F86:Int→Option (Bool):=fun flags =>
 some (!decide (andI IntKind.i64 flags (8:Int)=0))
theorem r86 x:funT T tb60 noPl 6 noIv (zAD Tryz.f86) ti86 to86 x=F86 x:=by kernel_rfl
def te86:=mkE 86 true [] ti86 to86 F86 [.tmp 2] 6 []
def tb86:=insT 86 te86 tb60
theorem ok86:TbOk Tryz.prog tb86:=okI ok60 noPl noIv Tryz.func86 rfl Tryz.results86 Tryz.ntmps86 (by kernel_rfl) (by kernel_rfl) Tryz.call86 r86
abbrev ti141:SPat:=⟨[(0,.ptr 100000 0)],[.box 100000 (pl [.s,.b])]⟩
abbrev to141:SPat:=⟨[(2,.own zBB true)],[.box 100000 (pl [.s,.b])]⟩
abbrev ts141_3:SPat:=⟨[(0,.ptr 100000 0),(3,.own zBB true),(4,.i .i64)],[.box 100000 (pl [.s,.b])]⟩
abbrev zLy:SPat:=⟨[(0,.ptr 100000 0),(3,.own zBB true),(4,.i .i64)],[.box 100000 (pl [.s,.b])]⟩
abbrev zLx:SPat:=⟨[(3,.own zBB true)],[.box 100000 (pl [.s,.b])]⟩
abbrev zLw:SPat:=⟨[(0,.ptr 100000 0),(3,.own zBB true),(4,.i .i64)],[.box 100000 (pl [.s,.b])]⟩
def tv141:Nat→Option SPat:=fun k=>bif k == 3 then some ts141_3 else bif k == 1000005 then some zLy else bif k == 2000000 then some zLx else bif k == 2000001 then some zLw else none
def F141:List UInt8×Bool→Option (List (Int×Int)×List UInt8×Bool):=fun (o0,o1) =>
 zAA (F59 (o0,o1)) fun (y,y1,y2) =>
 zAA (F58 (y,(8:Int),y1,y2)) fun (y3,y4,y5) =>
 bindE (Y:=List (Int×Int)×List UInt8×Bool) (zAF (fun (out,n,o01,o11) =>
   bindE (Y:=List (Int×Int)×Int×List UInt8×Bool) (cndO (decide (0<n))
     (cndO (!o11)
      (some (Sum.inl (out,n,o01,o11)))
      (some (Sum.inr (Sum.inr (Sum.inl (out,o01,o11))))))
     (some (Sum.inr (Sum.inr (Sum.inl (out,o01,o11)))))) fun (out1,n1,o02,o12) =>
   bindE (Y:=List (Int×Int)×Int×List UInt8×Bool) (zAA (F59 (o02,o12)) fun (y6,y7,y8) =>
    zAA (F58 (y6,(3:Int),y7,y8)) fun (y9,y10,y11) =>
    cndO (decide (y9=3))
     (zAA (F61 (y10,y11)) fun (y12,y13,y14) =>
     grdO (decide (List.length out1+1≤9223372036854775807) && decide ((List.length out1+1)*16≤140737488355328)) (some (Sum.inl (out1++[(y9,y12)],n1,y13,y14))))
     (grdO (decide (List.length out1+1≤9223372036854775807) && decide ((List.length out1+1)*16≤140737488355328)) (some (Sum.inl (out1++[(y9,(0:Int))],n1,y10,y11))))) fun (out2,n2,o03,o13) =>
   some (Sum.inl (out2,IntKind.wrap .i64 (n2 - 1),o03,o13))) (([],y3,y4,y5))) fun (out,o01,o11) =>
 some ((out,o01,o11))
theorem r141 x:funT T tb86 noPl 37 tv141 (zAD Tryz.f141) ti141 to141 x=F141 x:=by kernel_rfl
def te141:=mkE 141 false [(0,[])] ti141 to141 F141 [.tmp 2] 37 [100000]
def tb141:=insT 141 te141 tb86
theorem ok141:TbOk Tryz.prog tb141:=okI ok86 noPl tv141 Tryz.func141 rfl Tryz.results141 Tryz.ntmps141 (by kernel_rfl) (by kernel_rfl) Tryz.call141 r141
abbrev ti62:SPat:=⟨[(0,.ptr 100000 0)],[.box 100000 (pl [.s,.b])]⟩
abbrev to62:SPat:=⟨[(2,.ptr 2 0)],[.box 2 (pl plN),.box 100000 (pl [.s,.b])]⟩
abbrev ts62_10:SPat:=⟨[(0,.ptr 100000 0),(2,.ptr 2 0),(3,.ptr 3 0),(4,.i .i64)],[.box 2 (pl plN),.box 3 (pl plN),.box 100000 (pl [.s,.b])]⟩
abbrev ts62_18:SPat:=⟨[(0,.ptr 100000 0),(2,.ptr 2 0),(3,.ptr 3 0),(6,.i .i64)],[.box 2 (pl plN),.box 3 (pl plN),.box 100000 (pl [.s,.b])]⟩
abbrev zNi:SPat:=⟨[(0,.ptr 100000 0),(2,.ptr 2 0),(3,.ptr 3 0),(4,.i .i64)],[.box 2 (pl plN),.box 3 (pl plN),.box 100000 (pl [.s,.b])]⟩
abbrev zNh:SPat:=⟨[(0,.ptr 100000 0),(2,.ptr 2 0),(3,.ptr 3 0),(6,.i .i64)],[.box 2 (pl plN),.box 3 (pl plN),.box 100000 (pl [.s,.b])]⟩
abbrev zNg:SPat:=⟨[(0,.ptr 100000 0),(2,.ptr 2 0),(3,.ptr 3 0)],[.box 2 (pl plN),.box 3 (pl plN),.box 100000 (pl [.s,.b])]⟩
abbrev zNf:SPat:=⟨[(2,.ptr 2 0),(3,.ptr 3 0)],[.box 2 (pl plN),.box 3 (pl plN),.box 100000 (pl [.s,.b])]⟩
def tv62:Nat→Option SPat:=fun k=>bif k == 10 then some ts62_10 else bif k == 18 then some ts62_18 else bif k == 1000012 then some zNi else bif k == 1000020 then some zNh else bif k == 2000000 then some zNg else bif k == 2000002 then some zNf else none
def F62:List UInt8×Bool→Option ((Mth)×List UInt8×Bool):=fun (o0,o1) =>
 zAA (F59 (o0,o1)) fun (y,y1,y2) =>
 zAA (F61 (y1,y2)) fun (y3,y4,y5) =>
 zAA (F61 (y4,y5)) fun (y6,y7,y8) =>
 zAA (F86 y) fun y9 =>
 cndO (y9)
  (some (((y,y3,y6,(0:Int),(0:Int),[],[],[]),y7,y8)))
  (zAA (F59 (y7,y8)) fun (y10,y11,y12) =>
  zAA (F59 (y11,y12)) fun (y13,y14,y15) =>
  zAA (F61 (y14,y15)) fun (y16,y17,y18) =>
  zAA (F58 (y16,(120:Int),y17,y18)) fun (y19,y20,y21) =>
  zAA (F57 (y19,y20,y21)) fun (y22,y23,y24) =>
  zAA (F59 (y23,y24)) fun (y25,y26,y27) =>
  zAA (F58 (y25,(3:Int),y26,y27)) fun (y28,y29,y30) =>
  bindE (Y:=(Mth)×(Mth)×List UInt8×Bool) (zAF (fun (v4,(o01,o11,o2,o3,o4,o5,o6,o7),(o02,o12,o21,o31,o41,o51,o61,o71),o03,o13) =>
    bindE (Y:=Int×(Mth)×(Mth)×List UInt8×Bool) (cndO (decide (0<v4))
      (cndO (!o13)
       (some (Sum.inl (v4,(o01,o11,o2,o3,o4,o5,o6,o7),(o02,o12,o21,o31,o41,o51,o61,o71),o03,o13)))
       (some (Sum.inr (Sum.inr (Sum.inl ((o01,o11,o2,o3,o4,o5,o6,o7),(o02,o12,o21,o31,o41,o51,o61,o71),o03,o13))))))
      (some (Sum.inr (Sum.inr (Sum.inl ((o01,o11,o2,o3,o4,o5,o6,o7),(o02,o12,o21,o31,o41,o51,o61,o71),o03,o13)))))) fun (v41,(o04,o14,o22,o32,o42,o52,o62,o72),(o05,o15,o23,o33,o43,o53,o63,o73),o06,o16) =>
    zAA (F61 (o06,o16)) fun (y31,y32,y33) =>
    zAA (F61 (y32,y33)) fun (y34,y35,y36) =>
    zAA (F61 (y35,y36)) fun (y37,y38,y39) =>
    zAA (F61 (y38,y39)) fun (y40,y41,y42) =>
    grdO (decide (List.length o63+1≤9223372036854775807) && decide ((List.length o63+1)*32≤140737488355328)) (some (Sum.inl (IntKind.wrap .i64 (v41 - 1),(o04,o14,o22,o32,o42,o52,o62,o72),(o05,o15,o23,o33,o43,o53,o63++[(y31,y34,y37,y40)],o73),y41,y42)))) ((y28,((0:Int),(0:Int),(0:Int),(0:Int),(0:Int),[],[],[]),(y,y3,y6,y10,y13,y22,[],[]),y29,y30))) fun ((o01,o11,o2,o3,o4,o5,o6,o7),(o02,o12,o21,o31,o41,o51,o61,o71),o03,o13) =>
  zAA (F59 (o03,o13)) fun (y31,y32,y33) =>
  zAA (F58 (y31,(8:Int),y32,y33)) fun (y34,y35,y36) =>
  bindE (Y:=(Mth)×(Mth)×List UInt8×Bool) (zAF (fun (v6,(o04,o14,o22,o32,o42,o52,o62,o72),(o05,o15,o23,o33,o43,o53,o63,o73),o06,o16) =>
    bindE (Y:=Int×(Mth)×(Mth)×List UInt8×Bool) (cndO (decide (0<v6))
      (cndO (!o16)
       (some (Sum.inl (v6,(o04,o14,o22,o32,o42,o52,o62,o72),(o05,o15,o23,o33,o43,o53,o63,o73),o06,o16)))
       (some (Sum.inr (Sum.inr (Sum.inl ((o04,o14,o22,o32,o42,o52,o62,o72),(o05,o15,o23,o33,o43,o53,o63,o73),o06,o16))))))
      (some (Sum.inr (Sum.inr (Sum.inl ((o04,o14,o22,o32,o42,o52,o62,o72),(o05,o15,o23,o33,o43,o53,o63,o73),o06,o16)))))) fun (v61,(o07,o17,o24,o34,o44,o54,o64,o74),(o08,o18,o25,o35,o45,o55,o65,o75),o09,o19) =>
    zAA (F61 (o09,o19)) fun (y37,y38,y39) =>
    zAA (F141 (y38,y39)) fun (y40,y41,y42) =>
    zAA (F141 (y41,y42)) fun (y43,y44,y45) =>
    grdO (decide (List.length o75+1≤9223372036854775807) && decide ((List.length o75+1)*56≤140737488355328)) (some (Sum.inl (IntKind.wrap .i64 (v61 - 1),(o07,o17,o24,o34,o44,o54,o64,o74),(o08,o18,o25,o35,o45,o55,o65,o75++[(y37,y40,y43)]),y44,y45)))) ((y34,(o01,o11,o2,o3,o4,o5,o6,o7),(o02,o12,o21,o31,o41,o51,o61,o71),y35,y36))) fun ((o04,o14,o22,o32,o42,o52,o62,o72),(o05,o15,o23,o33,o43,o53,o63,o73),o06,o16) =>
  some (((o05,o15,o23,o33,o43,o53,o63,o73),o06,o16)))
theorem r62 x:funT T tb141 noPl 98 tv62 (zAD Tryz.f62) ti62 to62 x=F62 x:=by kernel_rfl
def te62:=mkE 62 false [(0,[])] ti62 to62 F62 [.cell 2 53] 98 [100000]
def tb62:=insT 62 te62 tb141
theorem ok62:TbOk Tryz.prog tb62:=okI ok141 noPl tv62 Tryz.func62 rfl Tryz.results62 Tryz.ntmps62 (by kernel_rfl) (by kernel_rfl) Tryz.call62 r62
abbrev ti17:SPat:=⟨[(0,.s)],[]⟩
abbrev to17:SPat:=⟨[(2,.ptr 2 0),(3,.b)],[.box 2 (pl plD)]⟩
abbrev ts17_8:SPat:=⟨[(2,.ptr 2 0),(4,.ptr 17 0),(5,.ptr 5 0),(6,.i .i64)],[.box 2 (pl plD),.box 5 (pl plD),.box 17 (pl [.s,.b])]⟩
abbrev ts17_15:SPat:=⟨[(2,.ptr 2 0),(4,.ptr 17 0),(5,.ptr 5 0),(7,.i .i64)],[.box 2 (pl plD),.box 5 (pl plD),.box 17 (pl [.s,.b])]⟩
abbrev ts17_19:SPat:=⟨[(2,.ptr 2 0),(4,.ptr 17 0),(5,.ptr 5 0),(8,.i .i64)],[.box 2 (pl plD),.box 5 (pl plD),.box 17 (pl [.s,.b])]⟩
abbrev ts17_26:SPat:=⟨[(2,.ptr 2 0),(4,.ptr 17 0),(5,.ptr 5 0),(10,.i .i64)],[.box 2 (pl plD),.box 5 (pl plD),.box 17 (pl [.s,.b])]⟩
abbrev zOH:SPat:=⟨[(2,.ptr 2 0),(4,.ptr 17 0),(5,.ptr 5 0),(6,.i .i64)],[.box 2 (pl plD),.box 5 (pl plD),.box 17 (pl [.s,.b])]⟩
abbrev zOG:SPat:=⟨[(2,.ptr 2 0),(4,.ptr 17 0),(5,.ptr 5 0),(7,.i .i64)],[.box 2 (pl plD),.box 5 (pl plD),.box 17 (pl [.s,.b])]⟩
abbrev zOF:SPat:=⟨[(2,.ptr 2 0),(4,.ptr 17 0),(5,.ptr 5 0),(8,.i .i64)],[.box 2 (pl plD),.box 5 (pl plD),.box 17 (pl [.s,.b])]⟩
abbrev zOE:SPat:=⟨[(2,.ptr 2 0),(4,.ptr 17 0),(5,.ptr 5 0),(10,.i .i64)],[.box 2 (pl plD),.box 5 (pl plD),.box 17 (pl [.s,.b])]⟩
abbrev zOD:SPat:=⟨[(2,.ptr 2 0),(4,.ptr 17 0),(5,.ptr 5 0)],[.box 2 (pl plD),.box 5 (pl plD),.box 17 (pl [.s,.b])]⟩
abbrev zOC:SPat:=⟨[(2,.ptr 2 0),(4,.ptr 17 0),(5,.ptr 5 0)],[.box 2 (pl plD),.box 5 (pl plD),.box 17 (pl [.s,.b])]⟩
abbrev zOB:SPat:=⟨[(2,.ptr 2 0),(4,.ptr 17 0),(5,.ptr 5 0)],[.box 2 (pl plD),.box 5 (pl plD),.box 17 (pl [.s,.b])]⟩
abbrev zOA:SPat:=⟨[(2,.ptr 2 0),(4,.ptr 17 0),(5,.ptr 5 0)],[.box 2 (pl plD),.box 5 (pl plD),.box 17 (pl [.s,.b])]⟩
def tv17:Nat→Option SPat:=fun k=>bif k == 8 then some ts17_8 else bif k == 15 then some ts17_15 else bif k == 19 then some ts17_19 else bif k == 26 then some ts17_26 else bif k == 1000010 then some zOH else bif k == 1000017 then some zOG else bif k == 1000021 then some zOF else bif k == 1000028 then some zOE else bif k == 2000000 then some zOD else bif k == 2000002 then some zOC else bif k == 2000004 then some zOB else bif k == 2000006 then some zOA else none
def tp17:Nat→List Nat×Plan:=fun id=>bif id == 10 then ([0,1,2],(.br 3 [2] [0,1] [] (.br 4 [3,2] [0,1] [] (.br 5 [4,3,2,1,0] [] [6] (.br 7 [6,5,4,3,2,1,0] [] [] .fin .fin) .fin) .fin) .fin)) else bif id == 17 then ([0,1,2],(.br 3 [2] [0,1] [] (.br 4 [3,2] [0,1] [] (.br 5 [4,3,2,1,0] [] [6] (.br 7 [6,5,4,3,2,1,0] [] [] .fin .fin) .fin) .fin) .fin)) else bif id == 28 then ([0,1,2],(.br 3 [2] [0,1] [] (.br 4 [3,2] [0,1] [] (.br 5 [4,3,2,1,0] [] [6] (.br 7 [6,5,4,3,2,1,0] [] [] .fin .fin) .fin) .fin) .fin)) else ([],.fin)
def F17:List UInt8→Option (Bool×Cls):=fun app =>
 cndO (decide (900<(app.length:Int)))
  (some ((false,[],(0:Int),(0:Int),(0:Int),[],[],[])))
  (zAA (F57 ((4:Int),app,false)) fun (y,y1,y2) =>
  cndO (!decide (y=[(83:UInt8),84,79,87]))
   (some ((false,[],(0:Int),(0:Int),(0:Int),[],[],[])))
   (zAA (F59 (y1,y2)) fun (y3,y4,y5) =>
   zAA (F58 (y3,(60:Int),y4,y5)) fun (y6,y7,y8) =>
   bindE (Y:=(Cls)×(Cls)×List UInt8×Bool) (zAF (fun (v6,(o0,o1,o2,o3,o4,o5,o6),(o01,o11,o21,o31,o41,o51,o61),o02,o12) =>
     bindE (Y:=Int×(Cls)×(Cls)×List UInt8×Bool) (cndO (decide (0<v6))
       (cndO (!o12)
        (some (Sum.inl (v6,(o0,o1,o2,o3,o4,o5,o6),(o01,o11,o21,o31,o41,o51,o61),o02,o12)))
        (some (Sum.inr (Sum.inr (Sum.inl ((o0,o1,o2,o3,o4,o5,o6),(o01,o11,o21,o31,o41,o51,o61),o02,o12))))))
       (some (Sum.inr (Sum.inr (Sum.inl ((o0,o1,o2,o3,o4,o5,o6),(o01,o11,o21,o31,o41,o51,o61),o02,o12)))))) fun (v61,(o03,o13,o22,o32,o42,o52,o62),(o04,o14,o23,o33,o43,o53,o63),o05,o15) =>
     zAA (F60 (o05,o15)) fun ((y9,y10,y11,y12),y13,y14) =>
     grdO (decide (List.length o04+1≤9223372036854775807) && decide ((List.length o04+1)*40≤140737488355328)) (some (Sum.inl (IntKind.wrap .i64 (v61 - 1),(o03,o13,o22,o32,o42,o52,o62),(o04++[(y9,y10,y11,y12)],o14,o23,o33,o43,o53,o63),y13,y14)))) ((y6,([],(0:Int),(0:Int),(0:Int),[],[],[]),([],(0:Int),(0:Int),(0:Int),[],[],[]),y7,y8))) fun ((o0,o1,o2,o3,o4,o5,o6),(o01,o11,o21,o31,o41,o51,o61),o02,o12) =>
   zAA (F59 (o02,o12)) fun (y9,y10,y11) =>
   zAA (F61 (y10,y11)) fun (y12,y13,y14) =>
   zAA (F61 (y13,y14)) fun (y15,y16,y17) =>
   zAA (F59 (y16,y17)) fun (y18,y19,y20) =>
   zAA (F58 (y18,(3:Int),y19,y20)) fun (y21,y22,y23) =>
   bindE (Y:=(Cls)×(Cls)×List UInt8×Bool) (zAF (fun (v7,(o03,o13,o22,o32,o42,o52,o62),(o04,o14,o23,o33,o43,o53,o63),o05,o15) =>
     bindE (Y:=Int×(Cls)×(Cls)×List UInt8×Bool) (cndO (decide (0<v7))
       (cndO (!o15)
        (some (Sum.inl (v7,(o03,o13,o22,o32,o42,o52,o62),(o04,o14,o23,o33,o43,o53,o63),o05,o15)))
        (some (Sum.inr (Sum.inr (Sum.inl ((o03,o13,o22,o32,o42,o52,o62),(o04,o14,o23,o33,o43,o53,o63),o05,o15))))))
       (some (Sum.inr (Sum.inr (Sum.inl ((o03,o13,o22,o32,o42,o52,o62),(o04,o14,o23,o33,o43,o53,o63),o05,o15)))))) fun (v71,(o06,o16,o24,o34,o44,o54,o64),(o07,o17,o25,o35,o45,o55,o65),o08,o18) =>
     zAA (F61 (o08,o18)) fun (y24,y25,y26) =>
     grdO (decide (List.length o45+1≤9223372036854775807) && decide ((List.length o45+1)*8≤140737488355328)) (some (Sum.inl (IntKind.wrap .i64 (v71 - 1),(o06,o16,o24,o34,o44,o54,o64),(o07,o17,o25,o35,o45++[y24],o55,o65),y25,y26)))) ((y21,(o0,o1,o2,o3,o4,o5,o6),(o01,y9,y12,y15,o41,o51,o61),y22,y23))) fun ((o03,o13,o22,o32,o42,o52,o62),(o04,o14,o23,o33,o43,o53,o63),o05,o15) =>
   zAA (F59 (o05,o15)) fun (y24,y25,y26) =>
   zAA (F58 (y24,(5:Int),y25,y26)) fun (y27,y28,y29) =>
   bindE (Y:=(Cls)×(Cls)×List UInt8×Bool) (zAF (fun (v8,(o06,o16,o24,o34,o44,o54,o64),(o07,o17,o25,o35,o45,o55,o65),o08,o18) =>
     bindE (Y:=Int×(Cls)×(Cls)×List UInt8×Bool) (cndO (decide (0<v8))
       (cndO (!o18)
        (some (Sum.inl (v8,(o06,o16,o24,o34,o44,o54,o64),(o07,o17,o25,o35,o45,o55,o65),o08,o18)))
        (some (Sum.inr (Sum.inr (Sum.inl ((o06,o16,o24,o34,o44,o54,o64),(o07,o17,o25,o35,o45,o55,o65),o08,o18))))))
       (some (Sum.inr (Sum.inr (Sum.inl ((o06,o16,o24,o34,o44,o54,o64),(o07,o17,o25,o35,o45,o55,o65),o08,o18)))))) fun (v81,(o09,o19,o26,o36,o46,o56,o66),(o010,o110,o27,o37,o47,o57,o67),o011,o111) =>
     zAA (F59 (o011,o111)) fun (y30,y31,y32) =>
     zAA (F61 (y31,y32)) fun (y33,y34,y35) =>
     zAA (F61 (y34,y35)) fun (y36,y37,y38) =>
     grdO (decide (List.length o57+1≤9223372036854775807) && decide ((List.length o57+1)*24≤140737488355328)) (some (Sum.inl (IntKind.wrap .i64 (v81 - 1),(o09,o19,o26,o36,o46,o56,o66),(o010,o110,o27,o37,o47,o57++[(y30,y33,y36)],o67),y37,y38)))) ((y27,(o03,o13,o22,o32,o42,o52,o62),(o04,o14,o23,o33,o43,o53,o63),y28,y29))) fun ((o06,o16,o24,o34,o44,o54,o64),(o07,o17,o25,o35,o45,o55,o65),o08,o18) =>
   zAA (F59 (o08,o18)) fun (y30,y31,y32) =>
   zAA (F58 (y30,(6:Int),y31,y32)) fun (y33,y34,y35) =>
   bindE (Y:=(Cls)×(Cls)×List UInt8×Bool) (zAF (fun (v10,(o09,o19,o26,o36,o46,o56,o66),(o010,o110,o27,o37,o47,o57,o67),o011,o111) =>
     bindE (Y:=Int×(Cls)×(Cls)×List UInt8×Bool) (cndO (decide (0<v10))
       (cndO (!o111)
        (some (Sum.inl (v10,(o09,o19,o26,o36,o46,o56,o66),(o010,o110,o27,o37,o47,o57,o67),o011,o111)))
        (some (Sum.inr (Sum.inr (Sum.inl ((o09,o19,o26,o36,o46,o56,o66),(o010,o110,o27,o37,o47,o57,o67),o011,o111))))))
       (some (Sum.inr (Sum.inr (Sum.inl ((o09,o19,o26,o36,o46,o56,o66),(o010,o110,o27,o37,o47,o57,o67),o011,o111)))))) fun (v101,(o012,o112,o28,o38,o48,o58,o68),(o013,o113,o29,o39,o49,o59,o69),o014,o114) =>
     zAA (F62 (o014,o114)) fun ((y36,y37,y38,y39,y40,y41,x,x1),x2,x3) =>
     grdO (decide (List.length o69+1≤9223372036854775807) && decide ((List.length o69+1)*104≤140737488355328)) (some (Sum.inl (IntKind.wrap .i64 (v101 - 1),(o012,o112,o28,o38,o48,o58,o68),(o013,o113,o29,o39,o49,o59,o69++[(y36,y37,y38,y39,y40,y41,x,x1)]),x2,x3)))) ((y33,(o06,o16,o24,o34,o44,o54,o64),(o07,o17,o25,o35,o45,o55,o65),y34,y35))) fun ((o09,o19,o26,o36,o46,o56,o66),(o010,o110,o27,o37,o47,o57,o67),o011,o111) =>
   cndO (o111)
    (some ((false,[],(0:Int),(0:Int),(0:Int),[],[],[])))
    (cndO (!decide (o011=[]))
     (some ((false,[],(0:Int),(0:Int),(0:Int),[],[],[])))
     (some ((true,o010,o110,o27,o37,o47,o57,o67))))))
theorem r17 x:funT T tb62 tp17 140 tv17 (zAD Tryz.f17) ti17 to17 x=F17 x:=by kernel_rfl
def te17:=mkE 17 false [] ti17 to17 F17 [.cell 2 34,.tmp 3] 140 []
def tb17:=insT 17 te17 tb62
theorem ok17:TbOk Tryz.prog tb17:=okI ok62 tp17 tv17 Tryz.func17 rfl Tryz.results17 Tryz.ntmps17 (by kernel_rfl) (by kernel_rfl) Tryz.call17 r17
abbrev ti64:SPat:=⟨[(0,.sl tg27),(1,.sl tg27)],[]⟩
abbrev to64:SPat:=⟨[(4,.b)],[]⟩
abbrev ts64_4:SPat:=⟨[(0,.sl tg27),(1,.sl tg27),(5,.i .i64)],[]⟩
abbrev zNe:SPat:=⟨[],[]⟩
def tv64:Nat→Option SPat:=fun k=>bif k == 4 then some ts64_4 else bif k == 2000000 then some zNe else none
def tp64:Nat→List Nat×Plan:=fun id=>bif id == 6 then ([0,1,2,3,4,5,6,7,8],.fin) else ([],.fin)
def F64:List Cst×List Cst→Option (Bool):=fun (a,b) =>
 cndO (!decide ((a.length:Int)=(b.length:Int)))
  (some (false))
  (bindE (zAF (fun (a1,b1,i) =>
    cndO (decide (i<(a1.length:Int)))
     (grdO (decide (0≤i)) (atO (a1) i.toNat fun x=>grdO (decide (0≤i)) (atO (b1) i.toNat fun x1=>cndO (!(decide (x.1=x1.1) && (decide (x.2.1=x1.2.1) && (decide (x.2.2.1=x1.2.2.1) && (decide (x.2.2.2=x1.2.2.2) && true)))))
      (some (Sum.inr (Sum.inr false)))
      (some (Sum.inl (a1,b1,IntKind.wrap .i64 (i+1)))))))
     (some (Sum.inr (Sum.inl ())))) ((a,b,(0:Int)))) fun _ =>
  some (true))
theorem r64 x:funT T tb17 tp64 26 tv64 (zAD Tryz.f64) ti64 to64 x=F64 x:=by kernel_rfl
def te64:=mkE 64 true [] ti64 to64 F64 [.tmp 4] 26 []
def tb64:=insT 64 te64 tb17
theorem ok64:TbOk Tryz.prog tb64:=okI ok17 tp64 tv64 Tryz.func64 rfl Tryz.results64 Tryz.ntmps64 (by kernel_rfl) (by kernel_rfl) Tryz.call64 r64
abbrev ti42:SPat:=⟨[(0,.sl (.int .i64)),(1,.sl (.int .i64))],[]⟩
abbrev to42:SPat:=⟨[(4,.b)],[]⟩
abbrev ts42_4:SPat:=⟨[(0,.sl (.int .i64)),(1,.sl (.int .i64)),(5,.i .i64)],[]⟩
abbrev zNw:SPat:=⟨[],[]⟩
def tv42:Nat→Option SPat:=fun k=>bif k == 4 then some ts42_4 else bif k == 2000000 then some zNw else none
def tp42:Nat→List Nat×Plan:=fun id=>bif id == 6 then ([0,1,2,3,4,5,6,7,8],.fin) else ([],.fin)
def F42:List Int×List Int→Option (Bool):=fun (a,b) =>
 cndO (!decide ((a.length:Int)=(b.length:Int)))
  (some (false))
  (bindE (zAF (fun (a1,b1,i) =>
    cndO (decide (i<(a1.length:Int)))
     (grdO (decide (0≤i)) (atO (a1) i.toNat fun x=>grdO (decide (0≤i)) (atO (b1) i.toNat fun x1=>cndO (!decide (x=x1))
      (some (Sum.inr (Sum.inr false)))
      (some (Sum.inl (a1,b1,IntKind.wrap .i64 (i+1)))))))
     (some (Sum.inr (Sum.inl ())))) ((a,b,(0:Int)))) fun _ =>
  some (true))
theorem r42 x:funT T tb64 tp42 26 tv42 (zAD Tryz.f42) ti42 to42 x=F42 x:=by kernel_rfl
def te42:=mkE 42 true [] ti42 to42 F42 [.tmp 4] 26 []
def tb42:=insT 42 te42 tb64
theorem ok42:TbOk Tryz.prog tb42:=okI ok64 tp42 tv42 Tryz.func42 rfl Tryz.results42 Tryz.ntmps42 (by kernel_rfl) (by kernel_rfl) Tryz.call42 r42
abbrev ti143:SPat:=⟨[(0,.sl zBB),(1,.sl zBB)],[]⟩
abbrev to143:SPat:=⟨[(4,.b)],[]⟩
abbrev ts143_4:SPat:=⟨[(0,.sl zBB),(1,.sl zBB),(5,.i .i64)],[]⟩
abbrev zLl:SPat:=⟨[],[]⟩
def tv143:Nat→Option SPat:=fun k=>bif k == 4 then some ts143_4 else bif k == 2000000 then some zLl else none
def tp143:Nat→List Nat×Plan:=fun id=>bif id == 6 then ([0,1,2,3,4,5,6,7,8],.fin) else ([],.fin)
def F143:List (Int×Int)×List (Int×Int)→Option (Bool):=fun (a,b) =>
 cndO (!decide ((a.length:Int)=(b.length:Int)))
  (some (false))
  (bindE (zAF (fun (a1,b1,i) =>
    cndO (decide (i<(a1.length:Int)))
     (grdO (decide (0≤i)) (atO (a1) i.toNat fun x=>grdO (decide (0≤i)) (atO (b1) i.toNat fun x1=>cndO (!(decide (x.1=x1.1) && (decide (x.2=x1.2) && true)))
      (some (Sum.inr (Sum.inr false)))
      (some (Sum.inl (a1,b1,IntKind.wrap .i64 (i+1)))))))
     (some (Sum.inr (Sum.inl ())))) ((a,b,(0:Int)))) fun _ =>
  some (true))
theorem r143 x:funT T tb42 tp143 26 tv143 (zAD Tryz.f143) ti143 to143 x=F143 x:=by kernel_rfl
def te143:=mkE 143 true [] ti143 to143 F143 [.tmp 4] 26 []
def tb143:=insT 143 te143 tb42
theorem ok143:TbOk Tryz.prog tb143:=okI ok42 tp143 tv143 Tryz.func143 rfl Tryz.results143 Tryz.ntmps143 (by kernel_rfl) (by kernel_rfl) Tryz.call143 r143
abbrev ti65:SPat:=⟨[(0,.agg (pl plM)),(1,.agg (pl plM))],[]⟩
abbrev to65:SPat:=⟨[(4,.b)],[]⟩
abbrev ts65_4:SPat:=⟨[(2,.ptr 2 0),(3,.ptr 3 0),(5,.i .i64)],[.box 2 (pl plM),.box 3 (pl plM)]⟩
abbrev ts65_9:SPat:=⟨[(2,.ptr 2 0),(3,.ptr 3 0),(6,.i .i64)],[.box 2 (pl plM),.box 3 (pl plM)]⟩
abbrev zNd:SPat:=⟨[(2,.ptr 2 0),(3,.ptr 3 0)],[.box 2 (pl plM),.box 3 (pl plM)]⟩
abbrev zNc:SPat:=⟨[(2,.ptr 2 0),(3,.ptr 3 0)],[.box 2 (pl plM),.box 3 (pl plM)]⟩
abbrev zNb:SPat:=⟨[],[]⟩
abbrev zNa:SPat:=⟨[(2,.ptr 2 0),(3,.ptr 3 0),(6,.i .i64)],[.box 2 (pl plM),.box 3 (pl plM)]⟩
def tv65:Nat→Option SPat:=fun k=>bif k == 4 then some ts65_4 else bif k == 9 then some ts65_9 else bif k == 1000003 then some zNd else bif k == 2000000 then some zNc else bif k == 2000002 then some zNb else bif k == 2000003 then some zNa else none
def tp65:Nat→List Nat×Plan:=fun id=>bif id == 6 then ([0,1,2,3,4,5,6,7,8,9,10],.fin) else bif id == 11 then ([0,1,2,3,4,5,6,7,8,9,10,11,12,13,14,15,16,17,18,19,20,21,22,23,24,25],(.br 26 [25,24,23,22,21,20,19,18,17,16,15,14,13,12,11,10,9,8,7,6,5,4,3,2,1,0] [] [27,28,29,30,31,32,33,34,35,36,37,38,39,40,41] (.br 42 [41,40,39,38,37,36,35,34,33,32,31,30,29,28,27,26,25,24,23,22,21,20,19,18,17,16,15,14,13,12,11,10,9,8,7,6,5,4,3,2,1,0] [] [43,44] .fin .fin) .fin)) else ([],.fin)
def F65:(Mth)×Mth→Option (Bool):=fun ((app0,app1,app2,app3,app4,app5,app6,app7),v10,v11,v12,v13,v14,v15,v16,v17) =>
 bindE (Y:=(Mth)×Mth) (cndO (!decide (app0=v10))
   (some (Sum.inr false))
   (cndO (!decide (app1=v11))
    (some (Sum.inr false))
    (cndO (!decide (app2=v12))
     (some (Sum.inr false))
     (cndO (!decide (app3=v13))
      (some (Sum.inr false))
      (cndO (!decide (app4=v14))
       (some (Sum.inr false))
       (cndO (!decide (app5=v15))
        (some (Sum.inr false))
        (cndO (!decide ((app6.length:Int)=(v16.length:Int)))
         (some (Sum.inr false))
         (cndO (!decide ((app7.length:Int)=(v17.length:Int)))
          (some (Sum.inr false))
          (some (Sum.inl ((app0,app1,app2,app3,app4,app5,app6,app7),v10,v11,v12,v13,v14,v15,v16,v17))))))))))) fun ((o0,o1,o2,o3,o4,o5,o6,o7),o01,o11,o21,o31,o41,o51,o61,o71) =>
 bindE (Y:=(Mth)×Mth) (zAF (fun (v5,(o02,o12,o22,o32,o42,o52,o62,o72),o03,o13,o23,o33,o43,o53,o63,o73) =>
   cndO (decide (v5<(o62.length:Int)))
    (grdO (decide (0≤v5)) (atO (o62) v5.toNat fun x=>grdO (decide (0≤v5)) (atO (o63) v5.toNat fun x1=>cndO (!(decide (x.1=x1.1) && (decide (x.2.1=x1.2.1) && (decide (x.2.2.1=x1.2.2.1) && (decide (x.2.2.2=x1.2.2.2) && true)))))
     (some (Sum.inr (Sum.inr false)))
     (some (Sum.inl (IntKind.wrap .i64 (v5+1),(o02,o12,o22,o32,o42,o52,o62,o72),o03,o13,o23,o33,o43,o53,o63,o73))))))
    (some (Sum.inr (Sum.inl ((o02,o12,o22,o32,o42,o52,o62,o72),o03,o13,o23,o33,o43,o53,o63,o73))))) (((0:Int),(o0,o1,o2,o3,o4,o5,o6,o7),o01,o11,o21,o31,o41,o51,o61,o71))) fun ((o02,o12,o22,o32,o42,o52,o62,o72),o03,o13,o23,o33,o43,o53,o63,o73) =>
 bindE (zAF (fun (v6,(o04,o14,o24,o34,o44,o54,o64,o74),o05,o15,o25,o35,o45,o55,o65,o75) =>
   cndO (decide (v6<(o74.length:Int)))
    (bindE (Y:=Int×(Mth)×Mth) (grdO (decide (0≤v6)) (atO (o74) v6.toNat fun x=>grdO (decide (0≤v6)) (atO (o75) v6.toNat fun x1=>cndO (!decide (x.1=x1.1))
      (some (Sum.inr (Sum.inr (Sum.inr false))))
      (grdO (decide (0≤v6)) (atO (o74) v6.toNat fun x2=>grdO (decide (0≤v6)) (atO (o75) v6.toNat fun x3=>zAA (F143 (x2.2.1,x3.2.1)) fun y =>
      cndO (!y)
       (some (Sum.inr (Sum.inr (Sum.inr false))))
       (grdO (decide (0≤v6)) (atO (o74) v6.toNat fun x4=>grdO (decide (0≤v6)) (atO (o75) v6.toNat fun x5=>zAA (F143 (x4.2.2,x5.2.2)) fun y1 =>
       cndO (!y1)
        (some (Sum.inr (Sum.inr (Sum.inr false))))
        (some (Sum.inl (v6,(o04,o14,o24,o34,o44,o54,o64,o74),o05,o15,o25,o35,o45,o55,o65,o75)))))))))))) fun (v61,(o06,o16,o26,o36,o46,o56,o66,o76),o07,o17,o27,o37,o47,o57,o67,o77) =>
    some (Sum.inl (IntKind.wrap .i64 (v61+1),(o06,o16,o26,o36,o46,o56,o66,o76),o07,o17,o27,o37,o47,o57,o67,o77)))
    (some (Sum.inr (Sum.inl ())))) (((0:Int),(o02,o12,o22,o32,o42,o52,o62,o72),o03,o13,o23,o33,o43,o53,o63,o73))) fun _ =>
 some (true)
theorem r65 x:funT T tb143 tp65 135 tv65 (zAD Tryz.f65) ti65 to65 x=F65 x:=by kernel_rfl
def te65:=mkE 65 true [] ti65 to65 F65 [.tmp 4] 135 []
def tb65:=insT 65 te65 tb143
theorem ok65:TbOk Tryz.prog tb65:=okI ok143 tp65 tv65 Tryz.func65 rfl Tryz.results65 Tryz.ntmps65 (by kernel_rfl) (by kernel_rfl) Tryz.call65 r65
abbrev ti19:SPat:=⟨[(0,.agg (pl plC)),(1,.agg (pl plC))],[]⟩
abbrev to19:SPat:=⟨[(4,.b)],[]⟩
abbrev ts19_4:SPat:=⟨[(2,.ptr 2 0),(3,.ptr 3 0),(5,.i .i64)],[.box 2 (pl plC),.box 3 (pl plC)]⟩
abbrev ts19_9:SPat:=⟨[(2,.ptr 2 0),(3,.ptr 3 0),(6,.i .i64)],[.box 2 (pl plC),.box 3 (pl plC)]⟩
abbrev zNz:SPat:=⟨[(2,.ptr 2 0),(3,.ptr 3 0)],[.box 2 (pl plC),.box 3 (pl plC)]⟩
abbrev zNy:SPat:=⟨[(2,.ptr 2 0),(3,.ptr 3 0)],[.box 2 (pl plC),.box 3 (pl plC)]⟩
abbrev zNx:SPat:=⟨[],[]⟩
def tv19:Nat→Option SPat:=fun k=>bif k == 4 then some ts19_4 else bif k == 9 then some ts19_9 else bif k == 1000003 then some zNz else bif k == 2000000 then some zNy else bif k == 2000002 then some zNx else none
def tp19:Nat→List Nat×Plan:=fun id=>bif id == 6 then ([0,1,2,3,4,5,6,7,8,9,10],.fin) else bif id == 11 then ([0,1,2,3,4,5,6,7,8,9],(.br 10 [9,8,7,6,5,4,3,2,1,0] [] [11] .fin .fin)) else ([],.fin)
def F19:(Cls)×Cls→Option (Bool):=fun ((app0,app1,app2,app3,app4,app5,app6),v10,v11,v12,v13,v14,v15,v16) =>
 bindE (Y:=(Cls)×Cls) (zAA (F64 (app0,v10)) fun y =>
  cndO (!y)
   (some (Sum.inr false))
   (cndO (!decide (app1=v11))
    (some (Sum.inr false))
    (cndO (!decide (app2=v12))
     (some (Sum.inr false))
     (cndO (!decide (app3=v13))
      (some (Sum.inr false))
      (zAA (F42 (app4,v14)) fun y1 =>
      cndO (!y1)
       (some (Sum.inr false))
       (cndO (!decide ((app5.length:Int)=(v15.length:Int)))
        (some (Sum.inr false))
        (cndO (!decide ((app6.length:Int)=(v16.length:Int)))
         (some (Sum.inr false))
         (some (Sum.inl ((app0,app1,app2,app3,app4,app5,app6),v10,v11,v12,v13,v14,v15,v16)))))))))) fun ((o0,o1,o2,o3,o4,o5,o6),o01,o11,o21,o31,o41,o51,o61) =>
 bindE (Y:=(Cls)×Cls) (zAF (fun (v5,(o02,o12,o22,o32,o42,o52,o62),o03,o13,o23,o33,o43,o53,o63) =>
   cndO (decide (v5<(o52.length:Int)))
    (grdO (decide (0≤v5)) (atO (o52) v5.toNat fun x=>grdO (decide (0≤v5)) (atO (o53) v5.toNat fun x1=>cndO (!(decide (x.1=x1.1) && (decide (x.2.1=x1.2.1) && (decide (x.2.2=x1.2.2) && true))))
     (some (Sum.inr (Sum.inr false)))
     (some (Sum.inl (IntKind.wrap .i64 (v5+1),(o02,o12,o22,o32,o42,o52,o62),o03,o13,o23,o33,o43,o53,o63))))))
    (some (Sum.inr (Sum.inl ((o02,o12,o22,o32,o42,o52,o62),o03,o13,o23,o33,o43,o53,o63))))) (((0:Int),(o0,o1,o2,o3,o4,o5,o6),o01,o11,o21,o31,o41,o51,o61))) fun ((o02,o12,o22,o32,o42,o52,o62),o03,o13,o23,o33,o43,o53,o63) =>
 bindE (zAF (fun (v6,(o04,o14,o24,o34,o44,o54,o64),o05,o15,o25,o35,o45,o55,o65) =>
   cndO (decide (v6<(o64.length:Int)))
    (grdO (decide (0≤v6)) (atO (o64) v6.toNat fun x=>grdO (decide (0≤v6)) (atO (o65) v6.toNat fun x1=>zAA (F65 ((x.1,x.2.1,x.2.2.1,x.2.2.2.1,x.2.2.2.2.1,x.2.2.2.2.2.1,x.2.2.2.2.2.2.1,x.2.2.2.2.2.2.2),x1.1,x1.2.1,x1.2.2.1,x1.2.2.2.1,x1.2.2.2.2.1,x1.2.2.2.2.2.1,x1.2.2.2.2.2.2.1,x1.2.2.2.2.2.2.2)) fun y =>
    cndO (!y)
     (some (Sum.inr (Sum.inr false)))
     (some (Sum.inl (IntKind.wrap .i64 (v6+1),(o04,o14,o24,o34,o44,o54,o64),o05,o15,o25,o35,o45,o55,o65))))))
    (some (Sum.inr (Sum.inl ())))) (((0:Int),(o02,o12,o22,o32,o42,o52,o62),o03,o13,o23,o33,o43,o53,o63))) fun _ =>
 some (true)
theorem r19 x:funT T tb65 tp19 97 tv19 (zAD Tryz.f19) ti19 to19 x=F19 x:=by kernel_rfl
def te19:=mkE 19 true [] ti19 to19 F19 [.tmp 4] 97 []
def tb19:=insT 19 te19 tb65
theorem ok19:TbOk Tryz.prog tb19:=okI ok65 tp19 tv19 Tryz.func19 rfl Tryz.results19 Tryz.ntmps19 (by kernel_rfl) (by kernel_rfl) Tryz.call19 r19
abbrev ti66:SPat:=⟨[(0,.agg (pl plC))],[]⟩
abbrev to66:SPat:=⟨[(2,.b)],[]⟩
abbrev ts66_4:SPat:=⟨[(1,.ptr 1 0),(32,.sl tg27),(33,.i .i64),(34,.i .i64)],[.box 1 (pl plC)]⟩
abbrev ts66_10:SPat:=⟨[(44,.sl tg53),(45,.i .i64),(46,.i .i64)],[]⟩
abbrev ts66_15:SPat:=⟨[(44,.sl tg53),(45,.i .i64),(46,.i .i64),(67,.sl zBb),(68,.i .i64),(69,.i .i64)],[]⟩
abbrev zNZ:SPat:=⟨[(1,.ptr 1 0)],[.box 1 (pl plC)]⟩
abbrev zNY:SPat:=⟨[(6,.ptr 6 0),(44,.sl tg53),(45,.i .i64),(46,.i .i64)],[.box 6 (pl plM)]⟩
abbrev zNX:SPat:=⟨[(1,.ptr 1 0)],[.box 1 (pl plC)]⟩
abbrev zNW:SPat:=⟨[],[]⟩
abbrev zNV:SPat:=⟨[(44,.sl tg53),(45,.i .i64),(46,.i .i64)],[]⟩
abbrev zNU:SPat:=⟨[(44,.sl tg53),(45,.i .i64),(46,.i .i64)],[]⟩
abbrev zNT:SPat:=⟨[(44,.sl tg53),(45,.i .i64),(46,.i .i64),(67,.sl zBb),(68,.i .i64),(69,.i .i64)],[]⟩
def tv66:Nat→Option SPat:=fun k=>bif k == 4 then some ts66_4 else bif k == 10 then some ts66_10 else bif k == 15 then some ts66_15 else bif k == 1000003 then some zNZ else bif k == 1000014 then some zNY else bif k == 2000000 then some zNX else bif k == 2000002 then some zNW else bif k == 2000003 then some zNV else bif k == 2000004 then some zNU else bif k == 2000005 then some zNT else none
def F66:Cls→Option (Bool):=fun (app0,app1,app2,app3,app4,app5,app6) =>
 bindE (Y:=Cls) (cndO (decide (60<(app0.length:Int)))
   (some (Sum.inr false))
   (cndO (decide (3<(app4.length:Int)))
    (some (Sum.inr false))
    (cndO (decide (5<(app5.length:Int)))
     (some (Sum.inr false))
     (cndO (decide (6<(app6.length:Int)))
      (some (Sum.inr false))
      (some (Sum.inl (app0,app1,app2,app3,app4,app5,app6))))))) fun (o0,o1,o2,o3,o4,o5,o6) =>
 bindE (Y:=Cls) (zAF (fun (v32,v33,v34,o01,o11,o21,o31,o41,o51,o61) =>
   cndO (decide (v34<v33))
    (grdO (decide (0≤v34)) (atO (v32) v34.toNat fun x=>cndO (decide (255<(x.2.1.length:Int)))
     (some (Sum.inr (Sum.inr false)))
     (some (Sum.inl (v32,v33,IntKind.wrap .i64 (v34+1),o01,o11,o21,o31,o41,o51,o61)))))
    (some (Sum.inr (Sum.inl (o01,o11,o21,o31,o41,o51,o61))))) ((o0,(o0.length:Int),(0:Int),o0,o1,o2,o3,o4,o5,o6))) fun (o01,o11,o21,o31,o41,o51,o61) =>
 bindE (zAF (fun (v44,v45,v46) =>
   cndO (decide (v46<v45))
    (bindE (Y:=List Mth×Int×Int) (grdO (decide (0≤v46)) (atO (v44) v46.toNat fun x=>bindE (Y:=List Mth×Int×Int×Mth) (cndO (decide (120<(x.2.2.2.2.2.1.length:Int)))
       (some (Sum.inr (Sum.inr (Sum.inr (Sum.inr false)))))
       (cndO (decide (3<(x.2.2.2.2.2.2.1.length:Int)))
        (some (Sum.inr (Sum.inr (Sum.inr (Sum.inr false)))))
        (cndO (decide (8<(x.2.2.2.2.2.2.2.length:Int)))
         (some (Sum.inr (Sum.inr (Sum.inr (Sum.inr false)))))
         (some (Sum.inl (v44,v45,v46,x.1,x.2.1,x.2.2.1,x.2.2.2.1,x.2.2.2.2.1,x.2.2.2.2.2.1,x.2.2.2.2.2.2.1,x.2.2.2.2.2.2.2)))))) fun (v441,v451,v461,o02,o12,o22,o32,o42,o52,o62,o7) =>
     bindE (Y:=List Mth×Int×Int) (zAF (fun (v442,v452,v462,v67,v68,v69) =>
       cndO (decide (v69<v68))
        (bindE (Y:=List Mth×Int×Int×List Frm×Int×Int) (grdO (decide (0≤v69)) (atO (v67) v69.toNat fun x1=>cndO (decide (8<(x1.2.1.length:Int)))
          (some (Sum.inr (Sum.inr (Sum.inr (Sum.inr (Sum.inr (Sum.inr false)))))))
          (cndO (decide (8<(x1.2.2.length:Int)))
           (some (Sum.inr (Sum.inr (Sum.inr (Sum.inr (Sum.inr (Sum.inr false)))))))
           (some (Sum.inl (v442,v452,v462,v67,v68,v69)))))) fun (v443,v453,v463,v671,v681,v691) =>
        some (Sum.inl (v443,v453,v463,v671,v681,IntKind.wrap .i64 (v691+1))))
        (some (Sum.inr (Sum.inl (v442,v452,v462))))) ((v441,v451,v461,o7,(o7.length:Int),(0:Int)))) fun (v442,v452,v462) =>
     some (Sum.inl (v442,v452,v462)))) fun (v441,v451,v461) =>
    some (Sum.inl (v441,v451,IntKind.wrap .i64 (v461+1))))
    (some (Sum.inr (Sum.inl ())))) ((o61,(o61.length:Int),(0:Int)))) fun _ =>
 some (true)
theorem r66 x:funT T tb19 noPl 85 tv66 (zAD Tryz.f66) ti66 to66 x=F66 x:=by kernel_rfl
def te66:=mkE 66 true [] ti66 to66 F66 [.tmp 2] 85 []
def tb66:=insT 66 te66 tb19
theorem ok66:TbOk Tryz.prog tb66:=okI ok19 noPl tv66 Tryz.func66 rfl Tryz.results66 Tryz.ntmps66 (by kernel_rfl) (by kernel_rfl) Tryz.call66 r66
abbrev ti144:SPat:=⟨[(0,.i .i64)],[]⟩
abbrev to144:SPat:=⟨[(2,.s)],[]⟩
def F144:Int→Option (List UInt8):=fun n =>
 grdO (decide (0≤IntKind.wrap .u8 n) && decide (IntKind.wrap .u8 n≤255)) (some ([UInt8.ofNat (Int.toNat (IntKind.wrap .u8 n))]))
theorem r144 x:funT T tb66 noPl 7 noIv (zAD Tryz.f144) ti144 to144 x=F144 x:=by kernel_rfl
def te144:=mkE 144 true [] ti144 to144 F144 [.tmp 2] 7 []
def tb144:=insT 144 te144 tb66
theorem ok144:TbOk Tryz.prog tb144:=okI ok66 noPl noIv Tryz.func144 rfl Tryz.results144 Tryz.ntmps144 (by kernel_rfl) (by kernel_rfl) Tryz.call144 r144
abbrev ti145:SPat:=⟨[(0,.i .i64)],[]⟩
abbrev to145:SPat:=⟨[(2,.s)],[]⟩
def F145:Int→Option (List UInt8):=fun n =>
 zAA (F144 (Int.fdiv n (256:Int))) fun y =>
 zAA (F144 n) fun y1 =>
 grdO (decide (List.length y+List.length y1≤9223372036854775807)) (some (y++y1))
theorem r145 x:funT T tb144 noPl 9 noIv (zAD Tryz.f145) ti145 to145 x=F145 x:=by kernel_rfl
def te145:=mkE 145 true [] ti145 to145 F145 [.tmp 2] 9 []
def tb145:=insT 145 te145 tb144
theorem ok145:TbOk Tryz.prog tb145:=okI ok144 noPl noIv Tryz.func145 rfl Tryz.results145 Tryz.ntmps145 (by kernel_rfl) (by kernel_rfl) Tryz.call145 r145
abbrev ti146:SPat:=⟨[(0,.sl zBB)],[]⟩
abbrev to146:SPat:=⟨[(2,.s)],[]⟩
abbrev ts146_3:SPat:=⟨[(3,.s),(9,.sl zBB),(10,.i .i64),(11,.i .i64)],[]⟩
abbrev zLk:SPat:=⟨[(3,.s)],[]⟩
abbrev zLj:SPat:=⟨[(3,.s),(9,.sl zBB),(10,.i .i64),(11,.i .i64)],[]⟩
def tv146:Nat→Option SPat:=fun k=>bif k == 3 then some ts146_3 else bif k == 2000000 then some zLk else bif k == 2000001 then some zLj else none
def F146:List (Int×Int)→Option (List UInt8):=fun list =>
 zAA (F144 (list.length:Int)) fun y =>
 bindE (Y:=List UInt8) (zAF (fun (out,v9,v10,v11) =>
   cndO (decide (v11<v10))
    (bindE (Y:=List UInt8×List (Int×Int)×Int×Int) (grdO (decide (0≤v11)) (atO (v9) v11.toNat fun x=>zAA (F144 (x.1)) fun y1 =>
     grdO (decide (List.length out+List.length y1≤9223372036854775807)) (cndO (decide (x.1=3))
      (zAA (F145 (x.2)) fun y2 =>
      grdO (decide (List.length (out++y1)+List.length y2≤9223372036854775807)) (some (Sum.inl (out++y1++y2,v9,v10,v11))))
      (some (Sum.inl (out++y1,v9,v10,v11)))))) fun (out1,v91,v101,v111) =>
    some (Sum.inl (out1,v91,v101,IntKind.wrap .i64 (v111+1))))
    (some (Sum.inr (Sum.inl out)))) ((y,list,(list.length:Int),(0:Int)))) fun out =>
 some (out)
theorem r146 x:funT T tb145 noPl 30 tv146 (zAD Tryz.f146) ti146 to146 x=F146 x:=by kernel_rfl
def te146:=mkE 146 true [] ti146 to146 F146 [.tmp 2] 30 []
def tb146:=insT 146 te146 tb145
theorem ok146:TbOk Tryz.prog tb146:=okI ok145 noPl tv146 Tryz.func146 rfl Tryz.results146 Tryz.ntmps146 (by kernel_rfl) (by kernel_rfl) Tryz.call146 r146
abbrev ti67:SPat:=⟨[(0,.agg (pl plC))],[]⟩
abbrev to67:SPat:=⟨[(2,.s)],[]⟩
abbrev ts67_3:SPat:=⟨[(1,.ptr 1 0),(3,.s),(22,.sl tg27),(23,.i .i64),(24,.i .i64)],[.box 1 (pl plC)]⟩
abbrev ts67_15:SPat:=⟨[(1,.ptr 1 0),(3,.s),(82,.sl (.int .i64)),(83,.i .i64),(84,.i .i64)],[.box 1 (pl plC)]⟩
abbrev ts67_21:SPat:=⟨[(1,.ptr 1 0),(3,.s),(100,.sl tg89),(101,.i .i64),(102,.i .i64)],[.box 1 (pl plC)]⟩
abbrev ts67_27:SPat:=⟨[(3,.s),(127,.sl tg53),(128,.i .i64),(129,.i .i64)],[]⟩
abbrev ts67_33:SPat:=⟨[(3,.s),(11,.ptr 11 0),(127,.sl tg53),(128,.i .i64),(129,.i .i64),(172,.sl zCq),(173,.i .i64),(174,.i .i64)],[.box 11 (pl plM)]⟩
abbrev ts67_39:SPat:=⟨[(3,.s),(127,.sl tg53),(128,.i .i64),(129,.i .i64),(203,.sl zBb),(204,.i .i64),(205,.i .i64)],[]⟩
abbrev zNS:SPat:=⟨[(1,.ptr 1 0),(3,.s)],[.box 1 (pl plC)]⟩
abbrev zNR:SPat:=⟨[(1,.ptr 1 0),(3,.s),(22,.sl tg27),(23,.i .i64),(24,.i .i64)],[.box 1 (pl plC)]⟩
abbrev zNQ:SPat:=⟨[(1,.ptr 1 0),(3,.s)],[.box 1 (pl plC)]⟩
abbrev zNP:SPat:=⟨[(1,.ptr 1 0),(3,.s)],[.box 1 (pl plC)]⟩
abbrev zNO:SPat:=⟨[(3,.s)],[]⟩
abbrev zNN:SPat:=⟨[(3,.s),(127,.sl tg53),(128,.i .i64),(129,.i .i64)],[]⟩
abbrev zNM:SPat:=⟨[(3,.s),(11,.ptr 11 0),(127,.sl tg53),(128,.i .i64),(129,.i .i64)],[.box 11 (pl plM)]⟩
abbrev zNL:SPat:=⟨[(3,.s),(127,.sl tg53),(128,.i .i64),(129,.i .i64)],[]⟩
def tv67:Nat→Option SPat:=fun k=>bif k == 3 then some ts67_3 else bif k == 15 then some ts67_15 else bif k == 21 then some ts67_21 else bif k == 27 then some ts67_27 else bif k == 33 then some ts67_33 else bif k == 39 then some ts67_39 else bif k == 2000000 then some zNS else bif k == 2000002 then some zNR else bif k == 2000003 then some zNQ else bif k == 2000005 then some zNP else bif k == 2000007 then some zNO else bif k == 2000008 then some zNN else bif k == 2000009 then some zNM else bif k == 2000011 then some zNL else none
def tp67:Nat→List Nat×Plan:=fun id=>bif id == 9 then ([0,1,2,3,5,6],(.br 4 [3,2,1] [0,5,6] [7,8] (.br 9 [8,7,6,5,4,3,2,1,0] [] [] .fin .fin) .fin)) else bif id == 7 then ([0,1,2,4,5],(.br 3 [2,1] [0,4,5] [] (.br 6 [5,4,3,2,1] [0] [7,8] (.br 9 [8,7,6,5,4,3,2,1,0] [] [] .fin .fin) .fin) .fin)) else bif id == 13 then ([0,1,2,4,5,8,9,12,13,14],(.br 3 [2,1] [0,4,5,8,9,12,13,14] [] (.br 6 [5,4,3,2,1] [0,8,9,12,13,14] [7] (.br 10 [9,8,6,5,4,3,2,1] [0,12,13,14,7] [11] (.br 15 [14,13,12,10,9,8,6,5,4,3,2,1] [0,7,11] [16,17] (.br 18 [17,16,15,14,13,12,11,10,9,8,7,6,5,4,3,2,1,0] [] [] .fin .fin) .fin) .fin) .fin) .fin)) else bif id == 23 then ([0,1,2,4,5,8,9],(.br 3 [2,1] [0,4,5,8,9] [] (.br 6 [5,4,3,2,1] [0,8,9] [7] (.br 10 [9,8,6,5,4,3,2,1] [0,7] [11,12] (.br 13 [12,11,10,9,8,7,6,5,4,3,2,1,0] [] [] .fin .fin) .fin) .fin) .fin)) else bif id == 29 then ([0,1,2,4,5,8,9],(.br 3 [2,1] [0,4,5,8,9] [] (.br 6 [5,4,3,2,1] [0,8,9] [7] (.br 10 [9,8,6,5,4,3,2,1] [0,7] [11,12] (.br 13 [12,11,10,9,8,7,6,5,4,3,2,1,0] [] [] .fin .fin) .fin) .fin) .fin)) else bif id == 31 then ([0,1,2,4,5,8,9,10,13,14,16,17,18],(.br 3 [2,1] [0,4,5,8,9,10,13,14,16,17,18] [] (.br 6 [5,4,3,2,1] [0,8,9,10,13,14,16,17,18] [7] (.br 11 [10,9,8,6,5,4,3,2,1] [0,13,14,16,17,18,7] [12,15] (.br 19 [18,17,16,11,10,9,8,6,5,4,3,2,1] [0,13,14,7,12,15] [20,21] (.br 22 [21,20,19,18,17,16,15,14,13,12,11,10,9,8,7,6,5,4,3,2,1,0] [] [] .fin .fin) .fin) .fin) .fin) .fin)) else bif id == 35 then ([0,1,2,4,5,8,9,12,13],(.br 3 [2,1] [0,4,5,8,9,12,13] [] (.br 6 [5,4,3,2,1] [0,8,9,12,13] [7] (.br 10 [9,8,6,5,4,3,2,1] [0,12,13,7] [11] (.br 14 [13,12,10,9,8,6,5,4,3,2,1] [0,7,11] [15,16] (.br 17 [16,15,14,13,12,11,10,9,8,7,6,5,4,3,2,1,0] [] [] .fin .fin) .fin) .fin) .fin) .fin)) else bif id == 41 then ([0,1,2,4,5,8,9],(.br 3 [2,1] [0,4,5,8,9] [] (.br 6 [5,4,3,2,1] [0,8,9] [7] (.br 10 [9,8,6,5,4,3,2,1] [0,7] [11,12] (.br 13 [12,11,10,9,8,7,6,5,4,3,2,1,0] [] [] .fin .fin) .fin) .fin) .fin)) else ([],.fin)
def F67:Cls→Option (List UInt8):=fun (app0,app1,app2,app3,app4,app5,app6) =>
 zAA (F144 (app0.length:Int)) fun y =>
 grdO (decide ((4:Nat)+List.length y≤9223372036854775807)) (bindE (Y:=List UInt8×Cls) (zAF (fun (v3,v22,v23,v24,o0,o1,o2,o3,o4,o5,o6) =>
   cndO (decide (v24<v23))
    (grdO (decide (0≤v24)) (atO (v22) v24.toNat fun x=>zAA (F144 (x.1)) fun y1 =>
    grdO (decide (List.length v3+List.length y1≤9223372036854775807)) (bindE (Y:=List UInt8×List Cst×Int×Int×Cls) (cndO (decide (x.1=1))
      (zAA (F144 (x.2.1.length:Int)) fun y2 =>
      seqU (seqU (grdO (decide (v3++y1=v3++y1)) (some ())) (seqU (grdO (decide (x.2.1=x.2.1)) (some ())) (some ()))) (grdO (decide (List.length y2+List.length (x.2.1)≤9223372036854775807)) (grdO (decide (List.length (v3++y1)+List.length (y2++x.2.1)≤9223372036854775807)) (some (Sum.inl (v3++y1++(y2++x.2.1),v22,v23,v24,o0,o1,o2,o3,o4,o5,o6))))))
      (cndO (decide (x.1=2))
       (zAA (F145 (x.2.2.1)) fun y2 =>
       grdO (decide (List.length (v3++y1)+List.length y2≤9223372036854775807)) (some (Sum.inl (v3++y1++y2,v22,v23,v24,o0,o1,o2,o3,o4,o5,o6))))
       (zAA (F145 (x.2.2.1)) fun y2 =>
       seqU (seqU (grdO (decide (v3++y1=v3++y1)) (some ())) (seqU (grdO (decide (x.2.2.2=x.2.2.2)) (some ())) (some ()))) (zAA (F145 (x.2.2.2)) fun y3 =>
       seqU (seqU (grdO (decide (v3++y1=v3++y1)) (some ())) (some ())) (grdO (decide (List.length y2+List.length y3≤9223372036854775807)) (grdO (decide (List.length (v3++y1)+List.length (y2++y3)≤9223372036854775807)) (some (Sum.inl (v3++y1++(y2++y3),v22,v23,v24,o0,o1,o2,o3,o4,o5,o6))))))))) fun (v31,v221,v231,v241,o01,o11,o21,o31,o41,o51,o61) =>
    some (Sum.inl (v31,v221,v231,IntKind.wrap .i64 (v241+1),o01,o11,o21,o31,o41,o51,o61)))))
    (some (Sum.inr (Sum.inl (v3,o0,o1,o2,o3,o4,o5,o6))))) (([(83:UInt8),84,79,87]++y,app0,(app0.length:Int),(0:Int),app0,app1,app2,app3,app4,app5,app6))) fun (v3,o0,o1,o2,o3,o4,o5,o6) =>
 zAA (F144 o1) fun y1 =>
 seqU (seqU (grdO (decide (v3=v3)) (some ())) (seqU (grdO (decide (o2=o2)) (some ())) (seqU (grdO (decide (o3=o3)) (some ())) (seqU (grdO (decide (o4=o4)) (some ())) (seqU (grdO (decide ((o4.length:Int)=(o4.length:Int))) (some ())) (some ())))))) (zAA (F145 o2) fun y2 =>
 seqU (seqU (grdO (decide (v3=v3)) (some ())) (seqU (grdO (decide (o3=o3)) (some ())) (seqU (grdO (decide (o4=o4)) (some ())) (seqU (grdO (decide ((o4.length:Int)=(o4.length:Int))) (some ())) (some ()))))) (grdO (decide (List.length y1+List.length y2≤9223372036854775807)) (zAA (F145 o3) fun y3 =>
 seqU (seqU (grdO (decide (v3=v3)) (some ())) (seqU (grdO (decide (o4=o4)) (some ())) (seqU (grdO (decide ((o4.length:Int)=(o4.length:Int))) (some ())) (seqU (grdO (decide (List.length y1+List.length y2≤9223372036854775807)) (grdO (decide (y1++y2=y1++y2)) (some ()))) (some ()))))) (grdO (decide (List.length (y1++y2)+List.length y3≤9223372036854775807)) (zAA (F144 (o4.length:Int)) fun y4 =>
 seqU (seqU (grdO (decide (v3=v3)) (some ())) (seqU (grdO (decide (List.length y1+List.length y2≤9223372036854775807)) (grdO (decide (y1++y2=y1++y2)) (some ()))) (seqU (grdO (decide (List.length (y1++y2)+List.length y3≤9223372036854775807)) (grdO (decide (y1++y2++y3=y1++y2++y3)) (some ()))) (some ())))) (grdO (decide (List.length (y1++y2++y3)+List.length y4≤9223372036854775807)) (grdO (decide (List.length v3+List.length (y1++y2++y3++y4)≤9223372036854775807)) (bindE (Y:=List UInt8×Cls) (zAF (fun (v31,v82,v83,v84,o01,o11,o21,o31,o41,o51,o61) =>
   cndO (decide (v84<v83))
    (grdO (decide (0≤v84)) (atO (v82) v84.toNat fun x=>zAA (F145 x) fun y5 =>
    grdO (decide (List.length v31+List.length y5≤9223372036854775807)) (some (Sum.inl (v31++y5,v82,v83,IntKind.wrap .i64 (v84+1),o01,o11,o21,o31,o41,o51,o61)))))
    (some (Sum.inr (Sum.inl (v31,o01,o11,o21,o31,o41,o51,o61))))) ((v3++(y1++y2++y3++y4),o4,(o4.length:Int),(0:Int),o0,o1,o2,o3,o4,o5,o6))) fun (v31,o01,o11,o21,o31,o41,o51,o61) =>
 zAA (F144 (o51.length:Int)) fun y5 =>
 grdO (decide (List.length v31+List.length y5≤9223372036854775807)) (bindE (Y:=List UInt8×Cls) (zAF (fun (v32,v100,v101,v102,o02,o12,o22,o32,o42,o52,o62) =>
   cndO (decide (v102<v101))
    (grdO (decide (0≤v102)) (atO (v100) v102.toNat fun x=>zAA (F144 (x.1)) fun y6 =>
    seqU (seqU (grdO (decide (v32=v32)) (some ())) (seqU (grdO (decide (x.2.1=x.2.1)) (some ())) (seqU (grdO (decide (x.2.2=x.2.2)) (some ())) (some ())))) (zAA (F145 (x.2.1)) fun y7 =>
    seqU (seqU (grdO (decide (v32=v32)) (some ())) (seqU (grdO (decide (x.2.2=x.2.2)) (some ())) (some ()))) (grdO (decide (List.length y6+List.length y7≤9223372036854775807)) (zAA (F145 (x.2.2)) fun y8 =>
    seqU (seqU (grdO (decide (v32=v32)) (some ())) (seqU (grdO (decide (List.length y6+List.length y7≤9223372036854775807)) (grdO (decide (y6++y7=y6++y7)) (some ()))) (some ()))) (grdO (decide (List.length (y6++y7)+List.length y8≤9223372036854775807)) (grdO (decide (List.length v32+List.length (y6++y7++y8)≤9223372036854775807)) (some (Sum.inl (v32++(y6++y7++y8),v100,v101,IntKind.wrap .i64 (v102+1),o02,o12,o22,o32,o42,o52,o62))))))))))
    (some (Sum.inr (Sum.inl (v32,o02,o12,o22,o32,o42,o52,o62))))) ((v31++y5,o51,(o51.length:Int),(0:Int),o01,o11,o21,o31,o41,o51,o61))) fun (v32,o02,o12,o22,o32,o42,o52,o62) =>
 zAA (F144 (o62.length:Int)) fun y6 =>
 grdO (decide (List.length v32+List.length y6≤9223372036854775807)) (bindE (Y:=List UInt8) (zAF (fun (v33,v127,v128,v129) =>
   cndO (decide (v129<v128))
    (bindE (Y:=List UInt8×List Mth×Int×Int) (grdO (decide (0≤v129)) (atO (v127) v129.toNat fun x=>zAA (F144 (x.1)) fun y7 =>
     seqU (seqU (grdO (decide (v33=v33)) (some ())) (seqU (grdO (decide (x.2.1=x.2.1)) (some ())) (seqU (grdO (decide (x.2.2.1=x.2.2.1)) (some ())) (some ())))) (zAA (F145 (x.2.1)) fun y8 =>
     seqU (seqU (grdO (decide (v33=v33)) (some ())) (seqU (grdO (decide (x.2.2.1=x.2.2.1)) (some ())) (some ()))) (grdO (decide (List.length y7+List.length y8≤9223372036854775807)) (zAA (F145 (x.2.2.1)) fun y9 =>
     seqU (seqU (grdO (decide (v33=v33)) (some ())) (seqU (grdO (decide (List.length y7+List.length y8≤9223372036854775807)) (grdO (decide (y7++y8=y7++y8)) (some ()))) (some ()))) (grdO (decide (List.length (y7++y8)+List.length y9≤9223372036854775807)) (grdO (decide (List.length v33+List.length (y7++y8++y9)≤9223372036854775807)) (zAA (F86 (x.1)) fun y10 =>
     cndO (y10)
      (some (Sum.inl (v33++(y7++y8++y9),v127,v128,v129)))
      (zAA (F144 (x.2.2.2.1)) fun y11 =>
      seqU (seqU (grdO (decide (v33++(y7++y8++y9)=v33++(y7++y8++y9))) (some ())) (seqU (grdO (decide (x.2.2.2.2.1=x.2.2.2.2.1)) (some ())) (seqU (grdO (decide (x.2.2.2.2.2.1=x.2.2.2.2.2.1)) (some ())) (seqU (grdO (decide ((x.2.2.2.2.2.1.length:Int)=(x.2.2.2.2.2.1.length:Int))) (some ())) (seqU (grdO (decide (x.2.2.2.2.2.1=x.2.2.2.2.2.1)) (some ())) (seqU (grdO (decide (x.2.2.2.2.2.2.1=x.2.2.2.2.2.2.1)) (some ())) (seqU (grdO (decide ((x.2.2.2.2.2.2.1.length:Int)=(x.2.2.2.2.2.2.1.length:Int))) (some ())) (some ())))))))) (zAA (F144 (x.2.2.2.2.1)) fun y12 =>
      seqU (seqU (grdO (decide (v33++(y7++y8++y9)=v33++(y7++y8++y9))) (some ())) (seqU (grdO (decide (x.2.2.2.2.2.1=x.2.2.2.2.2.1)) (some ())) (seqU (grdO (decide ((x.2.2.2.2.2.1.length:Int)=(x.2.2.2.2.2.1.length:Int))) (some ())) (seqU (grdO (decide (x.2.2.2.2.2.1=x.2.2.2.2.2.1)) (some ())) (seqU (grdO (decide (x.2.2.2.2.2.2.1=x.2.2.2.2.2.2.1)) (some ())) (seqU (grdO (decide ((x.2.2.2.2.2.2.1.length:Int)=(x.2.2.2.2.2.2.1.length:Int))) (some ())) (some ()))))))) (grdO (decide (List.length y11+List.length y12≤9223372036854775807)) (zAA (F145 (x.2.2.2.2.2.1.length:Int)) fun y13 =>
      seqU (seqU (grdO (decide (v33++(y7++y8++y9)=v33++(y7++y8++y9))) (some ())) (seqU (grdO (decide (x.2.2.2.2.2.1=x.2.2.2.2.2.1)) (some ())) (seqU (grdO (decide (x.2.2.2.2.2.2.1=x.2.2.2.2.2.2.1)) (some ())) (seqU (grdO (decide ((x.2.2.2.2.2.2.1.length:Int)=(x.2.2.2.2.2.2.1.length:Int))) (some ())) (seqU (grdO (decide (List.length y11+List.length y12≤9223372036854775807)) (grdO (decide (y11++y12=y11++y12)) (some ()))) (some ())))))) (grdO (decide (List.length (y11++y12)+List.length y13≤9223372036854775807)) (grdO (decide (List.length (y11++y12++y13)+List.length (x.2.2.2.2.2.1)≤9223372036854775807)) (zAA (F144 (x.2.2.2.2.2.2.1.length:Int)) fun y14 =>
      seqU (seqU (grdO (decide (v33++(y7++y8++y9)=v33++(y7++y8++y9))) (some ())) (seqU (grdO (decide (x.2.2.2.2.2.1=x.2.2.2.2.2.1)) (some ())) (seqU (grdO (decide (List.length y11+List.length y12≤9223372036854775807)) (grdO (decide (y11++y12=y11++y12)) (some ()))) (seqU (grdO (decide (List.length (y11++y12)+List.length y13≤9223372036854775807)) (grdO (decide (y11++y12++y13=y11++y12++y13)) (some ()))) (seqU (grdO (decide (List.length (y11++y12++y13)+List.length (x.2.2.2.2.2.1)≤9223372036854775807)) (grdO (decide (y11++y12++y13++x.2.2.2.2.2.1=y11++y12++y13++x.2.2.2.2.2.1)) (some ()))) (some ())))))) (grdO (decide (List.length (y11++y12++y13++x.2.2.2.2.2.1)+List.length y14≤9223372036854775807)) (grdO (decide (List.length (v33++(y7++y8++y9))+List.length (y11++y12++y13++x.2.2.2.2.2.1++y14)≤9223372036854775807)) (bindE (Y:=List UInt8×List Mth×Int×Int×Mth) (zAF (fun (v34,v1271,v1281,v1291,v172,v173,v174,o03,o13,o23,o33,o43,o53,o63,o7) =>
        cndO (decide (v174<v173))
         (grdO (decide (0≤v174)) (atO (v172) v174.toNat fun x1=>zAA (F145 (x1.1)) fun y15 =>
         seqU (seqU (grdO (decide (v34=v34)) (some ())) (seqU (grdO (decide (x1.2.1=x1.2.1)) (some ())) (seqU (grdO (decide (x1.2.2.1=x1.2.2.1)) (some ())) (seqU (grdO (decide (x1.2.2.2=x1.2.2.2)) (some ())) (some ()))))) (zAA (F145 (x1.2.1)) fun y16 =>
         seqU (seqU (grdO (decide (v34=v34)) (some ())) (seqU (grdO (decide (x1.2.2.1=x1.2.2.1)) (some ())) (seqU (grdO (decide (x1.2.2.2=x1.2.2.2)) (some ())) (some ())))) (grdO (decide (List.length y15+List.length y16≤9223372036854775807)) (zAA (F145 (x1.2.2.1)) fun y17 =>
         seqU (seqU (grdO (decide (v34=v34)) (some ())) (seqU (grdO (decide (x1.2.2.2=x1.2.2.2)) (some ())) (seqU (grdO (decide (List.length y15+List.length y16≤9223372036854775807)) (grdO (decide (y15++y16=y15++y16)) (some ()))) (some ())))) (grdO (decide (List.length (y15++y16)+List.length y17≤9223372036854775807)) (zAA (F145 (x1.2.2.2)) fun y18 =>
         seqU (seqU (grdO (decide (v34=v34)) (some ())) (seqU (grdO (decide (List.length y15+List.length y16≤9223372036854775807)) (grdO (decide (y15++y16=y15++y16)) (some ()))) (seqU (grdO (decide (List.length (y15++y16)+List.length y17≤9223372036854775807)) (grdO (decide (y15++y16++y17=y15++y16++y17)) (some ()))) (some ())))) (grdO (decide (List.length (y15++y16++y17)+List.length y18≤9223372036854775807)) (grdO (decide (List.length v34+List.length (y15++y16++y17++y18)≤9223372036854775807)) (some (Sum.inl (v34++(y15++y16++y17++y18),v1271,v1281,v1291,v172,v173,IntKind.wrap .i64 (v174+1),o03,o13,o23,o33,o43,o53,o63,o7))))))))))))
         (some (Sum.inr (Sum.inl (v34,v1271,v1281,v1291,o03,o13,o23,o33,o43,o53,o63,o7))))) ((v33++(y7++y8++y9)++(y11++y12++y13++x.2.2.2.2.2.1++y14),v127,v128,v129,x.2.2.2.2.2.2.1,(x.2.2.2.2.2.2.1.length:Int),(0:Int),x.1,x.2.1,x.2.2.1,x.2.2.2.1,x.2.2.2.2.1,x.2.2.2.2.2.1,x.2.2.2.2.2.2.1,x.2.2.2.2.2.2.2))) fun (v34,v1271,v1281,v1291,o03,o13,o23,o33,o43,o53,o63,o7) =>
      zAA (F144 (o7.length:Int)) fun y15 =>
      grdO (decide (List.length v34+List.length y15≤9223372036854775807)) (bindE (Y:=List UInt8×List Mth×Int×Int) (zAF (fun (v35,v1272,v1282,v1292,v203,v204,v205) =>
        cndO (decide (v205<v204))
         (grdO (decide (0≤v205)) (atO (v203) v205.toNat fun x1=>zAA (F145 (x1.1)) fun y16 =>
         seqU (seqU (grdO (decide (v35=v35)) (some ())) (seqU (grdO (decide (x1.2.1=x1.2.1)) (some ())) (seqU (grdO (decide (x1.2.2=x1.2.2)) (some ())) (some ())))) (zAA (F146 (x1.2.1)) fun y17 =>
         seqU (seqU (grdO (decide (v35=v35)) (some ())) (seqU (grdO (decide (x1.2.2=x1.2.2)) (some ())) (some ()))) (grdO (decide (List.length y16+List.length y17≤9223372036854775807)) (zAA (F146 (x1.2.2)) fun y18 =>
         seqU (seqU (grdO (decide (v35=v35)) (some ())) (seqU (grdO (decide (List.length y16+List.length y17≤9223372036854775807)) (grdO (decide (y16++y17=y16++y17)) (some ()))) (some ()))) (grdO (decide (List.length (y16++y17)+List.length y18≤9223372036854775807)) (grdO (decide (List.length v35+List.length (y16++y17++y18)≤9223372036854775807)) (some (Sum.inl (v35++(y16++y17++y18),v1272,v1282,v1292,v203,v204,IntKind.wrap .i64 (v205+1)))))))))))
         (some (Sum.inr (Sum.inl (v35,v1272,v1282,v1292))))) ((v34++y15,v1271,v1281,v1291,o7,(o7.length:Int),(0:Int)))) fun (v35,v1272,v1282,v1292) =>
      some (Sum.inl (v35,v1272,v1282,v1292))))))))))))))))))))) fun (v34,v1271,v1281,v1291) =>
    some (Sum.inl (v34,v1271,v1281,IntKind.wrap .i64 (v1291+1))))
    (some (Sum.inr (Sum.inl v33)))) ((v32++y6,o62,(o62.length:Int),(0:Int)))) fun v33 =>
 some (v33))))))))))))
theorem r67 x:funT T tb146 tp67 225 tv67 (zAD Tryz.f67) ti67 to67 x=F67 x:=by kernel_rfl
def te67:=mkE 67 true [] ti67 to67 F67 [.tmp 2] 225 []
def tb67:=insT 67 te67 tb146
theorem ok67:TbOk Tryz.prog tb67:=okI ok146 tp67 tv67 Tryz.func67 rfl Tryz.results67 Tryz.ntmps67 (by kernel_rfl) (by kernel_rfl) Tryz.call67 r67
abbrev ti147:SPat:=⟨[(0,.sl tg27),(1,.sl tg27)],[]⟩
abbrev to147:SPat:=⟨[(4,.b)],[]⟩
abbrev ts147_4:SPat:=⟨[(0,.sl tg27),(1,.sl tg27),(12,.i .i64),(13,.i .i64)],[]⟩
abbrev zLi:SPat:=⟨[],[]⟩
def tv147:Nat→Option SPat:=fun k=>bif k == 4 then some ts147_4 else bif k == 2000000 then some zLi else none
def tp147:Nat→List Nat×Plan:=fun id=>bif id == 6 then ([0,1,2,3,4,5,6,7,8],.fin) else ([],.fin)
def F147:List Cst×List Cst→Option (Bool):=fun (s1,s2) =>
 cndO (!decide ((s1.length:Int)=(s2.length:Int)))
  (some (false))
  (bindE (zAF (fun (s11,s21,v12,v13) =>
    cndO (decide (v13<v12))
     (grdO (decide (0≤v13)) (atO (s11) v13.toNat fun x=>grdO (decide (0≤v13)) (atO (s21) v13.toNat fun x1=>cndO (!(decide (x.1=x1.1) && (decide (x.2.1=x1.2.1) && (decide (x.2.2.1=x1.2.2.1) && (decide (x.2.2.2=x1.2.2.2) && true)))))
      (some (Sum.inr (Sum.inr false)))
      (some (Sum.inl (s11,s21,v12,IntKind.wrap .i64 (v13+1)))))))
     (some (Sum.inr (Sum.inl ())))) ((s1,s2,(s1.length:Int),(0:Int)))) fun _ =>
  some (true))
theorem r147 x:funT T tb67 tp147 26 tv147 (zAD Tryz.f147) ti147 to147 x=F147 x:=by kernel_rfl
def te147:=mkE 147 true [] ti147 to147 F147 [.tmp 4] 26 []
def tb147:=insT 147 te147 tb67
theorem ok147:TbOk Tryz.prog tb147:=okI ok67 tp147 tv147 Tryz.func147 rfl Tryz.results147 Tryz.ntmps147 (by kernel_rfl) (by kernel_rfl) Tryz.call147 r147
abbrev ti148:SPat:=⟨[(0,.sl (.int .i64)),(1,.sl (.int .i64))],[]⟩
abbrev to148:SPat:=⟨[(4,.b)],[]⟩
abbrev ts148_4:SPat:=⟨[(0,.sl (.int .i64)),(1,.sl (.int .i64)),(12,.i .i64),(13,.i .i64)],[]⟩
abbrev zLh:SPat:=⟨[],[]⟩
def tv148:Nat→Option SPat:=fun k=>bif k == 4 then some ts148_4 else bif k == 2000000 then some zLh else none
def tp148:Nat→List Nat×Plan:=fun id=>bif id == 6 then ([0,1,2,3,4,5,6,7,8],.fin) else ([],.fin)
def F148:List Int×List Int→Option (Bool):=fun (s1,s2) =>
 cndO (!decide ((s1.length:Int)=(s2.length:Int)))
  (some (false))
  (bindE (zAF (fun (s11,s21,v12,v13) =>
    cndO (decide (v13<v12))
     (grdO (decide (0≤v13)) (atO (s11) v13.toNat fun x=>grdO (decide (0≤v13)) (atO (s21) v13.toNat fun x1=>cndO (!decide (x=x1))
      (some (Sum.inr (Sum.inr false)))
      (some (Sum.inl (s11,s21,v12,IntKind.wrap .i64 (v13+1)))))))
     (some (Sum.inr (Sum.inl ())))) ((s1,s2,(s1.length:Int),(0:Int)))) fun _ =>
  some (true))
theorem r148 x:funT T tb147 tp148 26 tv148 (zAD Tryz.f148) ti148 to148 x=F148 x:=by kernel_rfl
def te148:=mkE 148 true [] ti148 to148 F148 [.tmp 4] 26 []
def tb148:=insT 148 te148 tb147
theorem ok148:TbOk Tryz.prog tb148:=okI ok147 tp148 tv148 Tryz.func148 rfl Tryz.results148 Tryz.ntmps148 (by kernel_rfl) (by kernel_rfl) Tryz.call148 r148
abbrev ti149:SPat:=⟨[(0,.sl tg89),(1,.sl tg89)],[]⟩
abbrev to149:SPat:=⟨[(4,.b)],[]⟩
abbrev ts149_4:SPat:=⟨[(0,.sl tg89),(1,.sl tg89),(12,.i .i64),(13,.i .i64)],[]⟩
abbrev zLg:SPat:=⟨[],[]⟩
def tv149:Nat→Option SPat:=fun k=>bif k == 4 then some ts149_4 else bif k == 2000000 then some zLg else none
def tp149:Nat→List Nat×Plan:=fun id=>bif id == 6 then ([0,1,2,3,4,5,6,7,8],.fin) else ([],.fin)
def F149:List (Int×Int×Int)×List (Int×Int×Int)→Option (Bool):=fun (s1,s2) =>
 cndO (!decide ((s1.length:Int)=(s2.length:Int)))
  (some (false))
  (bindE (zAF (fun (s11,s21,v12,v13) =>
    cndO (decide (v13<v12))
     (grdO (decide (0≤v13)) (atO (s11) v13.toNat fun x=>grdO (decide (0≤v13)) (atO (s21) v13.toNat fun x1=>cndO (!(decide (x.1=x1.1) && (decide (x.2.1=x1.2.1) && (decide (x.2.2=x1.2.2) && true))))
      (some (Sum.inr (Sum.inr false)))
      (some (Sum.inl (s11,s21,v12,IntKind.wrap .i64 (v13+1)))))))
     (some (Sum.inr (Sum.inl ())))) ((s1,s2,(s1.length:Int),(0:Int)))) fun _ =>
  some (true))
theorem r149 x:funT T tb148 tp149 26 tv149 (zAD Tryz.f149) ti149 to149 x=F149 x:=by kernel_rfl
def te149:=mkE 149 true [] ti149 to149 F149 [.tmp 4] 26 []
def tb149:=insT 149 te149 tb148
theorem ok149:TbOk Tryz.prog tb149:=okI ok148 tp149 tv149 Tryz.func149 rfl Tryz.results149 Tryz.ntmps149 (by kernel_rfl) (by kernel_rfl) Tryz.call149 r149
abbrev ti224:SPat:=⟨[(0,.sl zCq),(1,.sl zCq)],[]⟩
abbrev to224:SPat:=⟨[(4,.b)],[]⟩
abbrev ts224_4:SPat:=⟨[(0,.sl zCq),(1,.sl zCq),(12,.i .i64),(13,.i .i64)],[]⟩
abbrev zKk:SPat:=⟨[],[]⟩
def tv224:Nat→Option SPat:=fun k=>bif k == 4 then some ts224_4 else bif k == 2000000 then some zKk else none
def tp224:Nat→List Nat×Plan:=fun id=>bif id == 6 then ([0,1,2,3,4,5,6,7,8],.fin) else ([],.fin)
def F224:List (Int×Int×Int×Int)×List (Int×Int×Int×Int)→Option (Bool):=fun (s1,s2) =>
 cndO (!decide ((s1.length:Int)=(s2.length:Int)))
  (some (false))
  (bindE (zAF (fun (s11,s21,v12,v13) =>
    cndO (decide (v13<v12))
     (grdO (decide (0≤v13)) (atO (s11) v13.toNat fun x=>grdO (decide (0≤v13)) (atO (s21) v13.toNat fun x1=>cndO (!(decide (x.1=x1.1) && (decide (x.2.1=x1.2.1) && (decide (x.2.2.1=x1.2.2.1) && (decide (x.2.2.2=x1.2.2.2) && true)))))
      (some (Sum.inr (Sum.inr false)))
      (some (Sum.inl (s11,s21,v12,IntKind.wrap .i64 (v13+1)))))))
     (some (Sum.inr (Sum.inl ())))) ((s1,s2,(s1.length:Int),(0:Int)))) fun _ =>
  some (true))
theorem r224 x:funT T tb149 tp224 26 tv224 (zAD Tryz.f224) ti224 to224 x=F224 x:=by kernel_rfl
def te224:=mkE 224 true [] ti224 to224 F224 [.tmp 4] 26 []
def tb224:=insT 224 te224 tb149
theorem ok224:TbOk Tryz.prog tb224:=okI ok149 tp224 tv224 Tryz.func224 rfl Tryz.results224 Tryz.ntmps224 (by kernel_rfl) (by kernel_rfl) Tryz.call224 r224
end Go.Proofs.YtdpapeledldifaaGreat
end
