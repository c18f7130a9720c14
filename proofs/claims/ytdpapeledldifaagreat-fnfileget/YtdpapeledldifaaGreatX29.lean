/- Part 30 of the proof that the law FnFileGet holds of every input; no condition. -/
import Derived.Test.YtdpapeledldifaaGreatX28
set_option autoImplicit true
set_option relaxedAutoImplicit true
set_option linter.all false
noncomputable section
namespace Go.Proofs.YtdpapeledldifaaGreat
open Go Go.AM Go.TM
open Go.Proofs.Tryz
open Sum (inl inr)
set_option maxRecDepth 100000
set_option maxHeartbeats 4000000
abbrev ti60:SPat:=⟨[(0,.ptr 100000 0)],[.box 100000 (pl [.s,.b])]⟩
abbrev to60:SPat:=⟨[(2,.ptr 2 0)],[.box 2 (pl [.i .i64,.s,.i .i64,.i .i64]),.box 100000 (pl [.s,.b])]⟩
abbrev zNO:SPat:=⟨[(0,.ptr 100000 0),(2,.ptr 2 0),(3,.ptr 3 0),(24,.b)],[.box 2 (pl [.i .i64,.s,.i .i64,.i .i64]),.box 3 (pl [.i .i64,.s,.i .i64,.i .i64]),.box 100000 (pl [.s,.b])]⟩
abbrev zNN:SPat:=⟨[(2,.ptr 2 0),(3,.ptr 3 0)],[.box 2 (pl [.i .i64,.s,.i .i64,.i .i64]),.box 3 (pl [.i .i64,.s,.i .i64,.i .i64]),.box 100000 (pl [.s,.b])]⟩
def tv60:Nat→Option SPat:=fun k=>bif k == 1000012 then some zNO else bif k == 2000000 then some zNN else none
def F60:List UInt8×Bool→Option ((Cst)×List UInt8×Bool):=fun (o0,o1) =>
 zAA (F59 (o0,o1)) fun (y,y1,y2) =>
 bindE (Y:=(Cst)×(Cst)×List UInt8×Bool) (cndO (decide (y=1))
 (zAA (F59 (y1,y2)) fun (y3,y4,y5) =>
 zAA (F57 (y3,y4,y5)) fun (y6,y7,y8) =>
 some (inl (((0:Int),[],(0:Int),(0:Int)),(y,y6,(0:Int),(0:Int)),y7,y8)))
 (cndO (decide (y=2))
 (zAA (F61 (y1,y2)) fun (y3,y4,y5) =>
 some (inl (((0:Int),[],(0:Int),(0:Int)),(y,[],y3,(0:Int)),y4,y5)))
 (bindE (Y:=Bool×(Cst)×(Cst)×List UInt8×Bool) (cndO (decide (y=3))
 (some (inl (true,((0:Int),[],(0:Int),(0:Int)),(y,[],(0:Int),(0:Int)),y1,y2)))
 (cndO (decide (y=4))
 (some (inl (true,((0:Int),[],(0:Int),(0:Int)),(y,[],(0:Int),(0:Int)),y1,y2)))
 (cndO (decide (y=5))
 (some (inl (true,((0:Int),[],(0:Int),(0:Int)),(y,[],(0:Int),(0:Int)),y1,y2)))
 (some (inl (decide (y=6),((0:Int),[],(0:Int),(0:Int)),(y,[],(0:Int),(0:Int)),y1,y2)))))) fun (v24,(o01,o11,o2,o3),(o02,o12,o21,o31),o03,o13) =>
 cndO (v24)
 (zAA (F61 (o03,o13)) fun (y3,y4,y5) =>
 zAA (F61 (y4,y5)) fun (y6,y7,y8) =>
 some (inl ((o01,o11,o2,o3),(o02,o12,y3,y6),y7,y8)))
 (some (inl ((o01,o11,o2,o3),(o02,o12,o21,o31),o03,true)))))) fun ((o01,o11,o2,o3),(o02,o12,o21,o31),o03,o13) =>
 some (((o02,o12,o21,o31),o03,o13))
def tb60:=insT 60 (mkE 60 false [(0,[])] ti60 to60 F60 [.cell 2 27] 36 [100000]) tb61
theorem ok60:TbOk Tryz.prog tb60:=okI ok61 noPl tv60 func60 rfl call60
abbrev ti86:SPat:=⟨[(0,.i .i64)],[]⟩
abbrev to86:SPat:=⟨[(2,.b)],[]⟩
def F86:Int→Option (Bool):=fun flags =>
 some (!decide (andI IntKind.i64 flags (8:Int)=0))
def tb86:=insT 86 (mkE 86 true [] ti86 to86 F86 [.tmp 2] 6 []) tb60
theorem ok86:TbOk Tryz.prog tb86:=okI ok60 noPl noIv func86 rfl call86
abbrev ti141:SPat:=⟨[(0,.ptr 100000 0)],[.box 100000 (pl [.s,.b])]⟩
abbrev to141:SPat:=⟨[(2,.own zBB true)],[.box 100000 (pl [.s,.b])]⟩
abbrev ts141_3:SPat:=⟨[(0,.ptr 100000 0),(3,.own zBB true),(4,.i .i64)],[.box 100000 (pl [.s,.b])]⟩
abbrev zLk:SPat:=⟨[(0,.ptr 100000 0),(3,.own zBB true),(4,.i .i64)],[.box 100000 (pl [.s,.b])]⟩
abbrev zLj:SPat:=⟨[(3,.own zBB true)],[.box 100000 (pl [.s,.b])]⟩
abbrev zLi:SPat:=⟨[(0,.ptr 100000 0),(3,.own zBB true),(4,.i .i64)],[.box 100000 (pl [.s,.b])]⟩
def tv141:Nat→Option SPat:=fun k=>bif k == 3 then some ts141_3 else bif k == 1000005 then some zLk else bif k == 2000000 then some zLj else bif k == 2000001 then some zLi else none
def F141:List UInt8×Bool→Option (List (Int×Int)×List UInt8×Bool):=fun (o0,o1) =>
 zAA (F59 (o0,o1)) fun (y,y1,y2) =>
 zAA (F58 (y,(8:Int),y1,y2)) fun (y3,y4,y5) =>
 bindE (Y:=List (Int×Int)×List UInt8×Bool) (zAE (fun (out,n,o01,o11) =>
 bindE (Y:=List (Int×Int)×Int×List UInt8×Bool) (cndO (decide (0<n))
 (cndO (!o11)
 (some (inl (out,n,o01,o11)))
 (some (inr (inr (inl (out,o01,o11))))))
 (some (inr (inr (inl (out,o01,o11)))))) fun (out1,n1,o02,o12) =>
 bindE (Y:=List (Int×Int)×Int×List UInt8×Bool) (zAA (F59 (o02,o12)) fun (y6,y7,y8) =>
 zAA (F58 (y6,(3:Int),y7,y8)) fun (y9,y10,y11) =>
 cndO (decide (y9=3))
 (zAA (F61 (y10,y11)) fun (y12,y13,y14) =>
 grdO (decide (List.length out1+1≤9223372036854775807) && decide ((List.length out1+1)*16≤140737488355328)) (some (inl (out1++[(y9,y12)],n1,y13,y14))))
 (grdO (decide (List.length out1+1≤9223372036854775807) && decide ((List.length out1+1)*16≤140737488355328)) (some (inl (out1++[(y9,(0:Int))],n1,y10,y11))))) fun (out2,n2,o03,o13) =>
 some (inl (out2,IntKind.wrap .i64 (n2 - 1),o03,o13))) (([],y3,y4,y5))) fun (out,o01,o11) =>
 some ((out,o01,o11))
def tb141:=insT 141 (mkE 141 false [(0,[])] ti141 to141 F141 [.tmp 2] 37 [100000]) tb86
theorem ok141:TbOk Tryz.prog tb141:=okI ok86 noPl tv141 func141 rfl call141
abbrev ti62:SPat:=⟨[(0,.ptr 100000 0)],[.box 100000 (pl [.s,.b])]⟩
abbrev to62:SPat:=⟨[(2,.ptr 2 0)],[.box 2 (pl plN),.box 100000 (pl [.s,.b])]⟩
abbrev ts62_10:SPat:=⟨[(0,.ptr 100000 0),(2,.ptr 2 0),(3,.ptr 3 0),(4,.i .i64)],[.box 2 (pl plN),.box 3 (pl plN),.box 100000 (pl [.s,.b])]⟩
abbrev ts62_18:SPat:=⟨[(0,.ptr 100000 0),(2,.ptr 2 0),(3,.ptr 3 0),(6,.i .i64)],[.box 2 (pl plN),.box 3 (pl plN),.box 100000 (pl [.s,.b])]⟩
abbrev zNM:SPat:=⟨[(0,.ptr 100000 0),(2,.ptr 2 0),(3,.ptr 3 0),(4,.i .i64)],[.box 2 (pl plN),.box 3 (pl plN),.box 100000 (pl [.s,.b])]⟩
abbrev zNL:SPat:=⟨[(0,.ptr 100000 0),(2,.ptr 2 0),(3,.ptr 3 0),(6,.i .i64)],[.box 2 (pl plN),.box 3 (pl plN),.box 100000 (pl [.s,.b])]⟩
abbrev zNK:SPat:=⟨[(0,.ptr 100000 0),(2,.ptr 2 0),(3,.ptr 3 0)],[.box 2 (pl plN),.box 3 (pl plN),.box 100000 (pl [.s,.b])]⟩
abbrev zNJ:SPat:=⟨[(2,.ptr 2 0),(3,.ptr 3 0)],[.box 2 (pl plN),.box 3 (pl plN),.box 100000 (pl [.s,.b])]⟩
def tv62:Nat→Option SPat:=fun k=>bif k == 10 then some ts62_10 else bif k == 18 then some ts62_18 else bif k == 1000012 then some zNM else bif k == 1000020 then some zNL else bif k == 2000000 then some zNK else bif k == 2000002 then some zNJ else none
def F62:List UInt8×Bool→Option ((Mth)×List UInt8×Bool):=fun (o0,o1) =>
 zAA (F59 (o0,o1)) fun (y,y1,y2) =>
 zAA (F61 (y1,y2)) fun (y3,y4,y5) =>
 zAA (F61 (y4,y5)) fun (y6,y7,y8) =>
 zAA (F86 y) fun y9 =>
 cndO (y9)
 (some (((y,y3,y6,(0:Int),(0:Int),[],[],[]),y7,y8)))
 (zAA (F59 (y7,y8)) fun (y10,y11,y12) =>
 zAA (F59 (y11,y12)) fun (y13,y14,y15) =>
 zAA (F61 (y14,y15)) fun (y16,y17,y18) =>
 zAA (F58 (y16,(120:Int),y17,y18)) fun (y19,y20,y21) =>
 zAA (F57 (y19,y20,y21)) fun (y22,y23,y24) =>
 zAA (F59 (y23,y24)) fun (y25,y26,y27) =>
 zAA (F58 (y25,(3:Int),y26,y27)) fun (y28,y29,y30) =>
 bindE (Y:=(Mth)×(Mth)×List UInt8×Bool) (zAE (fun (v4,(o01,o11,o2,o3,o4,o5,o6,o7),(o02,o12,o21,o31,o41,o51,o61,o71),o03,o13) =>
 bindE (Y:=Int×(Mth)×(Mth)×List UInt8×Bool) (cndO (decide (0<v4))
 (cndO (!o13)
 (some (inl (v4,(o01,o11,o2,o3,o4,o5,o6,o7),(o02,o12,o21,o31,o41,o51,o61,o71),o03,o13)))
 (some (inr (inr (inl ((o01,o11,o2,o3,o4,o5,o6,o7),(o02,o12,o21,o31,o41,o51,o61,o71),o03,o13))))))
 (some (inr (inr (inl ((o01,o11,o2,o3,o4,o5,o6,o7),(o02,o12,o21,o31,o41,o51,o61,o71),o03,o13)))))) fun (v41,(o04,o14,o22,o32,o42,o52,o62,o72),(o05,o15,o23,o33,o43,o53,o63,o73),o06,o16) =>
 zAA (F61 (o06,o16)) fun (y31,y32,y33) =>
 zAA (F61 (y32,y33)) fun (y34,y35,y36) =>
 zAA (F61 (y35,y36)) fun (y37,y38,y39) =>
 zAA (F61 (y38,y39)) fun (y40,y41,y42) =>
 grdO (decide (List.length o63+1≤9223372036854775807) && decide ((List.length o63+1)*32≤140737488355328)) (some (inl (IntKind.wrap .i64 (v41 - 1),(o04,o14,o22,o32,o42,o52,o62,o72),(o05,o15,o23,o33,o43,o53,o63++[(y31,y34,y37,y40)],o73),y41,y42)))) ((y28,((0:Int),(0:Int),(0:Int),(0:Int),(0:Int),[],[],[]),(y,y3,y6,y10,y13,y22,[],[]),y29,y30))) fun ((o01,o11,o2,o3,o4,o5,o6,o7),(o02,o12,o21,o31,o41,o51,o61,o71),o03,o13) =>
 zAA (F59 (o03,o13)) fun (y31,y32,y33) =>
 zAA (F58 (y31,(8:Int),y32,y33)) fun (y34,y35,y36) =>
 bindE (Y:=(Mth)×(Mth)×List UInt8×Bool) (zAE (fun (v6,(o04,o14,o22,o32,o42,o52,o62,o72),(o05,o15,o23,o33,o43,o53,o63,o73),o06,o16) =>
 bindE (Y:=Int×(Mth)×(Mth)×List UInt8×Bool) (cndO (decide (0<v6))
 (cndO (!o16)
 (some (inl (v6,(o04,o14,o22,o32,o42,o52,o62,o72),(o05,o15,o23,o33,o43,o53,o63,o73),o06,o16)))
 (some (inr (inr (inl ((o04,o14,o22,o32,o42,o52,o62,o72),(o05,o15,o23,o33,o43,o53,o63,o73),o06,o16))))))
 (some (inr (inr (inl ((o04,o14,o22,o32,o42,o52,o62,o72),(o05,o15,o23,o33,o43,o53,o63,o73),o06,o16)))))) fun (v61,(o07,o17,o24,o34,o44,o54,o64,o74),(o08,o18,o25,o35,o45,o55,o65,o75),o09,o19) =>
 zAA (F61 (o09,o19)) fun (y37,y38,y39) =>
 zAA (F141 (y38,y39)) fun (y40,y41,y42) =>
 zAA (F141 (y41,y42)) fun (y43,y44,y45) =>
 grdO (decide (List.length o75+1≤9223372036854775807) && decide ((List.length o75+1)*56≤140737488355328)) (some (inl (IntKind.wrap .i64 (v61 - 1),(o07,o17,o24,o34,o44,o54,o64,o74),(o08,o18,o25,o35,o45,o55,o65,o75++[(y37,y40,y43)]),y44,y45)))) ((y34,(o01,o11,o2,o3,o4,o5,o6,o7),(o02,o12,o21,o31,o41,o51,o61,o71),y35,y36))) fun ((o04,o14,o22,o32,o42,o52,o62,o72),(o05,o15,o23,o33,o43,o53,o63,o73),o06,o16) =>
 some (((o05,o15,o23,o33,o43,o53,o63,o73),o06,o16)))
def tb62:=insT 62 (mkE 62 false [(0,[])] ti62 to62 F62 [.cell 2 53] 98 [100000]) tb141
theorem ok62:TbOk Tryz.prog tb62:=okI ok141 noPl tv62 func62 rfl call62
abbrev ti17:SPat:=⟨[(0,.s)],[]⟩
abbrev to17:SPat:=⟨[(2,.ptr 2 0),(3,.b)],[.box 2 (pl plD)]⟩
abbrev ts17_8:SPat:=⟨[(2,.ptr 2 0),(4,.ptr 17 0),(5,.ptr 5 0),(6,.i .i64)],[.box 2 (pl plD),.box 5 (pl plD),.box 17 (pl [.s,.b])]⟩
abbrev ts17_15:SPat:=⟨[(2,.ptr 2 0),(4,.ptr 17 0),(5,.ptr 5 0),(7,.i .i64)],[.box 2 (pl plD),.box 5 (pl plD),.box 17 (pl [.s,.b])]⟩
abbrev ts17_19:SPat:=⟨[(2,.ptr 2 0),(4,.ptr 17 0),(5,.ptr 5 0),(8,.i .i64)],[.box 2 (pl plD),.box 5 (pl plD),.box 17 (pl [.s,.b])]⟩
abbrev ts17_26:SPat:=⟨[(2,.ptr 2 0),(4,.ptr 17 0),(5,.ptr 5 0),(10,.i .i64)],[.box 2 (pl plD),.box 5 (pl plD),.box 17 (pl [.s,.b])]⟩
abbrev zNk:SPat:=⟨[(2,.ptr 2 0),(4,.ptr 17 0),(5,.ptr 5 0),(6,.i .i64)],[.box 2 (pl plD),.box 5 (pl plD),.box 17 (pl [.s,.b])]⟩
abbrev zNj:SPat:=⟨[(2,.ptr 2 0),(4,.ptr 17 0),(5,.ptr 5 0),(7,.i .i64)],[.box 2 (pl plD),.box 5 (pl plD),.box 17 (pl [.s,.b])]⟩
abbrev zNi:SPat:=⟨[(2,.ptr 2 0),(4,.ptr 17 0),(5,.ptr 5 0),(8,.i .i64)],[.box 2 (pl plD),.box 5 (pl plD),.box 17 (pl [.s,.b])]⟩
abbrev zNh:SPat:=⟨[(2,.ptr 2 0),(4,.ptr 17 0),(5,.ptr 5 0),(10,.i .i64)],[.box 2 (pl plD),.box 5 (pl plD),.box 17 (pl [.s,.b])]⟩
abbrev zNg:SPat:=⟨[(2,.ptr 2 0),(4,.ptr 17 0),(5,.ptr 5 0)],[.box 2 (pl plD),.box 5 (pl plD),.box 17 (pl [.s,.b])]⟩
abbrev zNf:SPat:=⟨[(2,.ptr 2 0),(4,.ptr 17 0),(5,.ptr 5 0)],[.box 2 (pl plD),.box 5 (pl plD),.box 17 (pl [.s,.b])]⟩
abbrev zNe:SPat:=⟨[(2,.ptr 2 0),(4,.ptr 17 0),(5,.ptr 5 0)],[.box 2 (pl plD),.box 5 (pl plD),.box 17 (pl [.s,.b])]⟩
abbrev zNd:SPat:=⟨[(2,.ptr 2 0),(4,.ptr 17 0),(5,.ptr 5 0)],[.box 2 (pl plD),.box 5 (pl plD),.box 17 (pl [.s,.b])]⟩
def tv17:Nat→Option SPat:=fun k=>bif k == 8 then some ts17_8 else bif k == 15 then some ts17_15 else bif k == 19 then some ts17_19 else bif k == 26 then some ts17_26 else bif k == 1000010 then some zNk else bif k == 1000017 then some zNj else bif k == 1000021 then some zNi else bif k == 1000028 then some zNh else bif k == 2000000 then some zNg else bif k == 2000002 then some zNf else bif k == 2000004 then some zNe else bif k == 2000006 then some zNd else none
def tp17:Nat→List Nat×Plan:=fun id=>bif id == 10 then ([0,1,2],(.br 3 [2] [0,1] [] (.br 4 [3,2] [0,1] [] (.br 5 [4,3,2,1,0] [] [6] (.br 7 [6,5,4,3,2,1,0] [] [] .fin .fin) .fin) .fin) .fin)) else bif id == 17 then ([0,1,2],(.br 3 [2] [0,1] [] (.br 4 [3,2] [0,1] [] (.br 5 [4,3,2,1,0] [] [6] (.br 7 [6,5,4,3,2,1,0] [] [] .fin .fin) .fin) .fin) .fin)) else bif id == 28 then ([0,1,2],(.br 3 [2] [0,1] [] (.br 4 [3,2] [0,1] [] (.br 5 [4,3,2,1,0] [] [6] (.br 7 [6,5,4,3,2,1,0] [] [] .fin .fin) .fin) .fin) .fin)) else ([],.fin)
def F17:List UInt8→Option (Bool×Cls):=fun app =>
 cndO (decide (900<(app.length:Int)))
 (some ((false,[],(0:Int),(0:Int),(0:Int),[],[],[])))
 (zAA (F57 ((4:Int),app,false)) fun (y,y1,y2) =>
 cndO (!decide (y=[(83:UInt8),84,79,87]))
 (some ((false,[],(0:Int),(0:Int),(0:Int),[],[],[])))
 (zAA (F59 (y1,y2)) fun (y3,y4,y5) =>
 zAA (F58 (y3,(60:Int),y4,y5)) fun (y6,y7,y8) =>
 bindE (Y:=(Cls)×(Cls)×List UInt8×Bool) (zAE (fun (v6,(o0,o1,o2,o3,o4,o5,o6),(o01,o11,o21,o31,o41,o51,o61),o02,o12) =>
 bindE (Y:=Int×(Cls)×(Cls)×List UInt8×Bool) (cndO (decide (0<v6))
 (cndO (!o12)
 (some (inl (v6,(o0,o1,o2,o3,o4,o5,o6),(o01,o11,o21,o31,o41,o51,o61),o02,o12)))
 (some (inr (inr (inl ((o0,o1,o2,o3,o4,o5,o6),(o01,o11,o21,o31,o41,o51,o61),o02,o12))))))
 (some (inr (inr (inl ((o0,o1,o2,o3,o4,o5,o6),(o01,o11,o21,o31,o41,o51,o61),o02,o12)))))) fun (v61,(o03,o13,o22,o32,o42,o52,o62),(o04,o14,o23,o33,o43,o53,o63),o05,o15) =>
 zAA (F60 (o05,o15)) fun ((y9,y10,y11,y12),y13,y14) =>
 grdO (decide (List.length o04+1≤9223372036854775807) && decide ((List.length o04+1)*40≤140737488355328)) (some (inl (IntKind.wrap .i64 (v61 - 1),(o03,o13,o22,o32,o42,o52,o62),(o04++[(y9,y10,y11,y12)],o14,o23,o33,o43,o53,o63),y13,y14)))) ((y6,([],(0:Int),(0:Int),(0:Int),[],[],[]),([],(0:Int),(0:Int),(0:Int),[],[],[]),y7,y8))) fun ((o0,o1,o2,o3,o4,o5,o6),(o01,o11,o21,o31,o41,o51,o61),o02,o12) =>
 zAA (F59 (o02,o12)) fun (y9,y10,y11) =>
 zAA (F61 (y10,y11)) fun (y12,y13,y14) =>
 zAA (F61 (y13,y14)) fun (y15,y16,y17) =>
 zAA (F59 (y16,y17)) fun (y18,y19,y20) =>
 zAA (F58 (y18,(3:Int),y19,y20)) fun (y21,y22,y23) =>
 bindE (Y:=(Cls)×(Cls)×List UInt8×Bool) (zAE (fun (v7,(o03,o13,o22,o32,o42,o52,o62),(o04,o14,o23,o33,o43,o53,o63),o05,o15) =>
 bindE (Y:=Int×(Cls)×(Cls)×List UInt8×Bool) (cndO (decide (0<v7))
 (cndO (!o15)
 (some (inl (v7,(o03,o13,o22,o32,o42,o52,o62),(o04,o14,o23,o33,o43,o53,o63),o05,o15)))
 (some (inr (inr (inl ((o03,o13,o22,o32,o42,o52,o62),(o04,o14,o23,o33,o43,o53,o63),o05,o15))))))
 (some (inr (inr (inl ((o03,o13,o22,o32,o42,o52,o62),(o04,o14,o23,o33,o43,o53,o63),o05,o15)))))) fun (v71,(o06,o16,o24,o34,o44,o54,o64),(o07,o17,o25,o35,o45,o55,o65),o08,o18) =>
 zAA (F61 (o08,o18)) fun (y24,y25,y26) =>
 grdO (decide (List.length o45+1≤9223372036854775807) && decide ((List.length o45+1)*8≤140737488355328)) (some (inl (IntKind.wrap .i64 (v71 - 1),(o06,o16,o24,o34,o44,o54,o64),(o07,o17,o25,o35,o45++[y24],o55,o65),y25,y26)))) ((y21,(o0,o1,o2,o3,o4,o5,o6),(o01,y9,y12,y15,o41,o51,o61),y22,y23))) fun ((o03,o13,o22,o32,o42,o52,o62),(o04,o14,o23,o33,o43,o53,o63),o05,o15) =>
 zAA (F59 (o05,o15)) fun (y24,y25,y26) =>
 zAA (F58 (y24,(5:Int),y25,y26)) fun (y27,y28,y29) =>
 bindE (Y:=(Cls)×(Cls)×List UInt8×Bool) (zAE (fun (v8,(o06,o16,o24,o34,o44,o54,o64),(o07,o17,o25,o35,o45,o55,o65),o08,o18) =>
 bindE (Y:=Int×(Cls)×(Cls)×List UInt8×Bool) (cndO (decide (0<v8))
 (cndO (!o18)
 (some (inl (v8,(o06,o16,o24,o34,o44,o54,o64),(o07,o17,o25,o35,o45,o55,o65),o08,o18)))
 (some (inr (inr (inl ((o06,o16,o24,o34,o44,o54,o64),(o07,o17,o25,o35,o45,o55,o65),o08,o18))))))
 (some (inr (inr (inl ((o06,o16,o24,o34,o44,o54,o64),(o07,o17,o25,o35,o45,o55,o65),o08,o18)))))) fun (v81,(o09,o19,o26,o36,o46,o56,o66),(o010,o110,o27,o37,o47,o57,o67),o011,o111) =>
 zAA (F59 (o011,o111)) fun (y30,y31,y32) =>
 zAA (F61 (y31,y32)) fun (y33,y34,y35) =>
 zAA (F61 (y34,y35)) fun (y36,y37,y38) =>
 grdO (decide (List.length o57+1≤9223372036854775807) && decide ((List.length o57+1)*24≤140737488355328)) (some (inl (IntKind.wrap .i64 (v81 - 1),(o09,o19,o26,o36,o46,o56,o66),(o010,o110,o27,o37,o47,o57++[(y30,y33,y36)],o67),y37,y38)))) ((y27,(o03,o13,o22,o32,o42,o52,o62),(o04,o14,o23,o33,o43,o53,o63),y28,y29))) fun ((o06,o16,o24,o34,o44,o54,o64),(o07,o17,o25,o35,o45,o55,o65),o08,o18) =>
 zAA (F59 (o08,o18)) fun (y30,y31,y32) =>
 zAA (F58 (y30,(6:Int),y31,y32)) fun (y33,y34,y35) =>
 bindE (Y:=(Cls)×(Cls)×List UInt8×Bool) (zAE (fun (v10,(o09,o19,o26,o36,o46,o56,o66),(o010,o110,o27,o37,o47,o57,o67),o011,o111) =>
 bindE (Y:=Int×(Cls)×(Cls)×List UInt8×Bool) (cndO (decide (0<v10))
 (cndO (!o111)
 (some (inl (v10,(o09,o19,o26,o36,o46,o56,o66),(o010,o110,o27,o37,o47,o57,o67),o011,o111)))
 (some (inr (inr (inl ((o09,o19,o26,o36,o46,o56,o66),(o010,o110,o27,o37,o47,o57,o67),o011,o111))))))
 (some (inr (inr (inl ((o09,o19,o26,o36,o46,o56,o66),(o010,o110,o27,o37,o47,o57,o67),o011,o111)))))) fun (v101,(o012,o112,o28,o38,o48,o58,o68),(o013,o113,o29,o39,o49,o59,o69),o014,o114) =>
 zAA (F62 (o014,o114)) fun ((y36,y37,y38,y39,y40,y41,x,x1),x2,x3) =>
 grdO (decide (List.length o69+1≤9223372036854775807) && decide ((List.length o69+1)*104≤140737488355328)) (some (inl (IntKind.wrap .i64 (v101 - 1),(o012,o112,o28,o38,o48,o58,o68),(o013,o113,o29,o39,o49,o59,o69++[(y36,y37,y38,y39,y40,y41,x,x1)]),x2,x3)))) ((y33,(o06,o16,o24,o34,o44,o54,o64),(o07,o17,o25,o35,o45,o55,o65),y34,y35))) fun ((o09,o19,o26,o36,o46,o56,o66),(o010,o110,o27,o37,o47,o57,o67),o011,o111) =>
 cndO (o111)
 (some ((false,[],(0:Int),(0:Int),(0:Int),[],[],[])))
 (cndO (!decide (o011=[]))
 (some ((false,[],(0:Int),(0:Int),(0:Int),[],[],[])))
 (some ((true,o010,o110,o27,o37,o47,o57,o67))))))
def tb17:=insT 17 (mkE 17 false [] ti17 to17 F17 [.cell 2 34,.tmp 3] 140 []) tb62
theorem ok17:TbOk Tryz.prog tb17:=okI ok62 tp17 tv17 func17 rfl call17
abbrev ti18:SPat:=⟨[(0,.s)],[]⟩
abbrev to18:SPat:=⟨[(2,.ptr 2 0),(3,.b)],[.box 2 (pl plD)]⟩
def F18:List UInt8→Option (Bool×Cls):=fun s =>
 zAA (F63 s) fun (y,y1,y2,y3,y4,y5,x,x1) =>
 some ((y,y1,y2,y3,y4,y5,x,x1))
def tb18:=insT 18 (mkE 18 false [] ti18 to18 F18 [.cell 2 34,.tmp 3] 8 []) tb17
theorem ok18:TbOk Tryz.prog tb18:=okI ok17 noPl noIv func18 rfl call18
abbrev ti64:SPat:=⟨[(0,.sl tg27),(1,.sl tg27)],[]⟩
abbrev to64:SPat:=⟨[(4,.b)],[]⟩
abbrev ts64_4:SPat:=⟨[(0,.sl tg27),(1,.sl tg27),(5,.i .i64)],[]⟩
abbrev zNI:SPat:=⟨[],[]⟩
def tv64:Nat→Option SPat:=fun k=>bif k == 4 then some ts64_4 else bif k == 2000000 then some zNI else none
def tp64:Nat→List Nat×Plan:=fun id=>bif id == 6 then ([0,1,2,3,4,5,6,7,8],.fin) else ([],.fin)
def F64:List Cst×List Cst→Option (Bool):=fun (a,b) =>
 cndO (!decide ((a.length:Int)=(b.length:Int)))
 (some (false))
 (bindE (zAE (fun (a1,b1,i) =>
 cndO (decide (i<(a1.length:Int)))
 (grdO (decide (0≤i)) (atO (a1) i.toNat fun x=>grdO (decide (0≤i)) (atO (b1) i.toNat fun x1=>cndO (!(decide (x.1=x1.1) && (decide (x.2.1=x1.2.1) && (decide (x.2.2.1=x1.2.2.1) && (decide (x.2.2.2=x1.2.2.2) && true)))))
 (some (inr (inr false)))
 (some (inl (a1,b1,IntKind.wrap .i64 (i+1)))))))
 (some (inr (inl ())))) ((a,b,(0:Int)))) fun _ =>
 some (true))
def tb64:=insT 64 (mkE 64 true [] ti64 to64 F64 [.tmp 4] 26 []) tb18
theorem ok64:TbOk Tryz.prog tb64:=okI ok18 tp64 tv64 func64 rfl call64
abbrev ti42:SPat:=⟨[(0,.sl (.int .i64)),(1,.sl (.int .i64))],[]⟩
abbrev to42:SPat:=⟨[(4,.b)],[]⟩
abbrev ts42_4:SPat:=⟨[(0,.sl (.int .i64)),(1,.sl (.int .i64)),(5,.i .i64)],[]⟩
abbrev zNZ:SPat:=⟨[],[]⟩
def tv42:Nat→Option SPat:=fun k=>bif k == 4 then some ts42_4 else bif k == 2000000 then some zNZ else none
def tp42:Nat→List Nat×Plan:=fun id=>bif id == 6 then ([0,1,2,3,4,5,6,7,8],.fin) else ([],.fin)
def F42:List Int×List Int→Option (Bool):=fun (a,b) =>
 cndO (!decide ((a.length:Int)=(b.length:Int)))
 (some (false))
 (bindE (zAE (fun (a1,b1,i) =>
 cndO (decide (i<(a1.length:Int)))
 (grdO (decide (0≤i)) (atO (a1) i.toNat fun x=>grdO (decide (0≤i)) (atO (b1) i.toNat fun x1=>cndO (!decide (x=x1))
 (some (inr (inr false)))
 (some (inl (a1,b1,IntKind.wrap .i64 (i+1)))))))
 (some (inr (inl ())))) ((a,b,(0:Int)))) fun _ =>
 some (true))
def tb42:=insT 42 (mkE 42 true [] ti42 to42 F42 [.tmp 4] 26 []) tb64
theorem ok42:TbOk Tryz.prog tb42:=okI ok64 tp42 tv42 func42 rfl call42
abbrev ti143:SPat:=⟨[(0,.sl zBB),(1,.sl zBB)],[]⟩
abbrev to143:SPat:=⟨[(4,.b)],[]⟩
abbrev ts143_4:SPat:=⟨[(0,.sl zBB),(1,.sl zBB),(5,.i .i64)],[]⟩
abbrev zLX:SPat:=⟨[],[]⟩
def tv143:Nat→Option SPat:=fun k=>bif k == 4 then some ts143_4 else bif k == 2000000 then some zLX else none
def tp143:Nat→List Nat×Plan:=fun id=>bif id == 6 then ([0,1,2,3,4,5,6,7,8],.fin) else ([],.fin)
def F143:List (Int×Int)×List (Int×Int)→Option (Bool):=fun (a,b) =>
 cndO (!decide ((a.length:Int)=(b.length:Int)))
 (some (false))
 (bindE (zAE (fun (a1,b1,i) =>
 cndO (decide (i<(a1.length:Int)))
 (grdO (decide (0≤i)) (atO (a1) i.toNat fun x=>grdO (decide (0≤i)) (atO (b1) i.toNat fun x1=>cndO (!(decide (x.1=x1.1) && (decide (x.2=x1.2) && true)))
 (some (inr (inr false)))
 (some (inl (a1,b1,IntKind.wrap .i64 (i+1)))))))
 (some (inr (inl ())))) ((a,b,(0:Int)))) fun _ =>
 some (true))
def tb143:=insT 143 (mkE 143 true [] ti143 to143 F143 [.tmp 4] 26 []) tb42
theorem ok143:TbOk Tryz.prog tb143:=okI ok42 tp143 tv143 func143 rfl call143
abbrev ti65:SPat:=⟨[(0,.agg (pl plM)),(1,.agg (pl plM))],[]⟩
abbrev to65:SPat:=⟨[(4,.b)],[]⟩
abbrev ts65_4:SPat:=⟨[(2,.ptr 2 0),(3,.ptr 3 0),(5,.i .i64)],[.box 2 (pl plM),.box 3 (pl plM)]⟩
abbrev ts65_9:SPat:=⟨[(2,.ptr 2 0),(3,.ptr 3 0),(6,.i .i64)],[.box 2 (pl plM),.box 3 (pl plM)]⟩
abbrev zNH:SPat:=⟨[(2,.ptr 2 0),(3,.ptr 3 0)],[.box 2 (pl plM),.box 3 (pl plM)]⟩
abbrev zNG:SPat:=⟨[(2,.ptr 2 0),(3,.ptr 3 0)],[.box 2 (pl plM),.box 3 (pl plM)]⟩
abbrev zNF:SPat:=⟨[],[]⟩
abbrev zNE:SPat:=⟨[(2,.ptr 2 0),(3,.ptr 3 0),(6,.i .i64)],[.box 2 (pl plM),.box 3 (pl plM)]⟩
def tv65:Nat→Option SPat:=fun k=>bif k == 4 then some ts65_4 else bif k == 9 then some ts65_9 else bif k == 1000003 then some zNH else bif k == 2000000 then some zNG else bif k == 2000002 then some zNF else bif k == 2000003 then some zNE else none
def tp65:Nat→List Nat×Plan:=fun id=>bif id == 6 then ([0,1,2,3,4,5,6,7,8,9,10],.fin) else bif id == 11 then ([0,1,2,3,4,5,6,7,8,9,10,11,12,13,14,15,16,17,18,19,20,21,22,23,24,25],(.br 26 [25,24,23,22,21,20,19,18,17,16,15,14,13,12,11,10,9,8,7,6,5,4,3,2,1,0] [] [27,28,29,30,31,32,33,34,35,36,37,38,39,40,41] (.br 42 [41,40,39,38,37,36,35,34,33,32,31,30,29,28,27,26,25,24,23,22,21,20,19,18,17,16,15,14,13,12,11,10,9,8,7,6,5,4,3,2,1,0] [] [43,44] .fin .fin) .fin)) else ([],.fin)
def F65:(Mth)×Mth→Option (Bool):=fun ((app0,app1,app2,app3,app4,app5,app6,app7),v10,v11,v12,v13,v14,v15,v16,v17) =>
 bindE (Y:=(Mth)×Mth) (cndO (!decide (app0=v10))
 (some (inr false))
 (cndO (!decide (app1=v11))
 (some (inr false))
 (cndO (!decide (app2=v12))
 (some (inr false))
 (cndO (!decide (app3=v13))
 (some (inr false))
 (cndO (!decide (app4=v14))
 (some (inr false))
 (cndO (!decide (app5=v15))
 (some (inr false))
 (cndO (!decide ((app6.length:Int)=(v16.length:Int)))
 (some (inr false))
 (cndO (!decide ((app7.length:Int)=(v17.length:Int)))
 (some (inr false))
 (some (inl ((app0,app1,app2,app3,app4,app5,app6,app7),v10,v11,v12,v13,v14,v15,v16,v17))))))))))) fun ((o0,o1,o2,o3,o4,o5,o6,o7),o01,o11,o21,o31,o41,o51,o61,o71) =>
 bindE (Y:=(Mth)×Mth) (zAE (fun (v5,(o02,o12,o22,o32,o42,o52,o62,o72),o03,o13,o23,o33,o43,o53,o63,o73) =>
 cndO (decide (v5<(o62.length:Int)))
 (grdO (decide (0≤v5)) (atO (o62) v5.toNat fun x=>grdO (decide (0≤v5)) (atO (o63) v5.toNat fun x1=>cndO (!(decide (x.1=x1.1) && (decide (x.2.1=x1.2.1) && (decide (x.2.2.1=x1.2.2.1) && (decide (x.2.2.2=x1.2.2.2) && true)))))
 (some (inr (inr false)))
 (some (inl (IntKind.wrap .i64 (v5+1),(o02,o12,o22,o32,o42,o52,o62,o72),o03,o13,o23,o33,o43,o53,o63,o73))))))
 (some (inr (inl ((o02,o12,o22,o32,o42,o52,o62,o72),o03,o13,o23,o33,o43,o53,o63,o73))))) (((0:Int),(o0,o1,o2,o3,o4,o5,o6,o7),o01,o11,o21,o31,o41,o51,o61,o71))) fun ((o02,o12,o22,o32,o42,o52,o62,o72),o03,o13,o23,o33,o43,o53,o63,o73) =>
 bindE (zAE (fun (v6,(o04,o14,o24,o34,o44,o54,o64,o74),o05,o15,o25,o35,o45,o55,o65,o75) =>
 cndO (decide (v6<(o74.length:Int)))
 (bindE (Y:=Int×(Mth)×Mth) (grdO (decide (0≤v6)) (atO (o74) v6.toNat fun x=>grdO (decide (0≤v6)) (atO (o75) v6.toNat fun x1=>cndO (!decide (x.1=x1.1))
 (some (inr (inr (inr false))))
 (grdO (decide (0≤v6)) (atO (o74) v6.toNat fun x2=>grdO (decide (0≤v6)) (atO (o75) v6.toNat fun x3=>zAA (F143 (x2.2.1,x3.2.1)) fun y =>
 cndO (!y)
 (some (inr (inr (inr false))))
 (grdO (decide (0≤v6)) (atO (o74) v6.toNat fun x4=>grdO (decide (0≤v6)) (atO (o75) v6.toNat fun x5=>zAA (F143 (x4.2.2,x5.2.2)) fun y1 =>
 cndO (!y1)
 (some (inr (inr (inr false))))
 (some (inl (v6,(o04,o14,o24,o34,o44,o54,o64,o74),o05,o15,o25,o35,o45,o55,o65,o75)))))))))))) fun (v61,(o06,o16,o26,o36,o46,o56,o66,o76),o07,o17,o27,o37,o47,o57,o67,o77) =>
 some (inl (IntKind.wrap .i64 (v61+1),(o06,o16,o26,o36,o46,o56,o66,o76),o07,o17,o27,o37,o47,o57,o67,o77)))
 (some (inr (inl ())))) (((0:Int),(o02,o12,o22,o32,o42,o52,o62,o72),o03,o13,o23,o33,o43,o53,o63,o73))) fun _ =>
 some (true)
def tb65:=insT 65 (mkE 65 true [] ti65 to65 F65 [.tmp 4] 135 []) tb143
theorem ok65:TbOk Tryz.prog tb65:=okI ok143 tp65 tv65 func65 rfl call65
abbrev ti19:SPat:=⟨[(0,.agg (pl plC)),(1,.agg (pl plC))],[]⟩
abbrev to19:SPat:=⟨[(4,.b)],[]⟩
abbrev ts19_4:SPat:=⟨[(2,.ptr 2 0),(3,.ptr 3 0),(5,.i .i64)],[.box 2 (pl plC),.box 3 (pl plC)]⟩
abbrev ts19_9:SPat:=⟨[(2,.ptr 2 0),(3,.ptr 3 0),(6,.i .i64)],[.box 2 (pl plC),.box 3 (pl plC)]⟩
abbrev zNc:SPat:=⟨[(2,.ptr 2 0),(3,.ptr 3 0)],[.box 2 (pl plC),.box 3 (pl plC)]⟩
abbrev zNb:SPat:=⟨[(2,.ptr 2 0),(3,.ptr 3 0)],[.box 2 (pl plC),.box 3 (pl plC)]⟩
abbrev zNa:SPat:=⟨[],[]⟩
def tv19:Nat→Option SPat:=fun k=>bif k == 4 then some ts19_4 else bif k == 9 then some ts19_9 else bif k == 1000003 then some zNc else bif k == 2000000 then some zNb else bif k == 2000002 then some zNa else none
def tp19:Nat→List Nat×Plan:=fun id=>bif id == 6 then ([0,1,2,3,4,5,6,7,8,9,10],.fin) else bif id == 11 then ([0,1,2,3,4,5,6,7,8,9],(.br 10 [9,8,7,6,5,4,3,2,1,0] [] [11] .fin .fin)) else ([],.fin)
def F19:(Cls)×Cls→Option (Bool):=fun ((app0,app1,app2,app3,app4,app5,app6),v10,v11,v12,v13,v14,v15,v16) =>
 bindE (Y:=(Cls)×Cls) (zAA (F64 (app0,v10)) fun y =>
 cndO (!y)
 (some (inr false))
 (cndO (!decide (app1=v11))
 (some (inr false))
 (cndO (!decide (app2=v12))
 (some (inr false))
 (cndO (!decide (app3=v13))
 (some (inr false))
 (zAA (F42 (app4,v14)) fun y1 =>
 cndO (!y1)
 (some (inr false))
 (cndO (!decide ((app5.length:Int)=(v15.length:Int)))
 (some (inr false))
 (cndO (!decide ((app6.length:Int)=(v16.length:Int)))
 (some (inr false))
 (some (inl ((app0,app1,app2,app3,app4,app5,app6),v10,v11,v12,v13,v14,v15,v16)))))))))) fun ((o0,o1,o2,o3,o4,o5,o6),o01,o11,o21,o31,o41,o51,o61) =>
 bindE (Y:=(Cls)×Cls) (zAE (fun (v5,(o02,o12,o22,o32,o42,o52,o62),o03,o13,o23,o33,o43,o53,o63) =>
 cndO (decide (v5<(o52.length:Int)))
 (grdO (decide (0≤v5)) (atO (o52) v5.toNat fun x=>grdO (decide (0≤v5)) (atO (o53) v5.toNat fun x1=>cndO (!(decide (x.1=x1.1) && (decide (x.2.1=x1.2.1) && (decide (x.2.2=x1.2.2) && true))))
 (some (inr (inr false)))
 (some (inl (IntKind.wrap .i64 (v5+1),(o02,o12,o22,o32,o42,o52,o62),o03,o13,o23,o33,o43,o53,o63))))))
 (some (inr (inl ((o02,o12,o22,o32,o42,o52,o62),o03,o13,o23,o33,o43,o53,o63))))) (((0:Int),(o0,o1,o2,o3,o4,o5,o6),o01,o11,o21,o31,o41,o51,o61))) fun ((o02,o12,o22,o32,o42,o52,o62),o03,o13,o23,o33,o43,o53,o63) =>
 bindE (zAE (fun (v6,(o04,o14,o24,o34,o44,o54,o64),o05,o15,o25,o35,o45,o55,o65) =>
 cndO (decide (v6<(o64.length:Int)))
 (grdO (decide (0≤v6)) (atO (o64) v6.toNat fun x=>grdO (decide (0≤v6)) (atO (o65) v6.toNat fun x1=>zAA (F65 ((x.1,x.2.1,x.2.2.1,x.2.2.2.1,x.2.2.2.2.1,x.2.2.2.2.2.1,x.2.2.2.2.2.2.1,x.2.2.2.2.2.2.2),x1.1,x1.2.1,x1.2.2.1,x1.2.2.2.1,x1.2.2.2.2.1,x1.2.2.2.2.2.1,x1.2.2.2.2.2.2.1,x1.2.2.2.2.2.2.2)) fun y =>
 cndO (!y)
 (some (inr (inr false)))
 (some (inl (IntKind.wrap .i64 (v6+1),(o04,o14,o24,o34,o44,o54,o64),o05,o15,o25,o35,o45,o55,o65))))))
 (some (inr (inl ())))) (((0:Int),(o02,o12,o22,o32,o42,o52,o62),o03,o13,o23,o33,o43,o53,o63))) fun _ =>
 some (true)
def tb19:=insT 19 (mkE 19 true [] ti19 to19 F19 [.tmp 4] 97 []) tb65
theorem ok19:TbOk Tryz.prog tb19:=okI ok65 tp19 tv19 func19 rfl call19
abbrev ti66:SPat:=⟨[(0,.agg (pl plC))],[]⟩
abbrev to66:SPat:=⟨[(2,.b)],[]⟩
abbrev ts66_4:SPat:=⟨[(1,.ptr 1 0),(32,.sl tg27),(33,.i .i64),(34,.i .i64)],[.box 1 (pl plC)]⟩
abbrev ts66_10:SPat:=⟨[(44,.sl tg53),(45,.i .i64),(46,.i .i64)],[]⟩
abbrev ts66_15:SPat:=⟨[(44,.sl tg53),(45,.i .i64),(46,.i .i64),(67,.sl zBZ),(68,.i .i64),(69,.i .i64)],[]⟩
abbrev zND:SPat:=⟨[(1,.ptr 1 0)],[.box 1 (pl plC)]⟩
abbrev zNC:SPat:=⟨[(6,.ptr 6 0),(44,.sl tg53),(45,.i .i64),(46,.i .i64)],[.box 6 (pl plM)]⟩
abbrev zNB:SPat:=⟨[(1,.ptr 1 0)],[.box 1 (pl plC)]⟩
abbrev zNA:SPat:=⟨[],[]⟩
abbrev zMz:SPat:=⟨[(44,.sl tg53),(45,.i .i64),(46,.i .i64)],[]⟩
abbrev zMy:SPat:=⟨[(44,.sl tg53),(45,.i .i64),(46,.i .i64)],[]⟩
abbrev zMx:SPat:=⟨[(44,.sl tg53),(45,.i .i64),(46,.i .i64),(67,.sl zBZ),(68,.i .i64),(69,.i .i64)],[]⟩
def tv66:Nat→Option SPat:=fun k=>bif k == 4 then some ts66_4 else bif k == 10 then some ts66_10 else bif k == 15 then some ts66_15 else bif k == 1000003 then some zND else bif k == 1000014 then some zNC else bif k == 2000000 then some zNB else bif k == 2000002 then some zNA else bif k == 2000003 then some zMz else bif k == 2000004 then some zMy else bif k == 2000005 then some zMx else none
def F66:Cls→Option (Bool):=fun (app0,app1,app2,app3,app4,app5,app6) =>
 bindE (Y:=Cls) (cndO (decide (60<(app0.length:Int)))
 (some (inr false))
 (cndO (decide (3<(app4.length:Int)))
 (some (inr false))
 (cndO (decide (5<(app5.length:Int)))
 (some (inr false))
 (cndO (decide (6<(app6.length:Int)))
 (some (inr false))
 (some (inl (app0,app1,app2,app3,app4,app5,app6))))))) fun (o0,o1,o2,o3,o4,o5,o6) =>
 bindE (Y:=Cls) (zAE (fun (v32,v33,v34,o01,o11,o21,o31,o41,o51,o61) =>
 cndO (decide (v34<v33))
 (grdO (decide (0≤v34)) (atO (v32) v34.toNat fun x=>cndO (decide (255<(x.2.1.length:Int)))
 (some (inr (inr false)))
 (some (inl (v32,v33,IntKind.wrap .i64 (v34+1),o01,o11,o21,o31,o41,o51,o61)))))
 (some (inr (inl (o01,o11,o21,o31,o41,o51,o61))))) ((o0,(o0.length:Int),(0:Int),o0,o1,o2,o3,o4,o5,o6))) fun (o01,o11,o21,o31,o41,o51,o61) =>
 bindE (zAE (fun (v44,v45,v46) =>
 cndO (decide (v46<v45))
 (bindE (Y:=List Mth×Int×Int) (grdO (decide (0≤v46)) (atO (v44) v46.toNat fun x=>bindE (Y:=List Mth×Int×Int×Mth) (cndO (decide (120<(x.2.2.2.2.2.1.length:Int)))
 (some (inr (inr (inr (inr false)))))
 (cndO (decide (3<(x.2.2.2.2.2.2.1.length:Int)))
 (some (inr (inr (inr (inr false)))))
 (cndO (decide (8<(x.2.2.2.2.2.2.2.length:Int)))
 (some (inr (inr (inr (inr false)))))
 (some (inl (v44,v45,v46,x.1,x.2.1,x.2.2.1,x.2.2.2.1,x.2.2.2.2.1,x.2.2.2.2.2.1,x.2.2.2.2.2.2.1,x.2.2.2.2.2.2.2)))))) fun (v441,v451,v461,o02,o12,o22,o32,o42,o52,o62,o7) =>
 bindE (Y:=List Mth×Int×Int) (zAE (fun (v442,v452,v462,v67,v68,v69) =>
 cndO (decide (v69<v68))
 (bindE (Y:=List Mth×Int×Int×List Frm×Int×Int) (grdO (decide (0≤v69)) (atO (v67) v69.toNat fun x1=>cndO (decide (8<(x1.2.1.length:Int)))
 (some (inr (inr (inr (inr (inr (inr false)))))))
 (cndO (decide (8<(x1.2.2.length:Int)))
 (some (inr (inr (inr (inr (inr (inr false)))))))
 (some (inl (v442,v452,v462,v67,v68,v69)))))) fun (v443,v453,v463,v671,v681,v691) =>
 some (inl (v443,v453,v463,v671,v681,IntKind.wrap .i64 (v691+1))))
 (some (inr (inl (v442,v452,v462))))) ((v441,v451,v461,o7,(o7.length:Int),(0:Int)))) fun (v442,v452,v462) =>
 some (inl (v442,v452,v462)))) fun (v441,v451,v461) =>
 some (inl (v441,v451,IntKind.wrap .i64 (v461+1))))
 (some (inr (inl ())))) ((o61,(o61.length:Int),(0:Int)))) fun _ =>
 some (true)
def tb66:=insT 66 (mkE 66 true [] ti66 to66 F66 [.tmp 2] 85 []) tb19
theorem ok66:TbOk Tryz.prog tb66:=okI ok19 noPl tv66 func66 rfl call66
abbrev ti144:SPat:=⟨[(0,.i .i64)],[]⟩
abbrev to144:SPat:=⟨[(2,.s)],[]⟩
def F144:Int→Option (List UInt8):=fun n =>
 grdO (decide (0≤IntKind.wrap .u8 n) && decide (IntKind.wrap .u8 n≤255)) (some ([UInt8.ofNat (Int.toNat (IntKind.wrap .u8 n))]))
def tb144:=insT 144 (mkE 144 true [] ti144 to144 F144 [.tmp 2] 7 []) tb66
theorem ok144:TbOk Tryz.prog tb144:=okI ok66 noPl noIv func144 rfl call144
abbrev ti145:SPat:=⟨[(0,.i .i64)],[]⟩
abbrev to145:SPat:=⟨[(2,.s)],[]⟩
def F145:Int→Option (List UInt8):=fun n =>
 zAA (F144 (Int.fdiv n (256:Int))) fun y =>
 zAA (F144 n) fun y1 =>
 grdO (decide (List.length y+List.length y1≤9223372036854775807)) (some (y++y1))
def tb145:=insT 145 (mkE 145 true [] ti145 to145 F145 [.tmp 2] 9 []) tb144
theorem ok145:TbOk Tryz.prog tb145:=okI ok144 noPl noIv func145 rfl call145
abbrev ti146:SPat:=⟨[(0,.sl zBB)],[]⟩
abbrev to146:SPat:=⟨[(2,.s)],[]⟩
abbrev ts146_3:SPat:=⟨[(3,.s),(9,.sl zBB),(10,.i .i64),(11,.i .i64)],[]⟩
abbrev zLW:SPat:=⟨[(3,.s)],[]⟩
abbrev zLV:SPat:=⟨[(3,.s),(9,.sl zBB),(10,.i .i64),(11,.i .i64)],[]⟩
def tv146:Nat→Option SPat:=fun k=>bif k == 3 then some ts146_3 else bif k == 2000000 then some zLW else bif k == 2000001 then some zLV else none
def F146:List (Int×Int)→Option (List UInt8):=fun list =>
 zAA (F144 (list.length:Int)) fun y =>
 bindE (Y:=List UInt8) (zAE (fun (out,v9,v10,v11) =>
 cndO (decide (v11<v10))
 (bindE (Y:=List UInt8×List (Int×Int)×Int×Int) (grdO (decide (0≤v11)) (atO (v9) v11.toNat fun x=>zAA (F144 (x.1)) fun y1 =>
 grdO (decide (List.length out+List.length y1≤9223372036854775807)) (cndO (decide (x.1=3))
 (zAA (F145 (x.2)) fun y2 =>
 grdO (decide (List.length (out++y1)+List.length y2≤9223372036854775807)) (some (inl (out++y1++y2,v9,v10,v11))))
 (some (inl (out++y1,v9,v10,v11)))))) fun (out1,v91,v101,v111) =>
 some (inl (out1,v91,v101,IntKind.wrap .i64 (v111+1))))
 (some (inr (inl out)))) ((y,list,(list.length:Int),(0:Int)))) fun out =>
 some (out)
def tb146:=insT 146 (mkE 146 true [] ti146 to146 F146 [.tmp 2] 30 []) tb145
theorem ok146:TbOk Tryz.prog tb146:=okI ok145 noPl tv146 func146 rfl call146
abbrev ti67:SPat:=⟨[(0,.agg (pl plC))],[]⟩
abbrev to67:SPat:=⟨[(2,.s)],[]⟩
abbrev ts67_3:SPat:=⟨[(1,.ptr 1 0),(3,.s),(22,.sl tg27),(23,.i .i64),(24,.i .i64)],[.box 1 (pl plC)]⟩
abbrev ts67_15:SPat:=⟨[(1,.ptr 1 0),(3,.s),(82,.sl (.int .i64)),(83,.i .i64),(84,.i .i64)],[.box 1 (pl plC)]⟩
abbrev ts67_21:SPat:=⟨[(1,.ptr 1 0),(3,.s),(100,.sl tg89),(101,.i .i64),(102,.i .i64)],[.box 1 (pl plC)]⟩
abbrev ts67_27:SPat:=⟨[(3,.s),(127,.sl tg53),(128,.i .i64),(129,.i .i64)],[]⟩
abbrev ts67_33:SPat:=⟨[(3,.s),(11,.ptr 11 0),(127,.sl tg53),(128,.i .i64),(129,.i .i64),(172,.sl zCp),(173,.i .i64),(174,.i .i64)],[.box 11 (pl plM)]⟩
abbrev ts67_39:SPat:=⟨[(3,.s),(127,.sl tg53),(128,.i .i64),(129,.i .i64),(203,.sl zBZ),(204,.i .i64),(205,.i .i64)],[]⟩
abbrev zMw:SPat:=⟨[(1,.ptr 1 0),(3,.s)],[.box 1 (pl plC)]⟩
abbrev zMv:SPat:=⟨[(1,.ptr 1 0),(3,.s),(22,.sl tg27),(23,.i .i64),(24,.i .i64)],[.box 1 (pl plC)]⟩
abbrev zMu:SPat:=⟨[(1,.ptr 1 0),(3,.s)],[.box 1 (pl plC)]⟩
abbrev zMt:SPat:=⟨[(1,.ptr 1 0),(3,.s)],[.box 1 (pl plC)]⟩
abbrev zMs:SPat:=⟨[(3,.s)],[]⟩
abbrev zMr:SPat:=⟨[(3,.s),(127,.sl tg53),(128,.i .i64),(129,.i .i64)],[]⟩
abbrev zMq:SPat:=⟨[(3,.s),(11,.ptr 11 0),(127,.sl tg53),(128,.i .i64),(129,.i .i64)],[.box 11 (pl plM)]⟩
abbrev zMp:SPat:=⟨[(3,.s),(127,.sl tg53),(128,.i .i64),(129,.i .i64)],[]⟩
def tv67:Nat→Option SPat:=fun k=>bif k == 3 then some ts67_3 else bif k == 15 then some ts67_15 else bif k == 21 then some ts67_21 else bif k == 27 then some ts67_27 else bif k == 33 then some ts67_33 else bif k == 39 then some ts67_39 else bif k == 2000000 then some zMw else bif k == 2000002 then some zMv else bif k == 2000003 then some zMu else bif k == 2000005 then some zMt else bif k == 2000007 then some zMs else bif k == 2000008 then some zMr else bif k == 2000009 then some zMq else bif k == 2000011 then some zMp else none
def tp67:Nat→List Nat×Plan:=fun id=>bif id == 9 then ([0,1,2,3,5,6],(.br 4 [3,2,1] [0,5,6] [7,8] (.br 9 [8,7,6,5,4,3,2,1,0] [] [] .fin .fin) .fin)) else bif id == 7 then ([0,1,2,4,5],(.br 3 [2,1] [0,4,5] [] (.br 6 [5,4,3,2,1] [0] [7,8] (.br 9 [8,7,6,5,4,3,2,1,0] [] [] .fin .fin) .fin) .fin)) else bif id == 13 then ([0,1,2,4,5,8,9,12,13,14],(.br 3 [2,1] [0,4,5,8,9,12,13,14] [] (.br 6 [5,4,3,2,1] [0,8,9,12,13,14] [7] (.br 10 [9,8,6,5,4,3,2,1] [0,12,13,14,7] [11] (.br 15 [14,13,12,10,9,8,6,5,4,3,2,1] [0,7,11] [16,17] (.br 18 [17,16,15,14,13,12,11,10,9,8,7,6,5,4,3,2,1,0] [] [] .fin .fin) .fin) .fin) .fin) .fin)) else bif id == 23 then ([0,1,2,4,5,8,9],(.br 3 [2,1] [0,4,5,8,9] [] (.br 6 [5,4,3,2,1] [0,8,9] [7] (.br 10 [9,8,6,5,4,3,2,1] [0,7] [11,12] (.br 13 [12,11,10,9,8,7,6,5,4,3,2,1,0] [] [] .fin .fin) .fin) .fin) .fin)) else bif id == 29 then ([0,1,2,4,5,8,9],(.br 3 [2,1] [0,4,5,8,9] [] (.br 6 [5,4,3,2,1] [0,8,9] [7] (.br 10 [9,8,6,5,4,3,2,1] [0,7] [11,12] (.br 13 [12,11,10,9,8,7,6,5,4,3,2,1,0] [] [] .fin .fin) .fin) .fin) .fin)) else bif id == 31 then ([0,1,2,4,5,8,9,10,13,14,16,17,18],(.br 3 [2,1] [0,4,5,8,9,10,13,14,16,17,18] [] (.br 6 [5,4,3,2,1] [0,8,9,10,13,14,16,17,18] [7] (.br 11 [10,9,8,6,5,4,3,2,1] [0,13,14,16,17,18,7] [12,15] (.br 19 [18,17,16,11,10,9,8,6,5,4,3,2,1] [0,13,14,7,12,15] [20,21] (.br 22 [21,20,19,18,17,16,15,14,13,12,11,10,9,8,7,6,5,4,3,2,1,0] [] [] .fin .fin) .fin) .fin) .fin) .fin)) else bif id == 35 then ([0,1,2,4,5,8,9,12,13],(.br 3 [2,1] [0,4,5,8,9,12,13] [] (.br 6 [5,4,3,2,1] [0,8,9,12,13] [7] (.br 10 [9,8,6,5,4,3,2,1] [0,12,13,7] [11] (.br 14 [13,12,10,9,8,6,5,4,3,2,1] [0,7,11] [15,16] (.br 17 [16,15,14,13,12,11,10,9,8,7,6,5,4,3,2,1,0] [] [] .fin .fin) .fin) .fin) .fin) .fin)) else bif id == 41 then ([0,1,2,4,5,8,9],(.br 3 [2,1] [0,4,5,8,9] [] (.br 6 [5,4,3,2,1] [0,8,9] [7] (.br 10 [9,8,6,5,4,3,2,1] [0,7] [11,12] (.br 13 [12,11,10,9,8,7,6,5,4,3,2,1,0] [] [] .fin .fin) .fin) .fin) .fin)) else ([],.fin)
def F67:Cls→Option (List UInt8):=fun (app0,app1,app2,app3,app4,app5,app6) =>
 zAA (F144 (app0.length:Int)) fun y =>
 grdO (decide ((4:Nat)+List.length y≤9223372036854775807)) (bindE (Y:=List UInt8×Cls) (zAE (fun (v3,v22,v23,v24,o0,o1,o2,o3,o4,o5,o6) =>
 cndO (decide (v24<v23))
 (grdO (decide (0≤v24)) (atO (v22) v24.toNat fun x=>zAA (F144 (x.1)) fun y1 =>
 grdO (decide (List.length v3+List.length y1≤9223372036854775807)) (bindE (Y:=List UInt8×List Cst×Int×Int×Cls) (cndO (decide (x.1=1))
 (zAA (F144 (x.2.1.length:Int)) fun y2 =>
 seqU (seqU (grdO (decide (v3++y1=v3++y1)) (some ())) (seqU (grdO (decide (x.2.1=x.2.1)) (some ())) (some ()))) (grdO (decide (List.length y2+List.length (x.2.1)≤9223372036854775807)) (grdO (decide (List.length (v3++y1)+List.length (y2++x.2.1)≤9223372036854775807)) (some (inl (v3++y1++(y2++x.2.1),v22,v23,v24,o0,o1,o2,o3,o4,o5,o6))))))
 (cndO (decide (x.1=2))
 (zAA (F145 (x.2.2.1)) fun y2 =>
 grdO (decide (List.length (v3++y1)+List.length y2≤9223372036854775807)) (some (inl (v3++y1++y2,v22,v23,v24,o0,o1,o2,o3,o4,o5,o6))))
 (zAA (F145 (x.2.2.1)) fun y2 =>
 seqU (seqU (grdO (decide (v3++y1=v3++y1)) (some ())) (seqU (grdO (decide (x.2.2.2=x.2.2.2)) (some ())) (some ()))) (zAA (F145 (x.2.2.2)) fun y3 =>
 seqU (seqU (grdO (decide (v3++y1=v3++y1)) (some ())) (some ())) (grdO (decide (List.length y2+List.length y3≤9223372036854775807)) (grdO (decide (List.length (v3++y1)+List.length (y2++y3)≤9223372036854775807)) (some (inl (v3++y1++(y2++y3),v22,v23,v24,o0,o1,o2,o3,o4,o5,o6))))))))) fun (v31,v221,v231,v241,o01,o11,o21,o31,o41,o51,o61) =>
 some (inl (v31,v221,v231,IntKind.wrap .i64 (v241+1),o01,o11,o21,o31,o41,o51,o61)))))
 (some (inr (inl (v3,o0,o1,o2,o3,o4,o5,o6))))) (([(83:UInt8),84,79,87]++y,app0,(app0.length:Int),(0:Int),app0,app1,app2,app3,app4,app5,app6))) fun (v3,o0,o1,o2,o3,o4,o5,o6) =>
 zAA (F144 o1) fun y1 =>
 seqU (seqU (grdO (decide (v3=v3)) (some ())) (seqU (grdO (decide (o2=o2)) (some ())) (seqU (grdO (decide (o3=o3)) (some ())) (seqU (grdO (decide (o4=o4)) (some ())) (seqU (grdO (decide ((o4.length:Int)=(o4.length:Int))) (some ())) (some ())))))) (zAA (F145 o2) fun y2 =>
 seqU (seqU (grdO (decide (v3=v3)) (some ())) (seqU (grdO (decide (o3=o3)) (some ())) (seqU (grdO (decide (o4=o4)) (some ())) (seqU (grdO (decide ((o4.length:Int)=(o4.length:Int))) (some ())) (some ()))))) (grdO (decide (List.length y1+List.length y2≤9223372036854775807)) (zAA (F145 o3) fun y3 =>
 seqU (seqU (grdO (decide (v3=v3)) (some ())) (seqU (grdO (decide (o4=o4)) (some ())) (seqU (grdO (decide ((o4.length:Int)=(o4.length:Int))) (some ())) (seqU (grdO (decide (List.length y1+List.length y2≤9223372036854775807)) (grdO (decide (y1++y2=y1++y2)) (some ()))) (some ()))))) (grdO (decide (List.length (y1++y2)+List.length y3≤9223372036854775807)) (zAA (F144 (o4.length:Int)) fun y4 =>
 seqU (seqU (grdO (decide (v3=v3)) (some ())) (seqU (grdO (decide (List.length y1+List.length y2≤9223372036854775807)) (grdO (decide (y1++y2=y1++y2)) (some ()))) (seqU (grdO (decide (List.length (y1++y2)+List.length y3≤9223372036854775807)) (grdO (decide (y1++y2++y3=y1++y2++y3)) (some ()))) (some ())))) (grdO (decide (List.length (y1++y2++y3)+List.length y4≤9223372036854775807)) (grdO (decide (List.length v3+List.length (y1++y2++y3++y4)≤9223372036854775807)) (bindE (Y:=List UInt8×Cls) (zAE (fun (v31,v82,v83,v84,o01,o11,o21,o31,o41,o51,o61) =>
 cndO (decide (v84<v83))
 (grdO (decide (0≤v84)) (atO (v82) v84.toNat fun x=>zAA (F145 x) fun y5 =>
 grdO (decide (List.length v31+List.length y5≤9223372036854775807)) (some (inl (v31++y5,v82,v83,IntKind.wrap .i64 (v84+1),o01,o11,o21,o31,o41,o51,o61)))))
 (some (inr (inl (v31,o01,o11,o21,o31,o41,o51,o61))))) ((v3++(y1++y2++y3++y4),o4,(o4.length:Int),(0:Int),o0,o1,o2,o3,o4,o5,o6))) fun (v31,o01,o11,o21,o31,o41,o51,o61) =>
 zAA (F144 (o51.length:Int)) fun y5 =>
 grdO (decide (List.length v31+List.length y5≤9223372036854775807)) (bindE (Y:=List UInt8×Cls) (zAE (fun (v32,v100,v101,v102,o02,o12,o22,o32,o42,o52,o62) =>
 cndO (decide (v102<v101))
 (grdO (decide (0≤v102)) (atO (v100) v102.toNat fun x=>zAA (F144 (x.1)) fun y6 =>
 seqU (seqU (grdO (decide (v32=v32)) (some ())) (seqU (grdO (decide (x.2.1=x.2.1)) (some ())) (seqU (grdO (decide (x.2.2=x.2.2)) (some ())) (some ())))) (zAA (F145 (x.2.1)) fun y7 =>
 seqU (seqU (grdO (decide (v32=v32)) (some ())) (seqU (grdO (decide (x.2.2=x.2.2)) (some ())) (some ()))) (grdO (decide (List.length y6+List.length y7≤9223372036854775807)) (zAA (F145 (x.2.2)) fun y8 =>
 seqU (seqU (grdO (decide (v32=v32)) (some ())) (seqU (grdO (decide (List.length y6+List.length y7≤9223372036854775807)) (grdO (decide (y6++y7=y6++y7)) (some ()))) (some ()))) (grdO (decide (List.length (y6++y7)+List.length y8≤9223372036854775807)) (grdO (decide (List.length v32+List.length (y6++y7++y8)≤9223372036854775807)) (some (inl (v32++(y6++y7++y8),v100,v101,IntKind.wrap .i64 (v102+1),o02,o12,o22,o32,o42,o52,o62))))))))))
 (some (inr (inl (v32,o02,o12,o22,o32,o42,o52,o62))))) ((v31++y5,o51,(o51.length:Int),(0:Int),o01,o11,o21,o31,o41,o51,o61))) fun (v32,o02,o12,o22,o32,o42,o52,o62) =>
 zAA (F144 (o62.length:Int)) fun y6 =>
 grdO (decide (List.length v32+List.length y6≤9223372036854775807)) (bindE (Y:=List UInt8) (zAE (fun (v33,v127,v128,v129) =>
 cndO (decide (v129<v128))
 (bindE (Y:=List UInt8×List Mth×Int×Int) (grdO (decide (0≤v129)) (atO (v127) v129.toNat fun x=>zAA (F144 (x.1)) fun y7 =>
 seqU (seqU (grdO (decide (v33=v33)) (some ())) (seqU (grdO (decide (x.2.1=x.2.1)) (some ())) (seqU (grdO (decide (x.2.2.1=x.2.2.1)) (some ())) (some ())))) (zAA (F145 (x.2.1)) fun y8 =>
 seqU (seqU (grdO (decide (v33=v33)) (some ())) (seqU (grdO (decide (x.2.2.1=x.2.2.1)) (some ())) (some ()))) (grdO (decide (List.length y7+List.length y8≤9223372036854775807)) (zAA (F145 (x.2.2.1)) fun y9 =>
 seqU (seqU (grdO (decide (v33=v33)) (some ())) (seqU (grdO (decide (List.length y7+List.length y8≤9223372036854775807)) (grdO (decide (y7++y8=y7++y8)) (some ()))) (some ()))) (grdO (decide (List.length (y7++y8)+List.length y9≤9223372036854775807)) (grdO (decide (List.length v33+List.length (y7++y8++y9)≤9223372036854775807)) (zAA (F86 (x.1)) fun y10 =>
 cndO (y10)
 (some (inl (v33++(y7++y8++y9),v127,v128,v129)))
 (zAA (F144 (x.2.2.2.1)) fun y11 =>
 seqU (seqU (grdO (decide (v33++(y7++y8++y9)=v33++(y7++y8++y9))) (some ())) (seqU (grdO (decide (x.2.2.2.2.1=x.2.2.2.2.1)) (some ())) (seqU (grdO (decide (x.2.2.2.2.2.1=x.2.2.2.2.2.1)) (some ())) (seqU (grdO (decide ((x.2.2.2.2.2.1.length:Int)=(x.2.2.2.2.2.1.length:Int))) (some ())) (seqU (grdO (decide (x.2.2.2.2.2.1=x.2.2.2.2.2.1)) (some ())) (seqU (grdO (decide (x.2.2.2.2.2.2.1=x.2.2.2.2.2.2.1)) (some ())) (seqU (grdO (decide ((x.2.2.2.2.2.2.1.length:Int)=(x.2.2.2.2.2.2.1.length:Int))) (some ())) (some ())))))))) (zAA (F144 (x.2.2.2.2.1)) fun y12 =>
 seqU (seqU (grdO (decide (v33++(y7++y8++y9)=v33++(y7++y8++y9))) (some ())) (seqU (grdO (decide (x.2.2.2.2.2.1=x.2.2.2.2.2.1)) (some ())) (seqU (grdO (decide ((x.2.2.2.2.2.1.length:Int)=(x.2.2.2.2.2.1.length:Int))) (some ())) (seqU (grdO (decide (x.2.2.2.2.2.1=x.2.2.2.2.2.1)) (some ())) (seqU (grdO (decide (x.2.2.2.2.2.2.1=x.2.2.2.2.2.2.1)) (some ())) (seqU (grdO (decide ((x.2.2.2.2.2.2.1.length:Int)=(x.2.2.2.2.2.2.1.length:Int))) (some ())) (some ()))))))) (grdO (decide (List.length y11+List.length y12≤9223372036854775807)) (zAA (F145 (x.2.2.2.2.2.1.length:Int)) fun y13 =>
 seqU (seqU (grdO (decide (v33++(y7++y8++y9)=v33++(y7++y8++y9))) (some ())) (seqU (grdO (decide (x.2.2.2.2.2.1=x.2.2.2.2.2.1)) (some ())) (seqU (grdO (decide (x.2.2.2.2.2.2.1=x.2.2.2.2.2.2.1)) (some ())) (seqU (grdO (decide ((x.2.2.2.2.2.2.1.length:Int)=(x.2.2.2.2.2.2.1.length:Int))) (some ())) (seqU (grdO (decide (List.length y11+List.length y12≤9223372036854775807)) (grdO (decide (y11++y12=y11++y12)) (some ()))) (some ())))))) (grdO (decide (List.length (y11++y12)+List.length y13≤9223372036854775807)) (grdO (decide (List.length (y11++y12++y13)+List.length (x.2.2.2.2.2.1)≤9223372036854775807)) (zAA (F144 (x.2.2.2.2.2.2.1.length:Int)) fun y14 =>
 seqU (seqU (grdO (decide (v33++(y7++y8++y9)=v33++(y7++y8++y9))) (some ())) (seqU (grdO (decide (x.2.2.2.2.2.1=x.2.2.2.2.2.1)) (some ())) (seqU (grdO (decide (List.length y11+List.length y12≤9223372036854775807)) (grdO (decide (y11++y12=y11++y12)) (some ()))) (seqU (grdO (decide (List.length (y11++y12)+List.length y13≤9223372036854775807)) (grdO (decide (y11++y12++y13=y11++y12++y13)) (some ()))) (seqU (grdO (decide (List.length (y11++y12++y13)+List.length (x.2.2.2.2.2.1)≤9223372036854775807)) (grdO (decide (y11++y12++y13++x.2.2.2.2.2.1=y11++y12++y13++x.2.2.2.2.2.1)) (some ()))) (some ())))))) (grdO (decide (List.length (y11++y12++y13++x.2.2.2.2.2.1)+List.length y14≤9223372036854775807)) (grdO (decide (List.length (v33++(y7++y8++y9))+List.length (y11++y12++y13++x.2.2.2.2.2.1++y14)≤9223372036854775807)) (bindE (Y:=List UInt8×List Mth×Int×Int×Mth) (zAE (fun (v34,v1271,v1281,v1291,v172,v173,v174,o03,o13,o23,o33,o43,o53,o63,o7) =>
 cndO (decide (v174<v173))
 (grdO (decide (0≤v174)) (atO (v172) v174.toNat fun x1=>zAA (F145 (x1.1)) fun y15 =>
 seqU (seqU (grdO (decide (v34=v34)) (some ())) (seqU (grdO (decide (x1.2.1=x1.2.1)) (some ())) (seqU (grdO (decide (x1.2.2.1=x1.2.2.1)) (some ())) (seqU (grdO (decide (x1.2.2.2=x1.2.2.2)) (some ())) (some ()))))) (zAA (F145 (x1.2.1)) fun y16 =>
 seqU (seqU (grdO (decide (v34=v34)) (some ())) (seqU (grdO (decide (x1.2.2.1=x1.2.2.1)) (some ())) (seqU (grdO (decide (x1.2.2.2=x1.2.2.2)) (some ())) (some ())))) (grdO (decide (List.length y15+List.length y16≤9223372036854775807)) (zAA (F145 (x1.2.2.1)) fun y17 =>
 seqU (seqU (grdO (decide (v34=v34)) (some ())) (seqU (grdO (decide (x1.2.2.2=x1.2.2.2)) (some ())) (seqU (grdO (decide (List.length y15+List.length y16≤9223372036854775807)) (grdO (decide (y15++y16=y15++y16)) (some ()))) (some ())))) (grdO (decide (List.length (y15++y16)+List.length y17≤9223372036854775807)) (zAA (F145 (x1.2.2.2)) fun y18 =>
 seqU (seqU (grdO (decide (v34=v34)) (some ())) (seqU (grdO (decide (List.length y15+List.length y16≤9223372036854775807)) (grdO (decide (y15++y16=y15++y16)) (some ()))) (seqU (grdO (decide (List.length (y15++y16)+List.length y17≤9223372036854775807)) (grdO (decide (y15++y16++y17=y15++y16++y17)) (some ()))) (some ())))) (grdO (decide (List.length (y15++y16++y17)+List.length y18≤9223372036854775807)) (grdO (decide (List.length v34+List.length (y15++y16++y17++y18)≤9223372036854775807)) (some (inl (v34++(y15++y16++y17++y18),v1271,v1281,v1291,v172,v173,IntKind.wrap .i64 (v174+1),o03,o13,o23,o33,o43,o53,o63,o7))))))))))))
 (some (inr (inl (v34,v1271,v1281,v1291,o03,o13,o23,o33,o43,o53,o63,o7))))) ((v33++(y7++y8++y9)++(y11++y12++y13++x.2.2.2.2.2.1++y14),v127,v128,v129,x.2.2.2.2.2.2.1,(x.2.2.2.2.2.2.1.length:Int),(0:Int),x.1,x.2.1,x.2.2.1,x.2.2.2.1,x.2.2.2.2.1,x.2.2.2.2.2.1,x.2.2.2.2.2.2.1,x.2.2.2.2.2.2.2))) fun (v34,v1271,v1281,v1291,o03,o13,o23,o33,o43,o53,o63,o7) =>
 zAA (F144 (o7.length:Int)) fun y15 =>
 grdO (decide (List.length v34+List.length y15≤9223372036854775807)) (bindE (Y:=List UInt8×List Mth×Int×Int) (zAE (fun (v35,v1272,v1282,v1292,v203,v204,v205) =>
 cndO (decide (v205<v204))
 (grdO (decide (0≤v205)) (atO (v203) v205.toNat fun x1=>zAA (F145 (x1.1)) fun y16 =>
 seqU (seqU (grdO (decide (v35=v35)) (some ())) (seqU (grdO (decide (x1.2.1=x1.2.1)) (some ())) (seqU (grdO (decide (x1.2.2=x1.2.2)) (some ())) (some ())))) (zAA (F146 (x1.2.1)) fun y17 =>
 seqU (seqU (grdO (decide (v35=v35)) (some ())) (seqU (grdO (decide (x1.2.2=x1.2.2)) (some ())) (some ()))) (grdO (decide (List.length y16+List.length y17≤9223372036854775807)) (zAA (F146 (x1.2.2)) fun y18 =>
 seqU (seqU (grdO (decide (v35=v35)) (some ())) (seqU (grdO (decide (List.length y16+List.length y17≤9223372036854775807)) (grdO (decide (y16++y17=y16++y17)) (some ()))) (some ()))) (grdO (decide (List.length (y16++y17)+List.length y18≤9223372036854775807)) (grdO (decide (List.length v35+List.length (y16++y17++y18)≤9223372036854775807)) (some (inl (v35++(y16++y17++y18),v1272,v1282,v1292,v203,v204,IntKind.wrap .i64 (v205+1)))))))))))
 (some (inr (inl (v35,v1272,v1282,v1292))))) ((v34++y15,v1271,v1281,v1291,o7,(o7.length:Int),(0:Int)))) fun (v35,v1272,v1282,v1292) =>
 some (inl (v35,v1272,v1282,v1292))))))))))))))))))))) fun (v34,v1271,v1281,v1291) =>
 some (inl (v34,v1271,v1281,IntKind.wrap .i64 (v1291+1))))
 (some (inr (inl v33)))) ((v32++y6,o62,(o62.length:Int),(0:Int)))) fun v33 =>
 some (v33))))))))))))
def tb67:=insT 67 (mkE 67 true [] ti67 to67 F67 [.tmp 2] 225 []) tb146
theorem ok67:TbOk Tryz.prog tb67:=okI ok146 tp67 tv67 func67 rfl call67
abbrev ti147:SPat:=⟨[(0,.sl tg27),(1,.sl tg27)],[]⟩
abbrev to147:SPat:=⟨[(4,.b)],[]⟩
abbrev ts147_4:SPat:=⟨[(0,.sl tg27),(1,.sl tg27),(12,.i .i64),(13,.i .i64)],[]⟩
abbrev zLU:SPat:=⟨[],[]⟩
def tv147:Nat→Option SPat:=fun k=>bif k == 4 then some ts147_4 else bif k == 2000000 then some zLU else none
def tp147:Nat→List Nat×Plan:=fun id=>bif id == 6 then ([0,1,2,3,4,5,6,7,8],.fin) else ([],.fin)
def F147:List Cst×List Cst→Option (Bool):=fun (s1,s2) =>
 cndO (!decide ((s1.length:Int)=(s2.length:Int)))
 (some (false))
 (bindE (zAE (fun (s11,s21,v12,v13) =>
 cndO (decide (v13<v12))
 (grdO (decide (0≤v13)) (atO (s11) v13.toNat fun x=>grdO (decide (0≤v13)) (atO (s21) v13.toNat fun x1=>cndO (!(decide (x.1=x1.1) && (decide (x.2.1=x1.2.1) && (decide (x.2.2.1=x1.2.2.1) && (decide (x.2.2.2=x1.2.2.2) && true)))))
 (some (inr (inr false)))
 (some (inl (s11,s21,v12,IntKind.wrap .i64 (v13+1)))))))
 (some (inr (inl ())))) ((s1,s2,(s1.length:Int),(0:Int)))) fun _ =>
 some (true))
def tb147:=insT 147 (mkE 147 true [] ti147 to147 F147 [.tmp 4] 26 []) tb67
theorem ok147:TbOk Tryz.prog tb147:=okI ok67 tp147 tv147 func147 rfl call147
abbrev ti148:SPat:=⟨[(0,.sl (.int .i64)),(1,.sl (.int .i64))],[]⟩
abbrev to148:SPat:=⟨[(4,.b)],[]⟩
abbrev ts148_4:SPat:=⟨[(0,.sl (.int .i64)),(1,.sl (.int .i64)),(12,.i .i64),(13,.i .i64)],[]⟩
abbrev zLT:SPat:=⟨[],[]⟩
def tv148:Nat→Option SPat:=fun k=>bif k == 4 then some ts148_4 else bif k == 2000000 then some zLT else none
def tp148:Nat→List Nat×Plan:=fun id=>bif id == 6 then ([0,1,2,3,4,5,6,7,8],.fin) else ([],.fin)
def F148:List Int×List Int→Option (Bool):=fun (s1,s2) =>
 cndO (!decide ((s1.length:Int)=(s2.length:Int)))
 (some (false))
 (bindE (zAE (fun (s11,s21,v12,v13) =>
 cndO (decide (v13<v12))
 (grdO (decide (0≤v13)) (atO (s11) v13.toNat fun x=>grdO (decide (0≤v13)) (atO (s21) v13.toNat fun x1=>cndO (!decide (x=x1))
 (some (inr (inr false)))
 (some (inl (s11,s21,v12,IntKind.wrap .i64 (v13+1)))))))
 (some (inr (inl ())))) ((s1,s2,(s1.length:Int),(0:Int)))) fun _ =>
 some (true))
def tb148:=insT 148 (mkE 148 true [] ti148 to148 F148 [.tmp 4] 26 []) tb147
theorem ok148:TbOk Tryz.prog tb148:=okI ok147 tp148 tv148 func148 rfl call148
abbrev ti149:SPat:=⟨[(0,.sl tg89),(1,.sl tg89)],[]⟩
abbrev to149:SPat:=⟨[(4,.b)],[]⟩
abbrev ts149_4:SPat:=⟨[(0,.sl tg89),(1,.sl tg89),(12,.i .i64),(13,.i .i64)],[]⟩
abbrev zLS:SPat:=⟨[],[]⟩
def tv149:Nat→Option SPat:=fun k=>bif k == 4 then some ts149_4 else bif k == 2000000 then some zLS else none
def tp149:Nat→List Nat×Plan:=fun id=>bif id == 6 then ([0,1,2,3,4,5,6,7,8],.fin) else ([],.fin)
def F149:List (Int×Int×Int)×List (Int×Int×Int)→Option (Bool):=fun (s1,s2) =>
 cndO (!decide ((s1.length:Int)=(s2.length:Int)))
 (some (false))
 (bindE (zAE (fun (s11,s21,v12,v13) =>
 cndO (decide (v13<v12))
 (grdO (decide (0≤v13)) (atO (s11) v13.toNat fun x=>grdO (decide (0≤v13)) (atO (s21) v13.toNat fun x1=>cndO (!(decide (x.1=x1.1) && (decide (x.2.1=x1.2.1) && (decide (x.2.2=x1.2.2) && true))))
 (some (inr (inr false)))
 (some (inl (s11,s21,v12,IntKind.wrap .i64 (v13+1)))))))
 (some (inr (inl ())))) ((s1,s2,(s1.length:Int),(0:Int)))) fun _ =>
 some (true))
def tb149:=insT 149 (mkE 149 true [] ti149 to149 F149 [.tmp 4] 26 []) tb148
theorem ok149:TbOk Tryz.prog tb149:=okI ok148 tp149 tv149 func149 rfl call149
abbrev ti224:SPat:=⟨[(0,.sl zCp),(1,.sl zCp)],[]⟩
abbrev to224:SPat:=⟨[(4,.b)],[]⟩
abbrev ts224_4:SPat:=⟨[(0,.sl zCp),(1,.sl zCp),(12,.i .i64),(13,.i .i64)],[]⟩
abbrev zKW:SPat:=⟨[],[]⟩
def tv224:Nat→Option SPat:=fun k=>bif k == 4 then some ts224_4 else bif k == 2000000 then some zKW else none
def tp224:Nat→List Nat×Plan:=fun id=>bif id == 6 then ([0,1,2,3,4,5,6,7,8],.fin) else ([],.fin)
def F224:List (Int×Int×Int×Int)×List (Int×Int×Int×Int)→Option (Bool):=fun (s1,s2) =>
 cndO (!decide ((s1.length:Int)=(s2.length:Int)))
 (some (false))
 (bindE (zAE (fun (s11,s21,v12,v13) =>
 cndO (decide (v13<v12))
 (grdO (decide (0≤v13)) (atO (s11) v13.toNat fun x=>grdO (decide (0≤v13)) (atO (s21) v13.toNat fun x1=>cndO (!(decide (x.1=x1.1) && (decide (x.2.1=x1.2.1) && (decide (x.2.2.1=x1.2.2.1) && (decide (x.2.2.2=x1.2.2.2) && true)))))
 (some (inr (inr false)))
 (some (inl (s11,s21,v12,IntKind.wrap .i64 (v13+1)))))))
 (some (inr (inl ())))) ((s1,s2,(s1.length:Int),(0:Int)))) fun _ =>
 some (true))
def tb224:=insT 224 (mkE 224 true [] ti224 to224 F224 [.tmp 4] 26 []) tb149
theorem ok224:TbOk Tryz.prog tb224:=okI ok149 tp224 tv224 func224 rfl call224
abbrev ti227:SPat:=⟨[(0,.sl zBB),(1,.sl zBB)],[]⟩
abbrev to227:SPat:=⟨[(4,.b)],[]⟩
abbrev ts227_4:SPat:=⟨[(0,.sl zBB),(1,.sl zBB),(12,.i .i64),(13,.i .i64)],[]⟩
abbrev zKV:SPat:=⟨[],[]⟩
def tv227:Nat→Option SPat:=fun k=>bif k == 4 then some ts227_4 else bif k == 2000000 then some zKV else none
def tp227:Nat→List Nat×Plan:=fun id=>bif id == 6 then ([0,1,2,3,4,5,6,7,8],.fin) else ([],.fin)
def F227:List (Int×Int)×List (Int×Int)→Option (Bool):=fun (s1,s2) =>
 cndO (!decide ((s1.length:Int)=(s2.length:Int)))
 (some (false))
 (bindE (zAE (fun (s11,s21,v12,v13) =>
 cndO (decide (v13<v12))
 (grdO (decide (0≤v13)) (atO (s11) v13.toNat fun x=>grdO (decide (0≤v13)) (atO (s21) v13.toNat fun x1=>cndO (!(decide (x.1=x1.1) && (decide (x.2=x1.2) && true)))
 (some (inr (inr false)))
 (some (inl (s11,s21,v12,IntKind.wrap .i64 (v13+1)))))))
 (some (inr (inl ())))) ((s1,s2,(s1.length:Int),(0:Int)))) fun _ =>
 some (true))
def tb227:=insT 227 (mkE 227 true [] ti227 to227 F227 [.tmp 4] 26 []) tb224
theorem ok227:TbOk Tryz.prog tb227:=okI ok224 tp227 tv227 func227 rfl call227
abbrev ti226:SPat:=⟨[(0,.agg (pl [.i .i64,.sl zBB,.sl zBB])),(1,.agg (pl [.i .i64,.sl zBB,.sl zBB]))],[]⟩
abbrev to226:SPat:=⟨[(4,.b)],[]⟩
def F226:(Frm)×Frm→Option (Bool):=fun ((f0,f1,f2),g0,g1,g2) =>
 cndO (decide (f0=g0))
 (zAA (F227 (f1,g1)) fun y =>
 cndO (y)
 (zAA (F227 (f2,g2)) fun y1 =>
 some (y1))
 (some (false)))
 (some (false))
def tb226:=insT 226 (mkE 226 true [] ti226 to226 F226 [.tmp 4] 24 []) tb227
theorem ok226:TbOk Tryz.prog tb226:=okI ok227 noPl noIv func226 rfl call226
abbrev ti227225:SPat:=⟨[(0,.sl zBZ),(1,.sl zBZ),(2,.fn 226 (pl []))],[]⟩
abbrev to227225:SPat:=⟨[(6,.b)],[]⟩
abbrev zRm:SPat:=⟨[(1,.sl zBZ),(2,.fn 226 (pl [])),(15,.sl zBZ),(16,.i .i64),(17,.i .i64)],[]⟩
abbrev zGj:SPat:=⟨[],[]⟩
def tv227225:Nat→Option SPat:=fun k=>bif k == 4 then some zRm else bif k == 2000000 then some zGj else none
def F227225:List Frm×List Frm→Option (Bool):=fun (s1,s2) =>
 cndO (!decide ((s1.length:Int)=(s2.length:Int)))
 (some (false))
 (bindE (zAE (fun (s21,v15,v16,v17) =>
 cndO (decide (v17<v16))
 (grdO (decide (0≤v17)) (atO (v15) v17.toNat fun x=>grdO (decide (0≤v17)) (atO (s21) v17.toNat fun x1=>zAA (F226 ((x.1,x.2.1,x.2.2),x1.1,x1.2.1,x1.2.2)) fun y =>
 cndO (!y)
 (some (inr (inr false)))
 (some (inl (s21,v15,v16,IntKind.wrap .i64 (v17+1)))))))
 (some (inr (inl ())))) ((s2,s1,(s1.length:Int),(0:Int)))) fun _ =>
 some (true))
def zQq:=insT 227225 (mkE 225 true [] ti227225 to227225 F227225 [.tmp 6] 32 []) tb226
theorem ok227225:TbOk Tryz.prog zQq:=okI ok226 noPl tv227225 func225 rfl call225
abbrev ti151:SPat:=⟨[(0,.agg (pl plM)),(1,.agg (pl plM))],[]⟩
abbrev to151:SPat:=⟨[(4,.b)],[]⟩
def F151:(Mth)×Mth→Option (Bool):=fun ((a0,a1,a2,a3,a4,a5,a6,a7),b0,b1,b2,b3,b4,b5,b6,b7) =>
 cndO (decide (a0=b0))
 (cndO (decide (a1=b1))
 (cndO (decide (a2=b2))
 (cndO (decide (a3=b3))
 (cndO (decide (a4=b4))
 (cndO (decide (a5=b5))
 (zAA (F224 (a6,b6)) fun y =>
 cndO (y)
 (zAA (F227225 (a7,b7)) fun y1 =>
 some (y1))
 (some (false)))
 (some (false)))
 (some (false)))
 (some (false)))
 (some (false)))
 (some (false)))
 (some (false))
def tb151:=insT 151 (mkE 151 true [] ti151 to151 F151 [.tmp 4] 59 []) zQq
theorem ok151:TbOk Tryz.prog tb151:=okI ok227225 noPl noIv func151 rfl call151
abbrev ti152150:SPat:=⟨[(0,.sl tg53),(1,.sl tg53),(2,.fn 151 (pl []))],[]⟩
abbrev to152150:SPat:=⟨[(6,.b)],[]⟩
abbrev zRn:SPat:=⟨[(1,.sl tg53),(2,.fn 151 (pl [])),(15,.sl tg53),(16,.i .i64),(17,.i .i64)],[]⟩
abbrev zGk:SPat:=⟨[],[]⟩
def tv152150:Nat→Option SPat:=fun k=>bif k == 4 then some zRn else bif k == 2000000 then some zGk else none
def F152150:List Mth×List Mth→Option (Bool):=fun (s1,s2) =>
 cndO (!decide ((s1.length:Int)=(s2.length:Int)))
 (some (false))
 (bindE (zAE (fun (s21,v15,v16,v17) =>
 cndO (decide (v17<v16))
 (grdO (decide (0≤v17)) (atO (v15) v17.toNat fun x=>grdO (decide (0≤v17)) (atO (s21) v17.toNat fun x1=>zAA (F151 ((x.1,x.2.1,x.2.2.1,x.2.2.2.1,x.2.2.2.2.1,x.2.2.2.2.2.1,x.2.2.2.2.2.2.1,x.2.2.2.2.2.2.2),x1.1,x1.2.1,x1.2.2.1,x1.2.2.2.1,x1.2.2.2.2.1,x1.2.2.2.2.2.1,x1.2.2.2.2.2.2.1,x1.2.2.2.2.2.2.2)) fun y =>
 cndO (!y)
 (some (inr (inr false)))
 (some (inl (s21,v15,v16,IntKind.wrap .i64 (v17+1)))))))
 (some (inr (inl ())))) ((s2,s1,(s1.length:Int),(0:Int)))) fun _ =>
 some (true))
def zQr:=insT 152150 (mkE 150 true [] ti152150 to152150 F152150 [.tmp 6] 32 []) tb151
theorem ok152150:TbOk Tryz.prog zQr:=okI ok151 noPl tv152150 func150 rfl call150
abbrev ti68:SPat:=⟨[(0,.agg (pl plC)),(1,.agg (pl plC))],[]⟩
abbrev to68:SPat:=⟨[(4,.b)],[]⟩
def F68:(Cls)×Cls→Option (Bool):=fun ((a0,a1,a2,a3,a4,a5,a6),b0,b1,b2,b3,b4,b5,b6) =>
 zAA (F147 (a0,b0)) fun y =>
 cndO (y)
 (cndO (decide (a1=b1))
 (cndO (decide (a2=b2))
 (cndO (decide (a3=b3))
 (zAA (F148 (a4,b4)) fun y1 =>
 cndO (y1)
 (zAA (F149 (a5,b5)) fun y2 =>
 cndO (y2)
 (zAA (F152150 (a6,b6)) fun y3 =>
 some (y3))
 (some (false)))
 (some (false)))
 (some (false)))
 (some (false)))
 (some (false)))
 (some (false))
def tb68:=insT 68 (mkE 68 true [] ti68 to68 F68 [.tmp 4] 52 []) zQr
theorem ok68:TbOk Tryz.prog tb68:=okI ok152150 noPl noIv func68 rfl call68
abbrev ti20:SPat:=⟨[(0,.agg (pl plC))],[]⟩
abbrev to20:SPat:=⟨[(2,.s)],[]⟩
def F20:Cls→Option (List UInt8):=fun (c0,c1,c2,c3,c4,c5,c6) =>
 zAA (F66 (c0,c1,c2,c3,c4,c5,c6)) fun y =>
 cndO (!y)
 (some ([]))
 (zAA (F67 (c0,c1,c2,c3,c4,c5,c6)) fun y1 =>
 zAA (F17 y1) fun (y2,y3,y4,y5,y6,y7,x,x1) =>
 cndO (!y2)
 (some ([]))
 (zAA (F68 ((c0,c1,c2,c3,c4,c5,c6),y3,y4,y5,y6,y7,x,x1)) fun y8 =>
 cndO (!y8)
 (some ([]))
 (some (y1))))
def tb20:=insT 20 (mkE 20 true [] ti20 to20 F20 [.tmp 2] 25 []) tb68
theorem ok20:TbOk Tryz.prog tb20:=okI ok68 noPl noIv func20 rfl call20
abbrev ti4:SPat:=⟨[(0,.sl .byte),(1,.sl .byte)],[]⟩
abbrev to4:SPat:=⟨[(4,.b)],[]⟩
abbrev zPY:SPat:=⟨[(0,.sl .byte),(1,.sl .byte)],[]⟩
abbrev zPX:SPat:=⟨[(1,.sl .byte),(5,.s),(6,.ptr 6 0),(7,.b),(8,.ptr 8 0),(9,.b),(46,.b)],[.box 6 (pl plD),.box 8 (pl plD)]⟩
def tv4:Nat→Option SPat:=fun k=>bif k == 1000003 then some zPY else bif k == 1000007 then some zPX else none
def F4:List UInt8×List UInt8→Option (Bool):=fun (app,v1) =>
 bindE (Y:=List UInt8×List UInt8) (cndO (decide (1048576<(app.length:Int)))
 (some (inr true))
 (cndO (decide (1048576<(v1.length:Int)))
 (some (inr true))
 (some (inl (app,v1))))) fun (app1,v11) =>
 zAA (F16 app1) fun y =>
 zAA (F17 y) fun (y1,y2,y3,y4,y5,y6,x,x1) =>
 zAA (F18 y) fun (y7,y8,y9,y10,y11,y12,x2,x3) =>
 bindE (Y:=List UInt8×List UInt8×Bool×Bool×Bool×(Cls)×Cls) (cndO (!decide (y1=y7))
 (some (inl (v11,y,y1,y7,true,(y2,y3,y4,y5,y6,x,x1),y8,y9,y10,y11,y12,x2,x3)))
 (zAA (F19 ((y2,y3,y4,y5,y6,x,x1),y8,y9,y10,y11,y12,x2,x3)) fun y13 =>
 cndO (!y13)
 (some (inl (v11,y,y1,y7,true,(y2,y3,y4,y5,y6,x,x1),y8,y9,y10,y11,y12,x2,x3)))
 (some (inl (v11,y,y1,y7,!y1,(y2,y3,y4,y5,y6,x,x1),y8,y9,y10,y11,y12,x2,x3))))) fun (v12,v5,v7,v9,v46,(o0,o1,o2,o3,o4,o5,o6),o01,o11,o21,o31,o41,o51,o61) =>
 cndO (v46)
 (cndO (decide (v7=v9))
 (zAA (F19 ((o0,o1,o2,o3,o4,o5,o6),o01,o11,o21,o31,o41,o51,o61)) fun y13 =>
 some (y13))
 (some (false)))
 (grdO (!decide ((v5.length:Int)=0)) (grdO (decide (0≤Int.tmod (v12.length:Int) (v5.length:Int)) && decide (Int.tmod (v12.length:Int) (v5.length:Int)≤(v5.length:Int))) (zAA (F17 (List.drop (0:Nat) (List.take (Int.toNat (Int.tmod (v12.length:Int) (v5.length:Int))) v5))) fun (y13,y14,y15,y16,y17,y18,x4,x5) =>
 grdO (decide (List.length v5+1≤9223372036854775807)) (zAA (F17 (v5++[(0:UInt8)])) fun (y19,y20,y21,y22,y23,y24,x6,x7) =>
 zAA (F20 (o0,o1,o2,o3,o4,o5,o6)) fun y25 =>
 cndO (decide (y25=v5))
 (cndO (!y13)
 (some (!y19))
 (some (false)))
 (some (false))))))
theorem r4 x:funT T tb20 noPl 84 tv4 (bodyOf Tryz.f4) ti4 to4 x=F4 x:=by kernel_rfl
def te4:=mkE 4 true [] ti4 to4 F4 [.tmp 4] 84 []
theorem c4:zGr Tryz.prog 4 te4.W:=zTx ok20 layOk mixed true _ ti4 to4 [] noPl tv4 func4 rfl results4 ntmps4 (by kernel_rfl) (by kernel_rfl) call4 F4 fun x _ h=>(r4 x).trans h
end Go.Proofs.YtdpapeledldifaaGreat
end
section
namespace Go.Proofs.YtdpapeledldifaaGreat
open Go Go.AM Go.TM Go.RowKit Go.ChangeShapes Go.WideShapes Go.ChangeAt
theorem rowL4 (x y:List UInt8) (h:F4 (x,y)=some true):AC Tryz.prog 4 (encC false (.sl .byte) x++encC false (.sl .byte) y) [] fun sv _=>sv = .b true :=
 law_args c4 (x,y) true rfl rfl h rfl
set_option maxRecDepth 100000 in
theorem lifted4 (hall:∀ x y:List UInt8,F4 (x,y)=some true) (os:Os) (started:os.Started) (H:Type) (enc:TypeId×Value→H) :
  ReturnsInHanded {} Tryz.checked os 4 .any (Rows.fnFileGetSpec.pre6 enc Tryz.prog Tryz.f4 [] false) (Rows.fnFileGetSpec.post enc Tryz.prog Tryz.f4 false true false false):=by
 refine returnsInHanded_of_change_sized (C:=Tryz.checked) own started (by kernel_rfl) Tryz.func4
  (ChangeSpec.witness6 (enc:=enc) (C:=Tryz.checked) false ⟨#[],#[.slice none 0 0,.slice none 0 0],[]⟩ 8 (by kernel_rfl) (by kernel_rfl) (by kernel_rfl) (by kernel_rfl)) ?_
 intro W base args ds gs before hval0 hW _ hsz0 _
 have hval:∀ (j:Nat) t v,Tryz.f4.params[j]? = some t→args[j]? = some v→Value.okWide Tryz.prog W .any base t v:=hval0
 have hsz:(DataW.weightsEach Tryz.prog (Tryz.f4.params.toList++[]) (ds++gs)).all (· ≤ reachBytes)=true:=hsz0
 have hW':=hW
 obtain ⟨p,q,hA0,hV,rfl,hfz,hnd⟩:=hW
 have hA:DataW.TrodAll enc Tryz.prog W 0 (fun _=>true) true Tryz.f4.params.toList args.toList ds p:=hA0
 rw [Tryz.params4] at hA hval hsz
 obtain ⟨v0,v1,d0,d1,p0,p1,rfl,rfl,rfl,h0,h1⟩:=trodAll_two hA
 obtain ⟨rfl,rfl⟩:=trodVars_none hV
 obtain ⟨b0,n0,k0,rfl⟩:=okWide_slice Tryz.underlying22 (hval 0 22 v0 rfl rfl)
 obtain ⟨b1,n1,k1,rfl⟩:=okWide_slice Tryz.underlying22 (hval 1 22 v1 rfl rfl)
 have h0k:=h0
 have h1k:=h1
 obtain ⟨fuel,ht⟩:=h0
 obtain ⟨fuel1,ht1⟩:=h1
 obtain ⟨x,sx,lx,ox,rx⟩:=opens 8 fuel (.sl .byte) 22 [.slice b0 n0 k0] d0 p0 rd22 ht (fun m hm=>by
  have:=List.all_eq_true.1 hsz m (by simp [DataW.weightsEach,hm])
  simpa using this)
 obtain ⟨y,sy,ly,oy,ry⟩:=opens 8 fuel1 (.sl .byte) 22 [.slice b1 n1 k1] d1 p1 rd22 ht1 (fun m hm=>by
  have:=List.all_eq_true.1 hsz m (by simp [DataW.weightsEach,hm])
  simpa using this)
 have hlt:∀ z∈p0++p1,z.block<W.heap.size:=fun z hz=>hW'.lt z (by simpa using hz)
 refine (zUO Tryz.func4 (by kernel_rfl) (by kernel_rfl) (rowL4 x y (hall x y)) (fun _ _ h=>h) rfl (fun G hG=>zUc _ _ _ (RL_more (rx G hG)) (ry G hG))).mono fun e W' ⟨he,hb⟩=>?_
 subst he
 exact ⟨_,rfl,[d0,d1],[],(p0++p1)++[],[],p0++p1,[],hW',trodAll_mk1 (shut_bool Tryz.underlying4 true),trodAll_mk2 (Below.trod zTl (by kernel_rfl) (of_decide_eq_true (by kernel_rfl)) h0k hb fun z hz=>hlt z (by simp [hz])) (Below.trod zTl (by kernel_rfl) (of_decide_eq_true (by kernel_rfl)) h1k hb fun z hz=>hlt z (by simp [hz])),rfl,hb.frame _,fun h=>by cases h⟩
set_option maxHeartbeats 4000000 in
theorem joined4:joinedFacts Tryz.pinned.checked.prog 4 Tryz.f4 Rows.fnFileGetSpec Rows.fnFileGetRow=true:=by
 unfold joinedFacts
 repeat' with_reducible apply band
 all_goals (as_aux_lemma=>kernel_rfl)
theorem fnFileGet_of (hall:∀ x y:List UInt8,F4 (x,y)=some true):Rows.FnFileGetSaid :=
 OpenClaim.holds_of_wide 4 Tryz.f4 rfl rfl rfl rfl rfl rfl rfl ⟨rfl,rfl,rfl,rfl,rfl⟩ rfl rfl rfl rfl rfl (by kernel_rfl) Tryz.func4 joined4
  (of_decide_eq_true (by kernel_rfl)) (by unfold Func.isWrapper;first | (rw [if_pos (by decide +kernel)];kernel_rfl) | (rw [if_neg (by decide +kernel)];exact ⟨rfl,rfl⟩))
  (fun os started H enc _=>lifted4 hall os started H enc)
end Go.Proofs.YtdpapeledldifaaGreat
end
section
namespace Go.TM
open Go.AM
section
variable {α β X Y R:Type} {Q:R→Prop}
def Tot (r:Option R) (Q:R→Prop):Prop:=∃ a,r=some a∧Q a
theorem Tot.ret {a:R} (h:Q a):Tot (some a) Q:=⟨a,rfl,h⟩
theorem Tot.mono {r:Option R} {Q':R→Prop} (h:Tot r Q) (g:∀ a,Q a→Q' a):Tot r Q':=by
 obtain ⟨a,e,h⟩:=h;exact ⟨a,e,g a h⟩
theorem Tot.bind {x:Option α} {P:α→Prop} {k:α→Option R} (h:Tot x P) (hk:∀ a,P a→Tot (k a) Q):Tot (zAA x k) Q:=by
 obtain ⟨a,rfl,h⟩:=h;exact hk a h
theorem Tot.grd {t:Bool} {k:Option R} (ht:t=true) (h:Tot k Q):Tot (grdO t k) Q:=by subst ht;exact h
theorem Tot.cnd {t:Bool} {a b:Option R} (h1:t=true→Tot a Q) (h2:t=false→Tot b Q):Tot (cndO t a b) Q:=by
 cases t
 ·exact h2 rfl
 ·exact h1 rfl
theorem Tot.at {l:List α} {n:Nat} {k:α→Option R} (hn:n<l.length) (h:∀ x,l[n]? = some x→Tot (k x) Q):Tot (atO l n k) Q:=by
 have e:l[n]? = some l[n]:=List.getElem?_eq_getElem hn
 show Tot (match l[n]? with | some x=>k x | none=>none) Q
 rw [e];exact h _ e
theorem Tot.at' {l:List α} {n:Nat} {k:α→Option R} {x:α} (e:l[n]? = some x) (h:Tot (k x) Q):Tot (atO l n k) Q:=by
 show Tot (match l[n]? with | some x=>k x | none=>none) Q
 rw [e];exact h
theorem Tot.seq {u:Option Unit} {k:Option R} (h1:Tot u fun _=>True) (h:Tot k Q):Tot (seqU u k) Q:=by
 obtain ⟨a,rfl,_⟩:=h1;exact h
theorem Tot.bindE {x:Option (Y ⊕ R)} {k:Y→Option R} (P:Y→Prop) (h:Tot x (Sum.elim P Q)) (hk:∀ y,P y→Tot (k y) Q):Tot (bindE x k) Q:=by
 obtain ⟨a,rfl,h⟩:=h
 cases a with
 | inl y=>exact hk y h
 | inr r=>exact ⟨r,rfl,h⟩
theorem Tot.loop {f:X→Option (X ⊕ R)} (I:X→Prop) (μ:X→Nat) (hs:∀ x,I x→Tot (f x) (Sum.elim (fun y=>I y∧μ y<μ x) Q)):∀ {x:X},I x→Tot (zAE f x) Q:=by
 have key:∀ n x,μ x≤n→I x→Tot (zAE f x) Q:=by
  intro n
  induction n with
  | zero =>
    intro x hx hi
    obtain ⟨a,e,h⟩:=hs x hi
    rw [zAn,e]
    cases a with
    | inl y=>exact absurd h.2 (by omega)
    | inr r=>exact ⟨r,rfl,h⟩
  | succ n ih =>
    intro x hx hi
    obtain ⟨a,e,h⟩:=hs x hi
    rw [zAn,e]
    cases a with
    | inl y=>exact ih y (by have:=h.2;omega) h.1
    | inr r=>exact ⟨r,rfl,h⟩
 intro x hi
 exact key _ x (Nat.le_refl _) hi
theorem zDe (a:Option R):zEI a a=a:=by unfold zEI;rw [if_pos rfl]
end
end Go.TM
end
section
namespace Go.TM
open Go.AM
section
variable {R α X Y:Type}
@[simp] theorem zAL (A B:Option R):cndO true A B=A:=rfl
@[simp] theorem zAJ (A B:Option R):cndO false A B=B:=rfl
@[simp] theorem zAI {p:Prop} [Decidable p] (A B:Option R):cndO (decide p) A B=if p then A else B:=by
  by_cases h:p <;> simp [h]
@[simp] theorem zAl (b:Bool) (A B:Option R):cndO (!b) A B=cndO b B A:=by cases b <;> rfl
@[simp] theorem zAF (A:Option R):grdO true A=A:=rfl
theorem zAT {p:Prop} [Decidable p] {A:Option R} (h:p):grdO (decide p) A=A:=by simp [h]
theorem zCf (a b:Bool) (A:Option R):grdO (a && b) A=grdO a (grdO b A):=by cases a <;> rfl
@[simp] theorem zAB (a:α) (k:α→Option R):zAA (some a) k=k a:=rfl
@[simp] theorem zAD (y:Y) (k:Y→Option R):bindE (some (.inl y)) k=k y:=rfl
@[simp] theorem zAG (r:R) (k:Y→Option R):bindE (some (.inr r)) k=some r:=rfl
@[simp] theorem zAc (u:Unit) (k:Option R):seqU (some u) k=k:=rfl
theorem atO_at {l:List α} {n:Nat} {x:α} {k:α→Option R} (h:l[n]? = some x):atO l n k=k x:=by unfold atO;rw [h]
theorem zAQ {l:List α} {n:Nat} {k:α→Option R} (h:n<l.length):atO l n k=k l[n]:=atO_at (List.getElem?_eq_getElem h)
theorem zAw {c:Prop} [Decidable c] (A B:Option (Y ⊕ R)) (k:Y→Option R):bindE (if c then A else B) k=if c then bindE A k else bindE B k:=by split <;> rfl
theorem zBN {l:List α} {n:Nat} (h:n<l.length):l.drop n=l[n] :: l.drop (n+1):=List.drop_eq_getElem_cons h
end
end Go.TM
end
section
namespace Go.TM
open Go.AM
section
variable {α β:Type}
def SzOk (r:Option Int) (left:Int) (P:Prop):Prop:=∃ y,r=some y ∧ -1≤y∧y≤left∧(0≤y→P)
theorem SzOk.bind {r:Option Int} {k:Int→Option Int} {left:Int} {P Q:Prop} (h:SzOk r left P) (hk:∀ y,0≤y→y≤left→SzOk (k y) y Q) :
  SzOk (zAA r fun y=>cndO (decide (y<(0:Int))) (some (-1:Int)) (k y)) left (P∧Q):=by
 obtain ⟨y,h1,h2,h3,h4⟩:=h
 rw [h1,zAB,zAI]
 by_cases hy:y<0
 ·rw [if_pos hy];exact ⟨-1,rfl,by omega,by omega,by omega⟩
 ·rw [if_neg hy]
  obtain ⟨z,g1,g2,g3,g4⟩:=hk y (by omega) h3
  exact ⟨z,g1,g2,by omega,fun hz=>⟨h4 (by omega),g4 hz⟩⟩
end
end Go.TM
end
section
namespace Go.Proofs.YtdpapeledldifaaGreat
open Go Go.AM Go.TM
def Rd (c:Nat) (r:List UInt8×Int):Prop:=r.1.length≤2000∧0≤r.2∧r.2≤c
theorem Rd.mono {c d:Nat} {r:List UInt8×Int} (h:Rd c r) (hc:c≤d):Rd d r:=⟨h.1,h.2.1,by have:=h.2.2;omega⟩
theorem zPP {a b:Int} (ha:0≤a) (ha':a<9223372036854775808) (hb:0≤b) (hb':b<9223372036854775808):0≤xorI .i64 a b:=by
 unfold xorI
 have e:∀ {x:Int},0≤x→x<9223372036854775808→(BitVec.ofInt 64 x).toNat=x.toNat:=by
  intro x h0 h1
  rw [BitVec.toNat_ofInt]
  show (x % ((2 ^ 64:Nat):Int)).toNat=_
  rw [Int.emod_eq_of_lt h0 (by omega)]
 show 0≤IntKind.wrap .i64 ((BitVec.ofInt 64 a ^^^ BitVec.ofInt 64 b).toNat:Int)
 rw [BitVec.toNat_xor,e ha ha',e hb hb']
 have h:=Nat.xor_lt_two_pow (n:=63) (show a.toNat<2 ^ 63 by omega) (show b.toNat<2 ^ 63 by omega)
 rw [wrapI (by omega) (by omega)]
 omega
theorem zFS {a n:Int} (ha:0≤a) (hn:1≤n):0≤Int.tmod a n∧Int.tmod a n<n:=by
 rw [Int.tmod_eq_emod_of_nonneg ha]
 exact ⟨Int.emod_nonneg _ (by omega),Int.emod_lt_of_pos _ (by omega)⟩
theorem zQp {a n:Int} (ha:0≤a) (hn:1≤n):0≤Int.tdiv a n∧Int.tdiv a n≤a:=by
 rw [Int.tdiv_eq_ediv_of_nonneg ha]
 exact ⟨Int.ediv_nonneg ha (by omega),Int.ediv_le_self _ ha⟩
theorem zMg (x:UInt8):(0:Int)≤(x.toNat:Int)∧(x.toNat:Int)≤255:=by
 have:=x.toNat_lt;omega
theorem t51 {n:Int} {r:List UInt8×Int} {c:Nat} (h:Rd c r) (hc:c≤1000000):Tot (F51 (n,r)) fun y=>0≤y.1∧(1≤n→y.1<n)∧(n<1→y.1=0)∧Rd (c+1) y.2:=by
 obtain ⟨b,p⟩:=r
 obtain ⟨hb,h0,h1⟩:=h
 simp only at hb h0 h1
 have hR:Rd (c+1) (b,p+1):=⟨hb,by show (0:Int)≤p+1;omega,by show p+1≤((c+1:Nat):Int);omega⟩
 unfold F51
 simp only [show IntKind.wrap .i64 (p+1)=p+1 from wrapI (by omega) (by omega)]
 refine Tot.bindE (fun y=>y=(n,b,p+1)∧1≤n∧b≠[]) ?_ ?_
 ·refine Tot.cnd (fun hn=>?_) (fun hn=>?_)
  ·simp only [decide_eq_true_eq] at hn
   exact Tot.ret ⟨by simp,fun h=>absurd h (by omega),fun _=>rfl,hR⟩
  ·simp only [decide_eq_false_iff_not] at hn
   refine Tot.cnd (fun hb=>?_) (fun hb=>?_)
   ·exact Tot.ret ⟨by simp,fun h=>by show (0:Int)<n;omega,fun _=>rfl,hR⟩
   ·simp only [decide_eq_false_iff_not] at hb
    exact Tot.ret ⟨rfl,by omega,fun e=>hb (by rw [e];rfl)⟩
 ·rintro _ ⟨rfl,hn,hne⟩
  have hl:1≤b.length:=by cases b;exact absurd rfl hne;simp
  simp only [show IntKind.wrap .i64 (p+1 - 1)=p by rw [show p+1 - 1=p by omega];exact wrapI (by omega) (by omega)]
  have hnz:(!decide (n=0))=true:=by simp;omega
  have hlz:(!decide (((b.length:Nat):Int)=0))=true:=by simp;omega
  refine Tot.cnd (fun hk=>?_) (fun hk=>?_)
  ·simp only [decide_eq_true_eq] at hk
   refine Tot.grd (by simpa using h0) (Tot.at (by omega) fun x hx=>Tot.grd hnz ?_)
   have hx:=zMg x
   have hw:IntKind.wrap .i64 ((x.toNat:Nat):Int)=x.toNat:=wrapI (by omega) (by omega)
   rw [hw]
   have:=zFS (n:=n) hx.1 hn
   exact Tot.ret ⟨this.1,fun _=>this.2,fun h=>absurd h (by omega),hR⟩
  ·have hm1:=zFS (a:=p) (n:=(b.length:Int)) h0 (by omega)
   have w7:IntKind.wrap .i64 (IntKind.wrap .i64 (p*7)+3)=p*7+3:=by
    rw [wrapI (x:=p*7) (by omega) (by omega),wrapI (by omega) (by omega)]
   simp only [w7]
   have hm2:=zFS (a:=p*7+3) (n:=(b.length:Int)) (by omega) (by omega)
   refine Tot.grd hlz (Tot.grd (by simpa using hm1.1) (Tot.at (by omega) fun x hx=>Tot.grd hlz (Tot.grd (by simpa using hm2.1) (Tot.at (by omega) fun x1 hx1=>Tot.grd hlz (Tot.grd hnz ?_)))))
   have hx:=zMg x
   have hx1:=zMg x1
   have hd:=zQp (a:=p) (n:=(b.length:Int)) h0 (by omega)
   generalize (x.toNat:Int)=u at hx ⊢
   generalize (x1.toNat:Int)=v at hx1 ⊢
   generalize Int.tdiv p (b.length:Int)=d at hd ⊢
   have e:IntKind.wrap .i64 (IntKind.wrap .i64 (IntKind.wrap .i64 (IntKind.wrap .i64 (IntKind.wrap .i64 u*131)+IntKind.wrap .i64 (IntKind.wrap .i64 v*1117))+IntKind.wrap .i64 (p*29))+IntKind.wrap .i64 (IntKind.wrap .i64 d*53))=u*131+v*1117+p*29+d*53:=by
    rw [wrapI (x:=u) (by omega) (by omega),wrapI (x:=v) (by omega) (by omega),wrapI (x:=d) (by omega) (by omega),wrapI (x:=u*131) (by omega) (by omega),wrapI (x:=v*1117) (by omega) (by omega),wrapI (x:=p*29) (by omega) (by omega),wrapI (x:=d*53) (by omega) (by omega),wrapI (x:=u*131+v*1117) (by omega) (by omega),wrapI (x:=u*131+v*1117+p*29) (by omega) (by omega),wrapI (by omega) (by omega)]
   simp only [e]
   generalize ht:u*131+v*1117+p*29+d*53=t
   have h64:=zQp (a:=t) (n:=64) (by omega) (by omega)
   rw [wrapI (x:=Int.tdiv t 64) (by omega) (by omega)]
   have hxo:=zPP (a:=t) (b:=Int.tdiv t 64) (by omega) (by omega) (by omega) (by omega)
   have:=zFS (n:=n) hxo hn
   exact Tot.ret ⟨this.1,fun _=>this.2,fun h=>absurd h (by omega),hR⟩
theorem tot_of {α:Type} {F:List α×List UInt8×Int→Option (α×List UInt8×Int)} (hF:∀ l r,F (l,r)=zAA (F51 (((l.length:Nat):Int),r)) fun y=>grdO (decide (0≤y.1)) (atO l y.1.toNat fun x=>some (x,y.2)))
  {l:List α} {r:List UInt8×Int} {c:Nat} (h:Rd c r) (hc:c≤1000000) (hl:l≠[]):Tot (F (l,r)) fun y=>y.1∈l∧Rd (c+1) y.2:=by
 rw [hF]
 have hl:1≤l.length:=by cases l;exact absurd rfl hl;simp
 refine Tot.bind (t51 h hc) fun y hy=>?_
 have:=hy.2.1 (by omega)
 refine Tot.grd (by simpa using hy.1) (Tot.at (by omega) fun x hx=>Tot.ret ⟨List.mem_of_getElem? hx,hy.2.2.2⟩)
theorem t105 {l:List Int} {r:List UInt8×Int} {c:Nat} (h:Rd c r) (hc:c≤1000000) (hl:l≠[]):Tot (F105 (l,r)) fun y=>y.1∈l∧Rd (c+1) y.2 :=
 tot_of (fun l r=>rfl) h hc hl
theorem t119 {l:List (List UInt8)} {r:List UInt8×Int} {c:Nat} (h:Rd c r) (hc:c≤1000000) (hl:l≠[]):Tot (F119 (l,r)) fun y=>y.1∈l∧Rd (c+1) y.2 :=
 tot_of (fun l r=>rfl) h hc hl
theorem t49 (code:List UInt8):Tot (F49 code) (Rd 0):=by
 unfold F49
 refine Tot.cnd (fun h=>?_) (fun h=>?_)
 ·simp only [decide_eq_true_eq] at h
  refine Tot.grd (by simp;omega) (Tot.ret ⟨?_,by simp,by simp⟩)
  simp only [List.drop_zero,List.length_take];omega
 ·simp only [decide_eq_false_iff_not] at h
  exact Tot.ret ⟨by simp only;omega,by simp,by simp⟩
theorem zFQ (n:Int) : -9223372036854775808≤IntKind.wrap .i64 n∧IntKind.wrap .i64 n≤9223372036854775807:=by
 simp only [IntKind.wrap,IntKind.bits,IntKind.signed]
 simp
 split <;> omega
theorem wrap8' (n:Int):0≤IntKind.wrap .u8 n∧IntKind.wrap .u8 n≤255:=by
 have h:IntKind.wrap .u8 n=n % 256:=by simp [IntKind.wrap,IntKind.bits,IntKind.signed]
 rw [h];omega
theorem u8ok (n:Int):(decide ((0:Int)≤IntKind.wrap .u8 n) && decide (IntKind.wrap .u8 n≤(255:Int)))=true:=by
 have:=wrap8' n;simp [this.1,this.2]
theorem d274:∀ (k:Nat) (n:Int),n≤9223372036854775807→0≤n→n<10 ^ (k+1)→k≤30→Tot (G274 (k+1) n) fun s=>s.length≤k+1
 | 0,n,_,h0,h1,_=>by
   show Tot (H274 (G274 0) n) _
   unfold H274
   refine Tot.cnd (fun h=>?_) (fun _=>Tot.cnd (fun h=>?_) (fun _=>Tot.cnd (fun _=>Tot.grd (u8ok _) (Tot.ret (by simp))) (fun h=>?_)))
   ·simp only [decide_eq_true_eq] at h;omega
   ·simp only [decide_eq_true_eq] at h;omega
   ·simp only [decide_eq_false_iff_not] at h;omega
 | k+1,n,hm,h0,h1,hk=>by
   show Tot (H274 (G274 (k+1)) n) _
   unfold H274
   refine Tot.cnd (fun h=>?_) (fun _=>Tot.cnd (fun h=>?_) (fun _=>Tot.cnd (fun _=>Tot.grd (u8ok _) (Tot.ret (by simp))) (fun h=>?_)))
   ·simp only [decide_eq_true_eq] at h;omega
   ·simp only [decide_eq_true_eq] at h;omega
   ·simp only [decide_eq_false_iff_not] at h
    have hp:(10:Int) ^ (k+1+1)=10 ^ (k+1)*10:=Int.pow_succ _ _
    have hd:Int.tdiv n 10=n / 10:=Int.tdiv_eq_ediv_of_nonneg h0
    have hlt:n / 10<10 ^ (k+1):=by omega
    have hw:IntKind.wrap .i64 (Int.tdiv n 10)=n / 10:=by rw [hd];exact wrapI (by omega) (by omega)
    obtain ⟨y,e,hy⟩:=d274 k (n / 10) (by omega) (by omega) hlt (by omega)
    rw [hw,e]
    simp only [zAB,decide_true,zAF,zAc,u8ok]
    have hl:decide (y.length+1≤9223372036854775807)=true:=by simp only [decide_eq_true_eq];omega
    simp only [hl,zAF,zDe]
    exact Tot.ret (by simp only [List.length_append,List.length_cons,List.length_nil];omega)
theorem t274 {n:Int} (h1 : -9223372036854775808≤n) (h2:n≤9223372036854775807):Tot (F274 n) fun s=>s.length≤25:=by
 have p23:(10:Int) ^ 23=100000000000000000000000:=by decide
 have p24:(10:Int) ^ 24=1000000000000000000000000:=by decide
 by_cases h0:0≤n
 ·exact (d274 23 n h2 h0 (by omega) (by omega)).mono fun s h=>by omega
 ·show Tot (H274 (G274 23) n) _
  unfold H274
  refine Tot.cnd (fun h=>Tot.ret (by simp)) (fun h=>Tot.cnd (fun _=>?_) (fun h=>?_))
  ·simp only [decide_eq_false_iff_not] at h
   rw [wrapI (x:=0 - n) (by omega) (by omega)]
   refine Tot.bind (d274 22 (0 - n) (by omega) (by omega) (by omega) (by omega)) fun y hy=>Tot.grd (by simp only [decide_eq_true_eq];omega) (Tot.ret ?_)
   simp only [List.length_append,List.length_cons,List.length_nil];omega
  ·simp only [decide_eq_false_iff_not] at h;omega
theorem t301 {list:List (List UInt8)} {s:List UInt8} (hl:list.length≤1000000000000):Tot (F301 (list,s)) fun _=>True:=by
 unfold F301
 refine Tot.bindE (fun _=>True) (Tot.loop (fun x=>x.1=list∧0≤x.2.2∧x.2.2≤(list.length:Int)) (fun x=>list.length - x.2.2.toNat) ?_ ⟨rfl,by simp,by simp⟩) (fun _ _=>Tot.ret trivial)
 rintro ⟨l,s,i⟩ ⟨rfl,h0,h1⟩
 simp only at hl
 refine Tot.cnd (fun h=>?_) (fun h=>Tot.ret trivial)
 simp only [decide_eq_true_eq] at h
 simp only at h0 h1
 refine Tot.grd (by simpa using h0) (Tot.at (by omega) fun x _=>Tot.cnd (fun _=>Tot.ret trivial) fun _=>Tot.ret ?_)
 simp only [Sum.elim_inl,true_and]
 rw [wrapI (by omega) (by omega)]
 omega
theorem t107 (a b c:Int):Tot (F107 (a,b,c)) fun _=>True:=by
 unfold F107
 exact Tot.cnd (fun _=>Tot.ret trivial) fun _=>Tot.ret trivial
theorem t251 (n:Int):Tot (F251 n) fun _=>True:=by
 unfold F251
 refine Tot.bindE (fun _=>True) ?_ fun y _=>?_
 ·exact Tot.cnd (fun _=>Tot.ret trivial) fun _=>Tot.cnd (fun _=>Tot.ret trivial) fun _=>Tot.cnd (fun _=>Tot.ret trivial) fun _=>Tot.cnd (fun _=>Tot.ret trivial) fun _=>Tot.cnd (fun _=>Tot.ret trivial) fun _=>Tot.ret trivial
 ·refine Tot.bind (t107 _ _ _) fun y _=>Tot.cnd (fun _=>Tot.ret trivial) fun _=>Tot.bind (t107 _ _ _) fun y _=>Tot.cnd (fun _=>Tot.ret trivial) fun _=>Tot.bind (t107 _ _ _) fun y _=>Tot.cnd (fun _=>Tot.ret trivial) fun _=>Tot.ret trivial
theorem t278 {s:List UInt8} {b most:Int} (hs:s.length≤1000000000000) (hm:0≤most) :
  Tot (F278 (s,b,most)) fun out=>1≤out.length∧out.length≤s.length+1∧(out.length:Int)≤most+1∧∀ x∈out,x.length≤s.length:=by
 unfold F278
 refine Tot.bindE (fun y=>y.1=s∧y.2.1.length≤s.length∧(y.2.1.length:Int)≤most∧(∀ x∈y.2.1,x.length≤s.length)∧0≤y.2.2∧y.2.2≤(s.length:Int))
  (Tot.loop (fun x=>x.1=s∧x.2.2.1=most∧(∀ z∈x.2.2.2.1,z.length≤s.length)∧(x.2.2.2.1.length:Int)≤most∧(x.2.2.2.1.length:Int)≤x.2.2.2.2.2∧0≤x.2.2.2.2.1∧x.2.2.2.2.1≤x.2.2.2.2.2∧x.2.2.2.2.2≤(s.length:Int)) (fun x=>s.length - x.2.2.2.2.2.toNat) ?_ ⟨rfl,rfl,by simp,by simpa using hm,by simp,by simp,by simp,by simp⟩) ?_
 ·rintro ⟨s1,b1,m1,out,fr,i⟩ ⟨rfl,rfl,h1,h2,h3,h4,h5,h6⟩
  simp only at h1 h2 h3 h4 h5 h6 hs
  refine Tot.bindE (fun y=>y=(s1,b1,m1,out,fr,i)∧i<(s1.length:Int)∧(out.length:Int)<m1) ?_ ?_
  ·refine Tot.cnd (fun h=>Tot.cnd (fun g=>?_) fun _=>?_) fun _=>?_
   ·simp only [decide_eq_true_eq] at h g
    exact Tot.ret ⟨rfl,h,g⟩
   ·exact Tot.ret ⟨rfl,by simp only;omega,h2,h1,h4,by simp only;omega⟩
   ·exact Tot.ret ⟨rfl,by simp only;omega,h2,h1,h4,by simp only;omega⟩
  ·rintro _ ⟨rfl,g1,g2⟩
   refine Tot.bindE (fun y=>y.1=s1∧y.2.2.1=m1∧(∀ z∈y.2.2.2.1,z.length≤s1.length)∧(y.2.2.2.1.length:Int)≤m1∧(y.2.2.2.1.length:Int)≤i+1∧0≤y.2.2.2.2.1∧y.2.2.2.2.1≤i+1∧y.2.2.2.2.2=i) ?_ ?_
   ·refine Tot.grd (by simp only [decide_eq_true_eq];omega) (Tot.at (by omega) fun x _=>Tot.cnd (fun _=>?_) fun _=>?_)
    ·refine Tot.grd (by simp only [Bool.and_eq_true,decide_eq_true_eq];omega) (Tot.grd (by simp only [Bool.and_eq_true,decide_eq_true_eq];omega) (Tot.ret ⟨rfl,rfl,?_,?_,?_,?_,?_,rfl⟩))
     ·intro z hz
      simp only [List.mem_append,List.mem_singleton] at hz
      rcases hz with hz | rfl
      ·exact h1 z hz
      ·simp only [List.length_drop,List.length_take];omega
     ·simp only [List.length_append,List.length_cons,List.length_nil];omega
     ·simp only [List.length_append,List.length_cons,List.length_nil];omega
     ·simp only;rw [wrapI (by omega) (by omega)];omega
     ·simp only;rw [wrapI (by omega) (by omega)];omega
    ·exact Tot.ret ⟨rfl,rfl,h1,h2,by simp only;omega,h4,by simp only;omega,rfl⟩
   ·rintro ⟨s2,b2,m2,out2,fr2,i2⟩ ⟨rfl,rfl,k1,k2,k3,k4,k5,rfl⟩
    simp only at k1 k2 k3 k4 k5 hs g1 g2 h4 h5
    have hw:IntKind.wrap .i64 (i2+1)=i2+1:=wrapI (by omega) (by omega)
    refine Tot.ret ⟨⟨rfl,rfl,k1,k2,?_,k4,?_,?_⟩,?_⟩ <;> (simp only;rw [hw];omega)
 ·rintro ⟨s1,out,fr⟩ ⟨rfl,h1,h2,h3,h4,h5⟩
  simp only at h1 h2 h3 h4 h5 hs
  refine Tot.grd (by simp only [Bool.and_eq_true,decide_eq_true_eq];omega) (Tot.grd (by simp only [Bool.and_eq_true,decide_eq_true_eq];omega) (Tot.ret ⟨?_,?_,?_,?_⟩))
  ·simp
  ·simp only [List.length_append,List.length_cons,List.length_nil];omega
  ·simp only [List.length_append,List.length_cons,List.length_nil];omega
  ·intro z hz
   simp only [List.mem_append,List.mem_singleton] at hz
   rcases hz with hz | rfl
   ·exact h3 z hz
   ·simp only [List.length_drop,List.length_take];omega
end Go.Proofs.YtdpapeledldifaaGreat
end
section
namespace Go.Proofs.YtdpapeledldifaaGreat
open Go Go.AM Go.TM
set_option maxRecDepth 10000
def Gt (K:Nat) (g:List UInt8×List UInt8×List UInt8×Int×List UInt8):Prop :=
 g.1.length≤K∧g.2.1.length≤K∧g.2.2.1.length≤K∧((-9223372036854775808:Int)≤g.2.2.2.1∧g.2.2.2.1≤(9223372036854775807:Int))∧g.2.2.2.2.length≤3
theorem Gt.mono {K L:Nat} {g:List UInt8×List UInt8×List UInt8×Int×List UInt8} (h:Gt K g) (hc:K≤L):Gt L g :=
 ⟨Nat.le_trans h.1 hc,Nat.le_trans h.2.1 hc,Nat.le_trans h.2.2.1 hc,h.2.2.2.1,h.2.2.2.2⟩
theorem zDA {m:Nat} {l:List (List UInt8)} {r:List UInt8×Int} {c:Nat} (h:Rd c r) (hc:c≤1000000) (hl:l≠[]) (hm:∀ x∈l,x.length≤m):Tot (F119 (l,r)) fun y=>y.1.length≤m∧Rd (c+1) y.2 :=
 (t119 h hc hl).mono fun y hy=>⟨hm _ hy.1,hy.2⟩
theorem t105b {m:Int} {l:List Int} {r:List UInt8×Int} {c:Nat} (h:Rd c r) (hc:c≤1000000) (hl:l≠[]) (hm:∀ x∈l,-m≤x∧x≤m):Tot (F105 (l,r)) fun y=>-m≤y.1∧y.1≤m∧Rd (c+1) y.2 :=
 (t105 h hc hl).mono fun y hy=>⟨(hm _ hy.1).1,(hm _ hy.1).2,hy.2⟩
theorem t273 {s:List UInt8} {g:List UInt8×List UInt8×List UInt8×Int×List UInt8} {r:List UInt8×Int} {K:Nat} {c:Nat} (hs:List.length s≤100) (hg:Gt K g) (hr:Rd c r) (hK:K≤950000) (hc:c≤950000):Tot (F273 (s,g,r)) fun y=>Gt (K+110) y.1∧Rd (c+0) y.2:=by
 obtain ⟨o1,o2,o3,o4,o5⟩:=g
 have ko1:List.length o1≤K+0:=hg.1
 have ko2:List.length o2≤K+0:=hg.2.1
 have ko3:List.length o3≤K+0:=hg.2.2.1
 have ko5:List.length o5≤3:=hg.2.2.2.2
 obtain ⟨o0,o11⟩:=r
 unfold F273
 refine Tot.grd (by simp <;> omega) ?_
 refine Tot.grd (by simp <;> omega) ?_
 refine Tot.grd (by simp <;> omega) ?_
 refine Tot.bind (P:=fun y=>y.length≤100) (Tot.ret (by decide)) ?_
 intro y ky
 refine Tot.seq (by repeat first | exact Tot.ret trivial | refine Tot.seq ?_ ?_ | refine Tot.grd (by first | decide | simp <;> omega) ?_) ?_
 refine Tot.bind (t278 (by omega) (by omega)) ?_
 intro y1 ky1
 refine Tot.seq (by repeat first | exact Tot.ret trivial | refine Tot.seq ?_ ?_ | refine Tot.grd (by first | decide | simp <;> omega) ?_) ?_
 refine Tot.at (by omega) fun x _=>?_
 refine Tot.bind (t301 (by omega)) ?_
 intro y2 _
 refine Tot.seq (by repeat first | exact Tot.ret trivial | refine Tot.seq ?_ ?_ | refine Tot.grd (by first | decide | simp <;> omega) ?_) ?_
 refine Tot.bind (t251 _) ?_
 intro y3 _
 refine Tot.seq (by repeat first | exact Tot.ret trivial | refine Tot.seq ?_ ?_ | refine Tot.grd (by first | decide | simp <;> omega) ?_) ?_
 exact Tot.ret ⟨⟨(by show List.length _≤_;first | omega | simp <;> omega),(by show List.length _≤_;first | omega | simp <;> omega),(by show List.length _≤_;first | omega | simp <;> omega),(zFQ _),(by show List.length _≤_;first | omega | simp <;> omega)⟩,hr.mono (by omega)⟩
theorem t277 {g:List UInt8×List UInt8×List UInt8×Int×List UInt8} {r:List UInt8×Int} {K:Nat} {c:Nat} (hg:Gt K g) (hr:Rd c r) (hK:K≤950000) (hc:c≤950000):Tot (F277 (g,r)) fun y=>List.length y.1≤25∧Gt (K+0) y.2.1∧Rd (c+1) y.2.2:=by
 obtain ⟨o1,o2,o3,o4,o5⟩:=g
 obtain ⟨o0,o11⟩:=r
 unfold F277
 refine Tot.bind (t51 hr (by omega)) ?_
 rintro ⟨y,y1,y2⟩ ⟨(a2:(0:Int)≤y),(b3:(1:Int)≤(3:Int)→y<(3:Int)),-,hr1⟩
 refine Tot.bind (t274 (by omega) (by omega)) ?_
 intro y3 (ky3:List.length y3≤25)
 exact Tot.ret ⟨(by first | omega | simp <;> omega),hg.mono (by omega),hr1.mono (by omega)⟩
theorem t308 {g:List UInt8×List UInt8×List UInt8×Int×List UInt8} {r:List UInt8×Int} {K:Nat} {c:Nat} (hg:Gt K g) (hr:Rd c r) (hK:K≤950000) (hc:c≤950000):Tot (F308 (g,r)) fun y=>List.length y.1≤20∧Gt (K+0) y.2.1∧Rd (c+0) y.2.2:=by
 obtain ⟨o1,o2,o3,o4,o5⟩:=g
 have ko1:List.length o1≤K+0:=hg.1
 have ko2:List.length o2≤K+0:=hg.2.1
 have ko3:List.length o3≤K+0:=hg.2.2.1
 have ko5:List.length o5≤3:=hg.2.2.2.2
 obtain ⟨o0,o11⟩:=r
 unfold F308
 refine Tot.grd (by simp <;> omega) ?_
 refine Tot.grd (by simp <;> omega) ?_
 refine Tot.grd (by simp <;> omega) ?_
 refine Tot.grd (by simp <;> omega) ?_
 exact Tot.ret ⟨(by first | omega | simp <;> omega),hg.mono (by omega),hr.mono (by omega)⟩
theorem t307 {locals:List UInt8} {stack:List UInt8} {g:List UInt8×List UInt8×List UInt8×Int×List UInt8} {r:List UInt8×Int} {K:Nat} {c:Nat} (hlocals:List.length locals≤20) (hstack:List.length stack≤20) (hg:Gt K g) (hr:Rd c r) (hK:K≤950000) (hc:c≤950000):Tot (F307 (locals,stack,g,r)) fun y=>Gt (K+110) y.1∧Rd (c+0) y.2:=by
 obtain ⟨o1,o2,o3,o4,o5⟩:=g
 have ko1:List.length o1≤K+0:=hg.1
 have ko2:List.length o2≤K+0:=hg.2.1
 have ko3:List.length o3≤K+0:=hg.2.2.1
 have ko5:List.length o5≤3:=hg.2.2.2.2
 obtain ⟨o0,o11⟩:=r
 unfold F307
 refine Tot.grd (by simp <;> omega) ?_
 refine Tot.bind (t274 hg.2.2.2.1.1 hg.2.2.2.1.2) ?_
 intro y (ky:List.length y≤25)
 refine Tot.seq (by repeat first | exact Tot.ret trivial | refine Tot.seq ?_ ?_ | refine Tot.grd (by first | decide | simp <;> omega) ?_) ?_
 refine Tot.grd (by simp <;> omega) ?_
 refine Tot.grd (by simp <;> omega) ?_
 refine Tot.grd (by simp <;> omega) ?_
 refine Tot.grd (by simp <;> omega) ?_
 refine Tot.grd (by simp <;> omega) ?_
 refine Tot.grd (by simp <;> omega) ?_
 exact Tot.ret ⟨⟨(by show List.length _≤_;first | omega | simp <;> omega),(by show List.length _≤_;first | omega | simp <;> omega),(by show List.length _≤_;first | omega | simp <;> omega),⟨hg.2.2.2.1.1,hg.2.2.2.1.2⟩,(by show List.length _≤_;first | omega | simp <;> omega)⟩,hr.mono (by omega)⟩
theorem t303 {g:List UInt8×List UInt8×List UInt8×Int×List UInt8} {r:List UInt8×Int} {K:Nat} {c:Nat} (hg:Gt K g) (hr:Rd c r) (hK:K≤900000) (hc:c≤900000):Tot (F303 (g,r)) fun y=>Gt (K+500) y.1∧Rd (c+10) y.2:=by
 obtain ⟨o1,o2,o3,o4,o5⟩:=g
 obtain ⟨o0,o11⟩:=r
 unfold F303
 refine Tot.bind (t51 hr (by omega)) ?_
 rintro ⟨y,y1,y2⟩ ⟨(a2:(0:Int)≤y),(b3:(1:Int)≤(6:Int)→y<(6:Int)),-,hr1⟩
 refine Tot.bindE (fun y=>Gt (K+330) y.1∧Rd (c+4) y.2) ?_ ?_
 ·refine Tot.cnd (fun c4=>?_) (fun c4=>?_)
  ·refine Tot.bind (t277 hg hr1 (by omega) (by omega)) ?_
   rintro ⟨y3,⟨y4,y5,y6,y7,y8⟩,x,x1⟩ ⟨(ky3:List.length y3≤25),hg5,hr6⟩
   refine Tot.grd (by simp <;> omega) ?_
   refine Tot.bind (t273 (by first | omega | simp <;> omega) hg5 hr6 (by omega) (by omega)) ?_
   rintro ⟨⟨y9,y10,y11,y12,y13⟩,y14,x2⟩ ⟨hg7,hr8⟩
   refine Tot.bind (t273 (by first | omega | simp <;> omega) hg7 hr8 (by omega) (by omega)) ?_
   rintro ⟨⟨y15,y16,y17,y18,y19⟩,y20,x3⟩ ⟨hg9,hr10⟩
   exact Tot.ret ⟨hg9.mono (by omega),hr10.mono (by omega)⟩
  ·refine Tot.cnd (fun c11=>?_) (fun c11=>?_)
   ·refine Tot.bind (t277 hg hr1 (by omega) (by omega)) ?_
    rintro ⟨y3,⟨y4,y5,y6,y7,y8⟩,x,x1⟩ ⟨(ky3:List.length y3≤25),hg12,hr13⟩
    refine Tot.grd (by simp <;> omega) ?_
    refine Tot.bind (t273 (by first | omega | simp <;> omega) hg12 hr13 (by omega) (by omega)) ?_
    rintro ⟨⟨y9,y10,y11,y12,y13⟩,y14,x2⟩ ⟨hg14,hr15⟩
    refine Tot.bind (t273 (by first | omega | simp <;> omega) hg14 hr15 (by omega) (by omega)) ?_
    rintro ⟨⟨y15,y16,y17,y18,y19⟩,y20,x3⟩ ⟨hg16,hr17⟩
    exact Tot.ret ⟨hg16.mono (by omega),hr17.mono (by omega)⟩
   ·refine Tot.cnd (fun c18=>?_) (fun c18=>?_)
    ·refine Tot.bind (t273 (by first | omega | simp <;> omega) hg hr1 (by omega) (by omega)) ?_
     rintro ⟨⟨y3,y4,y5,y6,y7⟩,y8,x⟩ ⟨hg19,hr20⟩
     exact Tot.ret ⟨hg19.mono (by omega),hr20.mono (by omega)⟩
    ·refine Tot.cnd (fun c21=>?_) (fun c21=>?_)
     ·refine Tot.bind (t105b (m:=100000) hr1 (by omega) (by simp) (by decide)) ?_
      rintro ⟨y3,y4,y5⟩ ⟨(a23:(-100000:Int)≤y3),(b24:y3≤(100000:Int)),hr22⟩
      refine Tot.bind (t274 (by omega) (by omega)) ?_
      intro y6 (ky6:List.length y6≤25)
      refine Tot.grd (by simp <;> omega) ?_
      refine Tot.bind (t273 (by first | omega | simp <;> omega) hg hr22 (by omega) (by omega)) ?_
      rintro ⟨⟨y7,y8,y9,y10,y11⟩,y12,x⟩ ⟨hg25,hr26⟩
      refine Tot.bind (t105b (m:=100000) hr26 (by omega) (by simp) (by decide)) ?_
      rintro ⟨y13,y14,y15⟩ ⟨(a28:(-100000:Int)≤y13),(b29:y13≤(100000:Int)),hr27⟩
      refine Tot.bind (t274 (by omega) (by omega)) ?_
      intro y16 (ky16:List.length y16≤25)
      refine Tot.grd (by simp <;> omega) ?_
      refine Tot.bind (t273 (by first | omega | simp <;> omega) hg25 hr27 (by omega) (by omega)) ?_
      rintro ⟨⟨y17,y18,y19,y20,y21⟩,y22,x1⟩ ⟨hg30,hr31⟩
      refine Tot.bind (zDA (m:=3) hr31 (by omega) (by simp) (by decide)) ?_
      rintro ⟨y23,y24,y25⟩ ⟨(ky23:List.length y23≤3),hr32⟩
      refine Tot.bind (t273 (by first | omega | simp <;> omega) hg30 hr32 (by omega) (by omega)) ?_
      rintro ⟨⟨y26,y27,y28,y29,y30⟩,y31,x2⟩ ⟨hg33,hr34⟩
      exact Tot.ret ⟨hg33.mono (by omega),hr34.mono (by omega)⟩
     ·refine Tot.bind (t105b (m:=100000) hr1 (by omega) (by simp) (by decide)) ?_
      rintro ⟨y3,y4,y5⟩ ⟨(a36:(-100000:Int)≤y3),(b37:y3≤(100000:Int)),hr35⟩
      refine Tot.bind (t274 (by omega) (by omega)) ?_
      intro y6 (ky6:List.length y6≤25)
      refine Tot.grd (by simp <;> omega) ?_
      refine Tot.bind (t273 (by first | omega | simp <;> omega) hg hr35 (by omega) (by omega)) ?_
      rintro ⟨⟨y7,y8,y9,y10,y11⟩,y12,x⟩ ⟨hg38,hr39⟩
      exact Tot.ret ⟨hg38.mono (by omega),hr39.mono (by omega)⟩
 rintro ⟨⟨o12,o21,o31,o41,o51⟩,o01,o13⟩ ⟨hg40,hr41⟩
 exact Tot.ret ⟨hg40.mono (by omega),hr41.mono (by omega)⟩
theorem t304 {g:List UInt8×List UInt8×List UInt8×Int×List UInt8} {r:List UInt8×Int} {K:Nat} {c:Nat} (hg:Gt K g) (hr:Rd c r) (hK:K≤900000) (hc:c≤900000):Tot (F304 (g,r)) fun y=>Gt (K+300) y.1∧Rd (c+5) y.2:=by
 obtain ⟨o1,o2,o3,o4,o5⟩:=g
 obtain ⟨o0,o11⟩:=r
 unfold F304
 refine Tot.bind (t51 hr (by omega)) ?_
 rintro ⟨y,y1,y2⟩ ⟨(a2:(0:Int)≤y),(b3:(1:Int)≤(10:Int)→y<(10:Int)),-,hr1⟩
 refine Tot.bindE (fun y=>Gt (K+220) y.1∧Rd (c+3) y.2) ?_ ?_
 ·refine Tot.cnd (fun c4=>?_) (fun c4=>?_)
  ·refine Tot.bind (t273 (by first | omega | simp <;> omega) hg hr1 (by omega) (by omega)) ?_
   rintro ⟨⟨y3,y4,y5,y6,y7⟩,y8,x⟩ ⟨hg5,hr6⟩
   exact Tot.ret ⟨hg5.mono (by omega),hr6.mono (by omega)⟩
  ·refine Tot.bindE (fun y=>Gt (K+0) y.2.2.1∧Rd (c+1) y.2.2.2) ?_ ?_
   ·refine Tot.cnd (fun c7=>?_) (fun c7=>?_)
    ·exact Tot.ret ⟨hg.mono (by omega),hr1.mono (by omega)⟩
    ·exact Tot.ret ⟨hg.mono (by omega),hr1.mono (by omega)⟩
   rintro ⟨v8,v15,⟨o12,o21,o31,o41,o51⟩,o01,o13⟩ ⟨hg8,hr9⟩
   refine Tot.cnd (fun c10=>?_) (fun c10=>?_)
   ·refine Tot.bind (t273 (by first | omega | simp <;> omega) hg8 hr9 (by omega) (by omega)) ?_
    rintro ⟨⟨y3,y4,y5,y6,y7⟩,y8,x⟩ ⟨hg11,hr12⟩
    exact Tot.ret ⟨hg11.mono (by omega),hr12.mono (by omega)⟩
   ·refine Tot.cnd (fun c13=>?_) (fun c13=>?_)
    ·refine Tot.bind (t273 (by first | omega | simp <;> omega) hg8 hr9 (by omega) (by omega)) ?_
     rintro ⟨⟨y3,y4,y5,y6,y7⟩,y8,x⟩ ⟨hg14,hr15⟩
     exact Tot.ret ⟨hg14.mono (by omega),hr15.mono (by omega)⟩
    ·refine Tot.cnd (fun c16=>?_) (fun c16=>?_)
     ·refine Tot.bind (t277 hg8 hr9 (by omega) (by omega)) ?_
      rintro ⟨y3,⟨y4,y5,y6,y7,y8⟩,x,x1⟩ ⟨(ky3:List.length y3≤25),hg17,hr18⟩
      refine Tot.grd (by simp <;> omega) ?_
      refine Tot.bind (t273 (by first | omega | simp <;> omega) hg17 hr18 (by omega) (by omega)) ?_
      rintro ⟨⟨y9,y10,y11,y12,y13⟩,y14,x2⟩ ⟨hg19,hr20⟩
      refine Tot.bind (zDA (m:=1) hr20 (by omega) (by simp) (by decide)) ?_
      rintro ⟨y15,y16,y17⟩ ⟨(ky15:List.length y15≤1),hr21⟩
      refine Tot.grd (by simp <;> omega) ?_
      refine Tot.bind (t273 (by first | omega | simp <;> omega) hg19 hr21 (by omega) (by omega)) ?_
      rintro ⟨⟨y18,y19,y20,y21,y22⟩,y23,x3⟩ ⟨hg22,hr23⟩
      exact Tot.ret ⟨hg22.mono (by omega),hr23.mono (by omega)⟩
     ·refine Tot.cnd (fun c24=>?_) (fun c24=>?_)
      ·refine Tot.bind (t277 hg8 hr9 (by omega) (by omega)) ?_
       rintro ⟨y3,⟨y4,y5,y6,y7,y8⟩,x,x1⟩ ⟨(ky3:List.length y3≤25),hg25,hr26⟩
       refine Tot.grd (by simp <;> omega) ?_
       refine Tot.bind (t273 (by first | omega | simp <;> omega) hg25 hr26 (by omega) (by omega)) ?_
       rintro ⟨⟨y9,y10,y11,y12,y13⟩,y14,x2⟩ ⟨hg27,hr28⟩
       refine Tot.bind (t273 (by first | omega | simp <;> omega) hg27 hr28 (by omega) (by omega)) ?_
       rintro ⟨⟨y15,y16,y17,y18,y19⟩,y20,x3⟩ ⟨hg29,hr30⟩
       exact Tot.ret ⟨hg29.mono (by omega),hr30.mono (by omega)⟩
      ·refine Tot.cnd (fun c31=>?_) (fun c31=>?_)
       ·refine Tot.bind (zDA (m:=3) hr9 (by omega) (by simp) (by decide)) ?_
        rintro ⟨y3,y4,y5⟩ ⟨(ky3:List.length y3≤3),hr32⟩
        refine Tot.grd (by simp <;> omega) ?_
        refine Tot.bind (t273 (by first | omega | simp <;> omega) hg8 hr32 (by omega) (by omega)) ?_
        rintro ⟨⟨y6,y7,y8,y9,y10⟩,y11,x⟩ ⟨hg33,hr34⟩
        exact Tot.ret ⟨hg33.mono (by omega),hr34.mono (by omega)⟩
       ·refine Tot.bind (t273 (by first | omega | simp <;> omega) hg8 hr9 (by omega) (by omega)) ?_
        rintro ⟨⟨y3,y4,y5,y6,y7⟩,y8,x⟩ ⟨hg35,hr36⟩
        exact Tot.ret ⟨hg35.mono (by omega),hr36.mono (by omega)⟩
 rintro ⟨⟨o12,o21,o31,o41,o51⟩,o01,o13⟩ ⟨hg37,hr38⟩
 exact Tot.ret ⟨hg37.mono (by omega),hr38.mono (by omega)⟩
theorem t305 {g:List UInt8×List UInt8×List UInt8×Int×List UInt8} {r:List UInt8×Int} {K:Nat} {c:Nat} (hg:Gt K g) (hr:Rd c r) (hK:K≤850000) (hc:c≤850000):Tot (F305 (g,r)) fun y=>Gt (K+1200) y.1∧Rd (c+20) y.2:=by
 obtain ⟨o1,o2,o3,o4,o5⟩:=g
 obtain ⟨o0,o11⟩:=r
 unfold F305
 refine Tot.bind (zDA (m:=6) hr (by omega) (by simp) (by decide)) ?_
 rintro ⟨y,y1,y2⟩ ⟨(ky:List.length y≤6),hr1⟩
 refine Tot.bindE (fun y=>List.length y.1≤10∧Gt (K+500) y.2.1∧Rd (c+11) y.2.2) ?_ ?_
 ·refine Tot.cnd (fun c2=>?_) (fun c2=>?_)
  ·refine Tot.bind (t277 hg hr1 (by omega) (by omega)) ?_
   rintro ⟨y3,⟨y4,y5,y6,y7,y8⟩,x,x1⟩ ⟨(ky3:List.length y3≤25),hg3,hr4⟩
   refine Tot.grd (by simp <;> omega) ?_
   refine Tot.bind (t273 (by first | omega | simp <;> omega) hg3 hr4 (by omega) (by omega)) ?_
   rintro ⟨⟨y9,y10,y11,y12,y13⟩,y14,x2⟩ ⟨hg5,hr6⟩
   exact Tot.ret ⟨(by first | omega | simp <;> omega),hg5.mono (by omega),hr6.mono (by omega)⟩
  ·refine Tot.cnd (fun c7=>?_) (fun c7=>?_)
   ·refine Tot.bind (t277 hg hr1 (by omega) (by omega)) ?_
    rintro ⟨y3,⟨y4,y5,y6,y7,y8⟩,x,x1⟩ ⟨(ky3:List.length y3≤25),hg8,hr9⟩
    refine Tot.grd (by simp <;> omega) ?_
    refine Tot.bind (t273 (by first | omega | simp <;> omega) hg8 hr9 (by omega) (by omega)) ?_
    rintro ⟨⟨y9,y10,y11,y12,y13⟩,y14,x2⟩ ⟨hg10,hr11⟩
    refine Tot.bind (t277 hg10 hr11 (by omega) (by omega)) ?_
    rintro ⟨y15,⟨y16,y17,y18,y19,y20⟩,x3,x4⟩ ⟨(ky15:List.length y15≤25),hg12,hr13⟩
    refine Tot.grd (by simp <;> omega) ?_
    refine Tot.bind (t273 (by first | omega | simp <;> omega) hg12 hr13 (by omega) (by omega)) ?_
    rintro ⟨⟨y21,y22,y23,y24,y25⟩,y26,x5⟩ ⟨hg14,hr15⟩
    exact Tot.ret ⟨(by first | omega | simp <;> omega),hg14.mono (by omega),hr15.mono (by omega)⟩
   ·refine Tot.bind (t303 hg hr1 (by omega) (by omega)) ?_
    rintro ⟨⟨y3,y4,y5,y6,y7⟩,y8,x⟩ ⟨hg16,hr17⟩
    exact Tot.ret ⟨(by first | omega | simp <;> omega),hg16.mono (by omega),hr17.mono (by omega)⟩
 rintro ⟨test,⟨o12,o21,o31,o41,o51⟩,o01,o13⟩ ⟨(ktest:List.length test≤10),hg18,hr19⟩
 refine Tot.grd (by simp <;> omega) ?_
 refine Tot.bind (t274 (zFQ _).1 (zFQ _).2) ?_
 intro y3 (ky3:List.length y3≤25)
 refine Tot.grd (by simp <;> omega) ?_
 refine Tot.bind (t273 (by first | omega | simp <;> omega) hg18 hr19 (by omega) (by omega)) ?_
 rintro ⟨⟨y4,y5,y6,y7,y8⟩,y9,x⟩ ⟨hg20,hr21⟩
 refine Tot.bind (t273 (by first | omega | simp <;> omega) hg20 hr21 (by omega) (by omega)) ?_
 rintro ⟨⟨y10,y11,y12,y13,y14⟩,y15,x1⟩ ⟨hg22,hr23⟩
 refine Tot.bind (t273 (by first | omega | simp <;> omega) hg22 hr23 (by omega) (by omega)) ?_
 rintro ⟨⟨y16,y17,y18,y19,y20⟩,y21,x2⟩ ⟨hg24,hr25⟩
 refine Tot.bind (t308 hg24 hr25 (by omega) (by omega)) ?_
 rintro ⟨y22,⟨y23,y24,y25,y26,y27⟩,x3,x4⟩ ⟨(ky22:List.length y22≤20),hg26,hr27⟩
 refine Tot.bind (zDA (m:=1) hr27 (by omega) (by simp) (by decide)) ?_
 rintro ⟨y28,y29,y30⟩ ⟨(ky28:List.length y28≤1),hr28⟩
 refine Tot.bind (t307 (by first | omega | simp <;> omega) (by first | omega | simp <;> omega) hg26 hr28 (by omega) (by omega)) ?_
 rintro ⟨⟨y31,y32,y33,y34,y35⟩,y36,x5⟩ ⟨hg29,hr30⟩
 exact Tot.ret ⟨hg29.mono (by omega),hr30.mono (by omega)⟩
theorem t306 {g:List UInt8×List UInt8×List UInt8×Int×List UInt8} {r:List UInt8×Int} {K:Nat} {c:Nat} (hg:Gt K g) (hr:Rd c r) (hK:K≤850000) (hc:c≤850000):Tot (F306 (g,r)) fun y=>Gt (K+600) y.1∧Rd (c+5) y.2:=by
 obtain ⟨o1,o2,o3,o4,o5⟩:=g
 obtain ⟨o0,o11⟩:=r
 unfold F306
 refine Tot.bind (t51 hr (by omega)) ?_
 rintro ⟨y,y1,y2⟩ ⟨(a2:(0:Int)≤y),(b3:(1:Int)≤(5:Int)→y<(5:Int)),-,hr1⟩
 refine Tot.bindE (fun y=>Gt (K+440) y.1∧Rd (c+2) y.2) ?_ ?_
 ·refine Tot.cnd (fun c4=>?_) (fun c4=>?_)
  ·refine Tot.bind (t277 hg hr1 (by omega) (by omega)) ?_
   rintro ⟨y3,⟨y4,y5,y6,y7,y8⟩,x,x1⟩ ⟨(ky3:List.length y3≤25),hg5,hr6⟩
   refine Tot.grd (by simp <;> omega) ?_
   refine Tot.bind (t273 (by first | omega | simp <;> omega) hg5 hr6 (by omega) (by omega)) ?_
   rintro ⟨⟨y9,y10,y11,y12,y13⟩,y14,x2⟩ ⟨hg7,hr8⟩
   refine Tot.bind (t273 (by first | omega | simp <;> omega) hg7 hr8 (by omega) (by omega)) ?_
   rintro ⟨⟨y15,y16,y17,y18,y19⟩,y20,x3⟩ ⟨hg9,hr10⟩
   refine Tot.bind (t273 (by first | omega | simp <;> omega) hg9 hr10 (by omega) (by omega)) ?_
   rintro ⟨⟨y21,y22,y23,y24,y25⟩,y26,x4⟩ ⟨hg11,hr12⟩
   exact Tot.ret ⟨hg11.mono (by omega),hr12.mono (by omega)⟩
  ·refine Tot.cnd (fun c13=>?_) (fun c13=>?_)
   ·refine Tot.bind (t273 (by first | omega | simp <;> omega) hg hr1 (by omega) (by omega)) ?_
    rintro ⟨⟨y3,y4,y5,y6,y7⟩,y8,x⟩ ⟨hg14,hr15⟩
    refine Tot.bind (t277 hg14 hr15 (by omega) (by omega)) ?_
    rintro ⟨y9,⟨y10,y11,y12,y13,y14⟩,x1,x2⟩ ⟨(ky9:List.length y9≤25),hg16,hr17⟩
    refine Tot.grd (by simp <;> omega) ?_
    refine Tot.bind (t273 (by first | omega | simp <;> omega) hg16 hr17 (by omega) (by omega)) ?_
    rintro ⟨⟨y15,y16,y17,y18,y19⟩,y20,x3⟩ ⟨hg18,hr19⟩
    exact Tot.ret ⟨hg18.mono (by omega),hr19.mono (by omega)⟩
   ·refine Tot.cnd (fun c20=>?_) (fun c20=>?_)
    ·refine Tot.bind (t273 (by first | omega | simp <;> omega) hg hr1 (by omega) (by omega)) ?_
     rintro ⟨⟨y3,y4,y5,y6,y7⟩,y8,x⟩ ⟨hg21,hr22⟩
     refine Tot.bind (t277 hg21 hr22 (by omega) (by omega)) ?_
     rintro ⟨y9,⟨y10,y11,y12,y13,y14⟩,x1,x2⟩ ⟨(ky9:List.length y9≤25),hg23,hr24⟩
     refine Tot.grd (by simp <;> omega) ?_
     refine Tot.bind (t273 (by first | omega | simp <;> omega) hg23 hr24 (by omega) (by omega)) ?_
     rintro ⟨⟨y15,y16,y17,y18,y19⟩,y20,x3⟩ ⟨hg25,hr26⟩
     exact Tot.ret ⟨hg25.mono (by omega),hr26.mono (by omega)⟩
    ·refine Tot.cnd (fun c27=>?_) (fun c27=>?_)
     ·refine Tot.bind (t277 hg hr1 (by omega) (by omega)) ?_
      rintro ⟨y3,⟨y4,y5,y6,y7,y8⟩,x,x1⟩ ⟨(ky3:List.length y3≤25),hg28,hr29⟩
      refine Tot.grd (by simp <;> omega) ?_
      refine Tot.bind (t273 (by first | omega | simp <;> omega) hg28 hr29 (by omega) (by omega)) ?_
      rintro ⟨⟨y9,y10,y11,y12,y13⟩,y14,x2⟩ ⟨hg30,hr31⟩
      refine Tot.bind (t273 (by first | omega | simp <;> omega) hg30 hr31 (by omega) (by omega)) ?_
      rintro ⟨⟨y15,y16,y17,y18,y19⟩,y20,x3⟩ ⟨hg32,hr33⟩
      exact Tot.ret ⟨hg32.mono (by omega),hr33.mono (by omega)⟩
     ·refine Tot.bind (t273 (by first | omega | simp <;> omega) hg hr1 (by omega) (by omega)) ?_
      rintro ⟨⟨y3,y4,y5,y6,y7⟩,y8,x⟩ ⟨hg34,hr35⟩
      refine Tot.bind (t277 hg34 hr35 (by omega) (by omega)) ?_
      rintro ⟨y9,⟨y10,y11,y12,y13,y14⟩,x1,x2⟩ ⟨(ky9:List.length y9≤25),hg36,hr37⟩
      refine Tot.grd (by simp <;> omega) ?_
      refine Tot.bind (t273 (by first | omega | simp <;> omega) hg36 hr37 (by omega) (by omega)) ?_
      rintro ⟨⟨y15,y16,y17,y18,y19⟩,y20,x3⟩ ⟨hg38,hr39⟩
      refine Tot.bind (t273 (by first | omega | simp <;> omega) hg38 hr39 (by omega) (by omega)) ?_
      rintro ⟨⟨y21,y22,y23,y24,y25⟩,y26,x4⟩ ⟨hg40,hr41⟩
      refine Tot.bind (t273 (by first | omega | simp <;> omega) hg40 hr41 (by omega) (by omega)) ?_
      rintro ⟨⟨y27,y28,y29,y30,y31⟩,y32,x5⟩ ⟨hg42,hr43⟩
      exact Tot.ret ⟨hg42.mono (by omega),hr43.mono (by omega)⟩
 rintro ⟨⟨o12,o21,o31,o41,o51⟩,o01,o13⟩ ⟨hg44,hr45⟩
 exact Tot.ret ⟨hg44.mono (by omega),hr45.mono (by omega)⟩
end Go.Proofs.YtdpapeledldifaaGreat
end
section
namespace Go.Proofs.YtdpapeledldifaaGreat
open Go Go.AM Go.TM
def bCst (c:Cst):Prop:=c.2.1.length≤1048576
def zIF (l:List Knd):Prop:=l.length≤1048576
def bFrm (f:Frm):Prop:=zIF f.2.1∧zIF f.2.2
def bMth (m:Mth):Prop:=m.2.2.2.2.2.1.length≤1048576∧m.2.2.2.2.2.2.1.length≤1048576∧m.2.2.2.2.2.2.2.length≤1048576∧∀ f∈m.2.2.2.2.2.2.2,bFrm f
def bCls (c:Cls):Prop:=(c.1.length≤1048576∧∀ x∈c.1,bCst x)∧c.2.2.2.2.1.length≤1048576∧c.2.2.2.2.2.1.length≤1048576∧c.2.2.2.2.2.2.length≤1048576∧∀ x∈c.2.2.2.2.2.2,bMth x
end Go.Proofs.YtdpapeledldifaaGreat
end
