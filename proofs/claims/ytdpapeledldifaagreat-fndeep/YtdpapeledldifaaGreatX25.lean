/- Part 26 of the proof of FnDeep; no condition. -/
import Derived.Test.YtdpapeledldifaaGreatX24
import Derived.Test.YtdpapeledldifaaGreatProg
open Option renaming some -> U
open Decidable renaming decide -> aa
open Bool renaming true -> ad
open Bool renaming false -> ag
open Option renaming none -> aj
open Sum renaming inl -> an
open Sum renaming inr -> ao
open List renaming length -> au
open Int renaming toNat -> aH
open List renaming drop -> kZ
open List renaming take -> nY
set_option autoImplicit true
set_option relaxedAutoImplicit true
set_option linter.all false
namespace Go.Proofs.YtdpapeledldifaaGreat
section
open Go.AM
set_option maxRecDepth 100000
def BS:List (Nat×TI):=[
 (2,⟨.int .i64,1,8,[.i .i64 0],ad⟩),
 (3,⟨.int .i64,1,8,[.i .i64 0],ad⟩),
 (4,⟨.bool,1,1,[.b ag],ad⟩),
 (5,⟨.int .u8,1,1,[.i .u8 0],ad⟩),
 (6,⟨.int .u8,1,1,[.i .u8 0],ad⟩),
 (7,⟨.struct [(2,0),(3,1),(4,2),(6,3)],4,24,[.i .i64 0,.i .i64 0,.b ag,.i .u8 0],ad⟩),
 (8,⟨.struct [(2,0),(3,1),(4,2),(6,3)],4,24,[.i .i64 0,.i .i64 0,.b ag,.i .u8 0],ad⟩),
 (9,⟨.str,1,16,[.s []],ad⟩),
 (10,⟨.str,1,16,[.s []],ad⟩),
 (11,⟨.str,1,16,[.s []],ad⟩),
 (12,⟨.int .u64,1,8,[.i .u64 0],ad⟩),
 (15,⟨.ptr,1,8,[.nilp],ad⟩),
 (16,⟨.ptr,1,8,[.nilp],ad⟩),
 (17,⟨.ptr,1,8,[.nilp],ad⟩),
 (21,⟨.int .i32,1,4,[.i .i32 0],ad⟩),
 (22,⟨.slice 5,1,24,[.nil],ad⟩),
 (23,⟨.slice 27,1,24,[.nil],ad⟩),
 (26,⟨.struct [(3,0),(9,1),(3,2),(3,3)],4,40,[.i .i64 0,.s [],.i .i64 0,.i .i64 0],ad⟩),
 (27,⟨.struct [(3,0),(9,1),(3,2),(3,3)],4,40,[.i .i64 0,.s [],.i .i64 0,.i .i64 0],ad⟩),
 (30,⟨.slice 3,1,24,[.nil],ad⟩),
 (31,⟨.slice 89,1,24,[.nil],ad⟩),
 (32,⟨.slice 53,1,24,[.nil],ad⟩),
 (33,⟨.struct [(23,0),(3,1),(3,2),(3,3),(30,4),(31,5),(32,6)],7,120,[.nil,.i .i64 0,.i .i64 0,.i .i64 0,.nil,.nil,.nil],ad⟩),
 (34,⟨.struct [(23,0),(3,1),(3,2),(3,3),(30,4),(31,5),(32,6)],7,120,[.nil,.i .i64 0,.i .i64 0,.i .i64 0,.nil,.nil,.nil],ad⟩),
 (41,⟨.slice 156,1,24,[.nil],ad⟩),
 (42,⟨.slice 164,1,24,[.nil],ad⟩),
 (43,⟨.slice 161,1,24,[.nil],ad⟩),
 (44,⟨.struct [(41,0),(3,1),(3,2),(3,3),(30,4),(42,5),(43,6)],7,120,[.nil,.i .i64 0,.i .i64 0,.i .i64 0,.nil,.nil,.nil],ad⟩),
 (45,⟨.struct [(41,0),(3,1),(3,2),(3,3),(30,4),(42,5),(43,6)],7,120,[.nil,.i .i64 0,.i .i64 0,.i .i64 0,.nil,.nil,.nil],ad⟩),
 (50,⟨.slice 147,1,24,[.nil],ad⟩),
 (51,⟨.slice 100,1,24,[.nil],ad⟩),
 (53,⟨.struct [(3,0),(3,1),(3,2),(3,3),(3,4),(9,5),(50,6),(51,7)],8,104,[.i .i64 0,.i .i64 0,.i .i64 0,.i .i64 0,.i .i64 0,.s [],.nil,.nil],ad⟩),
 (54,⟨.slice 60,1,24,[.nil],ad⟩),
 (60,⟨.struct [(3,0),(3,1),(3,2)],3,24,[.i .i64 0,.i .i64 0,.i .i64 0],ad⟩),
 (65,⟨.slice 9,1,24,[.nil],ad⟩),
 (74,⟨.ptr,1,8,[.nilp],ad⟩),
 (81,⟨.ptr,1,8,[.nilp],ad⟩),
 (83,⟨.struct [(9,0),(4,1)],2,24,[.s [],.b ag],ad⟩),
 (89,⟨.struct [(3,0),(3,1),(3,2)],3,24,[.i .i64 0,.i .i64 0,.i .i64 0],ad⟩),
 (98,⟨.slice 184,1,24,[.nil],ad⟩),
 (100,⟨.struct [(3,0),(98,1),(98,2)],3,56,[.i .i64 0,.nil,.nil],ad⟩),
 (117,⟨.ptr,1,8,[.nilp],ad⟩),
 (119,⟨.struct [(34,0),(53,7),(54,15),(30,16),(4,17)],18,280,[.nil,.i .i64 0,.i .i64 0,.i .i64 0,.nil,.nil,.nil,.i .i64 0,.i .i64 0,.i .i64 0,.i .i64 0,.i .i64 0,.s [],.nil,.nil,.nil,.nil,.b ag],ad⟩),
 (130,⟨.struct [(22,0),(3,1)],2,32,[.nil,.i .i64 0],ad⟩),
 (143,⟨.struct [(9,0),(9,1)],2,32,[.s [],.s []],ad⟩),
 (147,⟨.struct [(3,0),(3,1),(3,2),(3,3)],4,32,[.i .i64 0,.i .i64 0,.i .i64 0,.i .i64 0],ad⟩),
 (149,⟨.ptr,1,8,[.nilp],ad⟩),
 (151,⟨.struct [(9,0),(3,1),(4,2)],3,32,[.s [],.i .i64 0,.b ag],ad⟩),
 (156,⟨.struct [(3,0),(9,1),(3,2),(3,3)],4,40,[.i .i64 0,.s [],.i .i64 0,.i .i64 0],ad⟩),
 (158,⟨.slice 261,1,24,[.nil],ad⟩),
 (159,⟨.slice 259,1,24,[.nil],ad⟩),
 (161,⟨.struct [(3,0),(3,1),(3,2),(3,3),(3,4),(9,5),(158,6),(159,7)],8,104,[.i .i64 0,.i .i64 0,.i .i64 0,.i .i64 0,.i .i64 0,.s [],.nil,.nil],ad⟩),
 (164,⟨.struct [(3,0),(3,1),(3,2)],3,24,[.i .i64 0,.i .i64 0,.i .i64 0],ad⟩),
 (184,⟨.struct [(3,0),(3,1)],2,16,[.i .i64 0,.i .i64 0],ad⟩),
 (195,⟨.slice 4,1,24,[.nil],ad⟩),
 (203,⟨.ptr,1,8,[.nilp],ad⟩),
 (244,⟨.int .u32,1,4,[.i .u32 0],ad⟩),
 (247,⟨.ptr,1,8,[.nilp],ad⟩),
 (249,⟨.struct [(74,0),(9,1),(9,2),(9,3),(3,4),(9,5)],6,80,[.nilp,.s [],.s [],.s [],.i .i64 0,.s []],ad⟩),
 (252,⟨.ptr,1,8,[.nilp],ad⟩),
 (254,⟨.struct [(34,0),(4,7)],8,128,[.nil,.i .i64 0,.i .i64 0,.i .i64 0,.nil,.nil,.nil,.b ag],ad⟩),
 (257,⟨.slice 286,1,24,[.nil],ad⟩),
 (259,⟨.struct [(3,0),(257,1),(257,2)],3,56,[.i .i64 0,.nil,.nil],ad⟩),
 (261,⟨.struct [(3,0),(3,1),(3,2),(3,3)],4,32,[.i .i64 0,.i .i64 0,.i .i64 0,.i .i64 0],ad⟩),
 (286,⟨.struct [(3,0),(3,1)],2,16,[.i .i64 0,.i .i64 0],ad⟩)]
def T:Nat->TI:=m8 BS
abbrev bJ (n:Nat)(x:TI):Prop:=∃i z d,Ff Tryz.prog n x i z d
def Oz:bJ 2 ⟨.int .i64,1,8,[.i .i64 0],ad⟩:=⟨_,_,_,⟨Tryz.type2,rfl,rfl,rfl,rfl,rfl,rfl,rfl,Tryz.underlying2,rfl,rfl,(fun _=>rfl),(fun h=>by cases h),rfl⟩⟩
def OA:bJ 3 ⟨.int .i64,1,8,[.i .i64 0],ad⟩:=⟨_,_,_,⟨Tryz.type3,rfl,rfl,rfl,rfl,rfl,rfl,rfl,Tryz.underlying3,rfl,rfl,(fun _=>rfl),(fun h=>by cases h),rfl⟩⟩
def OB:bJ 4 ⟨.bool,1,1,[.b ag],ad⟩:=⟨_,_,_,⟨Tryz.type4,rfl,rfl,rfl,rfl,rfl,rfl,rfl,Tryz.underlying4,rfl,rfl,(fun _=>rfl),(fun h=>by cases h),rfl⟩⟩
def OC:bJ 5 ⟨.int .u8,1,1,[.i .u8 0],ad⟩:=⟨_,_,_,⟨Tryz.type5,rfl,rfl,rfl,rfl,rfl,rfl,rfl,Tryz.underlying5,rfl,rfl,(fun _=>rfl),(fun h=>by cases h),rfl⟩⟩
def OD:bJ 6 ⟨.int .u8,1,1,[.i .u8 0],ad⟩:=⟨_,_,_,⟨Tryz.type6,rfl,rfl,rfl,rfl,rfl,rfl,rfl,Tryz.underlying6,rfl,rfl,(fun _=>rfl),(fun h=>by cases h),rfl⟩⟩
def OE:bJ 7 ⟨.struct [(2,0),(3,1),(4,2),(6,3)],4,24,[.i .i64 0,.i .i64 0,.b ag,.i .u8 0],ad⟩:=⟨_,_,_,⟨Tryz.type7,rfl,rfl,rfl,rfl,rfl,rfl,rfl,Tryz.underlying7,⟨_,rfl,rfl,by simp⟩,rfl,(fun h=>by cases h),(fun _=>⟨by kernel_rfl,rfl⟩),rfl⟩⟩
def OF:bJ 8 ⟨.struct [(2,0),(3,1),(4,2),(6,3)],4,24,[.i .i64 0,.i .i64 0,.b ag,.i .u8 0],ad⟩:=⟨_,_,_,⟨Tryz.type8,rfl,rfl,rfl,rfl,rfl,rfl,rfl,Tryz.underlying8,⟨_,rfl,rfl,by simp⟩,rfl,(fun h=>by cases h),(fun _=>⟨by kernel_rfl,rfl⟩),rfl⟩⟩
def OG:bJ 9 ⟨.str,1,16,[.s []],ad⟩:=⟨_,_,_,⟨Tryz.type9,rfl,rfl,rfl,rfl,rfl,rfl,rfl,Tryz.underlying9,rfl,rfl,(fun _=>rfl),(fun h=>by cases h),rfl⟩⟩
def OH:bJ 10 ⟨.str,1,16,[.s []],ad⟩:=⟨_,_,_,⟨Tryz.type10,rfl,rfl,rfl,rfl,rfl,rfl,rfl,Tryz.underlying10,rfl,rfl,(fun _=>rfl),(fun h=>by cases h),rfl⟩⟩
def OI:bJ 11 ⟨.str,1,16,[.s []],ad⟩:=⟨_,_,_,⟨Tryz.type11,rfl,rfl,rfl,rfl,rfl,rfl,rfl,Tryz.underlying11,rfl,rfl,(fun _=>rfl),(fun h=>by cases h),rfl⟩⟩
def OJ:bJ 12 ⟨.int .u64,1,8,[.i .u64 0],ad⟩:=⟨_,_,_,⟨Tryz.type12,rfl,rfl,rfl,rfl,rfl,rfl,rfl,Tryz.underlying12,rfl,rfl,(fun _=>rfl),(fun h=>by cases h),rfl⟩⟩
def OK:bJ 15 ⟨.ptr,1,8,[.nilp],ad⟩:=⟨_,_,_,⟨Tryz.type15,rfl,rfl,rfl,rfl,rfl,rfl,rfl,Tryz.underlying15,⟨_,rfl⟩,rfl,(fun _=>rfl),(fun h=>by cases h),rfl⟩⟩
def OL:bJ 16 ⟨.ptr,1,8,[.nilp],ad⟩:=⟨_,_,_,⟨Tryz.type16,rfl,rfl,rfl,rfl,rfl,rfl,rfl,Tryz.underlying16,⟨_,rfl⟩,rfl,(fun _=>rfl),(fun h=>by cases h),rfl⟩⟩
def OM:bJ 17 ⟨.ptr,1,8,[.nilp],ad⟩:=⟨_,_,_,⟨Tryz.type17,rfl,rfl,rfl,rfl,rfl,rfl,rfl,Tryz.underlying17,⟨_,rfl⟩,rfl,(fun _=>rfl),(fun h=>by cases h),rfl⟩⟩
def ON:bJ 21 ⟨.int .i32,1,4,[.i .i32 0],ad⟩:=⟨_,_,_,⟨Tryz.type21,rfl,rfl,rfl,rfl,rfl,rfl,rfl,Tryz.underlying21,rfl,rfl,(fun _=>rfl),(fun h=>by cases h),rfl⟩⟩
def OO:bJ 22 ⟨.slice 5,1,24,[.nil],ad⟩:=⟨_,_,_,⟨Tryz.type22,rfl,rfl,rfl,rfl,rfl,rfl,rfl,Tryz.underlying22,rfl,rfl,(fun _=>rfl),(fun h=>by cases h),rfl⟩⟩
def OP:bJ 23 ⟨.slice 27,1,24,[.nil],ad⟩:=⟨_,_,_,⟨Tryz.type23,rfl,rfl,rfl,rfl,rfl,rfl,rfl,Tryz.underlying23,rfl,rfl,(fun _=>rfl),(fun h=>by cases h),rfl⟩⟩
def OQ:bJ 26 ⟨.struct [(3,0),(9,1),(3,2),(3,3)],4,40,[.i .i64 0,.s [],.i .i64 0,.i .i64 0],ad⟩:=⟨_,_,_,⟨Tryz.type26,rfl,rfl,rfl,rfl,rfl,rfl,rfl,Tryz.underlying26,⟨_,rfl,rfl,by simp⟩,rfl,(fun h=>by cases h),(fun _=>⟨by kernel_rfl,rfl⟩),rfl⟩⟩
def OR:bJ 27 ⟨.struct [(3,0),(9,1),(3,2),(3,3)],4,40,[.i .i64 0,.s [],.i .i64 0,.i .i64 0],ad⟩:=⟨_,_,_,⟨Tryz.type27,rfl,rfl,rfl,rfl,rfl,rfl,rfl,Tryz.underlying27,⟨_,rfl,rfl,by simp⟩,rfl,(fun h=>by cases h),(fun _=>⟨by kernel_rfl,rfl⟩),rfl⟩⟩
def OS:bJ 30 ⟨.slice 3,1,24,[.nil],ad⟩:=⟨_,_,_,⟨Tryz.type30,rfl,rfl,rfl,rfl,rfl,rfl,rfl,Tryz.underlying30,rfl,rfl,(fun _=>rfl),(fun h=>by cases h),rfl⟩⟩
def OT:bJ 31 ⟨.slice 89,1,24,[.nil],ad⟩:=⟨_,_,_,⟨Tryz.type31,rfl,rfl,rfl,rfl,rfl,rfl,rfl,Tryz.underlying31,rfl,rfl,(fun _=>rfl),(fun h=>by cases h),rfl⟩⟩
def OU:bJ 32 ⟨.slice 53,1,24,[.nil],ad⟩:=⟨_,_,_,⟨Tryz.type32,rfl,rfl,rfl,rfl,rfl,rfl,rfl,Tryz.underlying32,rfl,rfl,(fun _=>rfl),(fun h=>by cases h),rfl⟩⟩
def OV:bJ 33 ⟨.struct [(23,0),(3,1),(3,2),(3,3),(30,4),(31,5),(32,6)],7,120,[.nil,.i .i64 0,.i .i64 0,.i .i64 0,.nil,.nil,.nil],ad⟩:=⟨_,_,_,⟨Tryz.type33,rfl,rfl,rfl,rfl,rfl,rfl,rfl,Tryz.underlying33,⟨_,rfl,rfl,by simp⟩,rfl,(fun h=>by cases h),(fun _=>⟨by kernel_rfl,rfl⟩),rfl⟩⟩
def OW:bJ 34 ⟨.struct [(23,0),(3,1),(3,2),(3,3),(30,4),(31,5),(32,6)],7,120,[.nil,.i .i64 0,.i .i64 0,.i .i64 0,.nil,.nil,.nil],ad⟩:=⟨_,_,_,⟨Tryz.type34,rfl,rfl,rfl,rfl,rfl,rfl,rfl,Tryz.underlying34,⟨_,rfl,rfl,by simp⟩,rfl,(fun h=>by cases h),(fun _=>⟨by kernel_rfl,rfl⟩),rfl⟩⟩
def OX:bJ 41 ⟨.slice 156,1,24,[.nil],ad⟩:=⟨_,_,_,⟨Tryz.type41,rfl,rfl,rfl,rfl,rfl,rfl,rfl,Tryz.underlying41,rfl,rfl,(fun _=>rfl),(fun h=>by cases h),rfl⟩⟩
def OY:bJ 42 ⟨.slice 164,1,24,[.nil],ad⟩:=⟨_,_,_,⟨Tryz.type42,rfl,rfl,rfl,rfl,rfl,rfl,rfl,Tryz.underlying42,rfl,rfl,(fun _=>rfl),(fun h=>by cases h),rfl⟩⟩
def OZ:bJ 43 ⟨.slice 161,1,24,[.nil],ad⟩:=⟨_,_,_,⟨Tryz.type43,rfl,rfl,rfl,rfl,rfl,rfl,rfl,Tryz.underlying43,rfl,rfl,(fun _=>rfl),(fun h=>by cases h),rfl⟩⟩
def O0:bJ 44 ⟨.struct [(41,0),(3,1),(3,2),(3,3),(30,4),(42,5),(43,6)],7,120,[.nil,.i .i64 0,.i .i64 0,.i .i64 0,.nil,.nil,.nil],ad⟩:=⟨_,_,_,⟨Tryz.type44,rfl,rfl,rfl,rfl,rfl,rfl,rfl,Tryz.underlying44,⟨_,rfl,rfl,by simp⟩,rfl,(fun h=>by cases h),(fun _=>⟨by kernel_rfl,rfl⟩),rfl⟩⟩
def O1:bJ 45 ⟨.struct [(41,0),(3,1),(3,2),(3,3),(30,4),(42,5),(43,6)],7,120,[.nil,.i .i64 0,.i .i64 0,.i .i64 0,.nil,.nil,.nil],ad⟩:=⟨_,_,_,⟨Tryz.type45,rfl,rfl,rfl,rfl,rfl,rfl,rfl,Tryz.underlying45,⟨_,rfl,rfl,by simp⟩,rfl,(fun h=>by cases h),(fun _=>⟨by kernel_rfl,rfl⟩),rfl⟩⟩
def O2:bJ 50 ⟨.slice 147,1,24,[.nil],ad⟩:=⟨_,_,_,⟨Tryz.type50,rfl,rfl,rfl,rfl,rfl,rfl,rfl,Tryz.underlying50,rfl,rfl,(fun _=>rfl),(fun h=>by cases h),rfl⟩⟩
def O3:bJ 51 ⟨.slice 100,1,24,[.nil],ad⟩:=⟨_,_,_,⟨Tryz.type51,rfl,rfl,rfl,rfl,rfl,rfl,rfl,Tryz.underlying51,rfl,rfl,(fun _=>rfl),(fun h=>by cases h),rfl⟩⟩
def O4:bJ 53 ⟨.struct [(3,0),(3,1),(3,2),(3,3),(3,4),(9,5),(50,6),(51,7)],8,104,[.i .i64 0,.i .i64 0,.i .i64 0,.i .i64 0,.i .i64 0,.s [],.nil,.nil],ad⟩:=⟨_,_,_,⟨Tryz.type53,rfl,rfl,rfl,rfl,rfl,rfl,rfl,Tryz.underlying53,⟨_,rfl,rfl,by simp⟩,rfl,(fun h=>by cases h),(fun _=>⟨by kernel_rfl,rfl⟩),rfl⟩⟩
def O5:bJ 54 ⟨.slice 60,1,24,[.nil],ad⟩:=⟨_,_,_,⟨Tryz.type54,rfl,rfl,rfl,rfl,rfl,rfl,rfl,Tryz.underlying54,rfl,rfl,(fun _=>rfl),(fun h=>by cases h),rfl⟩⟩
def O6:bJ 60 ⟨.struct [(3,0),(3,1),(3,2)],3,24,[.i .i64 0,.i .i64 0,.i .i64 0],ad⟩:=⟨_,_,_,⟨Tryz.type60,rfl,rfl,rfl,rfl,rfl,rfl,rfl,Tryz.underlying60,⟨_,rfl,rfl,by simp⟩,rfl,(fun h=>by cases h),(fun _=>⟨by kernel_rfl,rfl⟩),rfl⟩⟩
def O7:bJ 65 ⟨.slice 9,1,24,[.nil],ad⟩:=⟨_,_,_,⟨Tryz.type65,rfl,rfl,rfl,rfl,rfl,rfl,rfl,Tryz.underlying65,rfl,rfl,(fun _=>rfl),(fun h=>by cases h),rfl⟩⟩
def O8:bJ 74 ⟨.ptr,1,8,[.nilp],ad⟩:=⟨_,_,_,⟨Tryz.type74,rfl,rfl,rfl,rfl,rfl,rfl,rfl,Tryz.underlying74,⟨_,rfl⟩,rfl,(fun _=>rfl),(fun h=>by cases h),rfl⟩⟩
def O9:bJ 81 ⟨.ptr,1,8,[.nilp],ad⟩:=⟨_,_,_,⟨Tryz.type81,rfl,rfl,rfl,rfl,rfl,rfl,rfl,Tryz.underlying81,⟨_,rfl⟩,rfl,(fun _=>rfl),(fun h=>by cases h),rfl⟩⟩
def O_:bJ 83 ⟨.struct [(9,0),(4,1)],2,24,[.s [],.b ag],ad⟩:=⟨_,_,_,⟨Tryz.type83,rfl,rfl,rfl,rfl,rfl,rfl,rfl,Tryz.underlying83,⟨_,rfl,rfl,by simp⟩,rfl,(fun h=>by cases h),(fun _=>⟨by kernel_rfl,rfl⟩),rfl⟩⟩
def Pa:bJ 89 ⟨.struct [(3,0),(3,1),(3,2)],3,24,[.i .i64 0,.i .i64 0,.i .i64 0],ad⟩:=⟨_,_,_,⟨Tryz.type89,rfl,rfl,rfl,rfl,rfl,rfl,rfl,Tryz.underlying89,⟨_,rfl,rfl,by simp⟩,rfl,(fun h=>by cases h),(fun _=>⟨by kernel_rfl,rfl⟩),rfl⟩⟩
def Pb:bJ 98 ⟨.slice 184,1,24,[.nil],ad⟩:=⟨_,_,_,⟨Tryz.type98,rfl,rfl,rfl,rfl,rfl,rfl,rfl,Tryz.underlying98,rfl,rfl,(fun _=>rfl),(fun h=>by cases h),rfl⟩⟩
def Pc:bJ 100 ⟨.struct [(3,0),(98,1),(98,2)],3,56,[.i .i64 0,.nil,.nil],ad⟩:=⟨_,_,_,⟨Tryz.type100,rfl,rfl,rfl,rfl,rfl,rfl,rfl,Tryz.underlying100,⟨_,rfl,rfl,by simp⟩,rfl,(fun h=>by cases h),(fun _=>⟨by kernel_rfl,rfl⟩),rfl⟩⟩
def Pd:bJ 117 ⟨.ptr,1,8,[.nilp],ad⟩:=⟨_,_,_,⟨Tryz.type117,rfl,rfl,rfl,rfl,rfl,rfl,rfl,Tryz.underlying117,⟨_,rfl⟩,rfl,(fun _=>rfl),(fun h=>by cases h),rfl⟩⟩
def Pe:bJ 119 ⟨.struct [(34,0),(53,7),(54,15),(30,16),(4,17)],18,280,[.nil,.i .i64 0,.i .i64 0,.i .i64 0,.nil,.nil,.nil,.i .i64 0,.i .i64 0,.i .i64 0,.i .i64 0,.i .i64 0,.s [],.nil,.nil,.nil,.nil,.b ag],ad⟩:=⟨_,_,_,⟨Tryz.type119,rfl,rfl,rfl,rfl,rfl,rfl,rfl,Tryz.underlying119,⟨_,rfl,rfl,by simp⟩,rfl,(fun h=>by cases h),(fun _=>⟨by kernel_rfl,rfl⟩),rfl⟩⟩
def Pf:bJ 130 ⟨.struct [(22,0),(3,1)],2,32,[.nil,.i .i64 0],ad⟩:=⟨_,_,_,⟨Tryz.type130,rfl,rfl,rfl,rfl,rfl,rfl,rfl,Tryz.underlying130,⟨_,rfl,rfl,by simp⟩,rfl,(fun h=>by cases h),(fun _=>⟨by kernel_rfl,rfl⟩),rfl⟩⟩
def Pg:bJ 143 ⟨.struct [(9,0),(9,1)],2,32,[.s [],.s []],ad⟩:=⟨_,_,_,⟨Tryz.type143,rfl,rfl,rfl,rfl,rfl,rfl,rfl,Tryz.underlying143,⟨_,rfl,rfl,by simp⟩,rfl,(fun h=>by cases h),(fun _=>⟨by kernel_rfl,rfl⟩),rfl⟩⟩
def Ph:bJ 147 ⟨.struct [(3,0),(3,1),(3,2),(3,3)],4,32,[.i .i64 0,.i .i64 0,.i .i64 0,.i .i64 0],ad⟩:=⟨_,_,_,⟨Tryz.type147,rfl,rfl,rfl,rfl,rfl,rfl,rfl,Tryz.underlying147,⟨_,rfl,rfl,by simp⟩,rfl,(fun h=>by cases h),(fun _=>⟨by kernel_rfl,rfl⟩),rfl⟩⟩
def Pi:bJ 149 ⟨.ptr,1,8,[.nilp],ad⟩:=⟨_,_,_,⟨Tryz.type149,rfl,rfl,rfl,rfl,rfl,rfl,rfl,Tryz.underlying149,⟨_,rfl⟩,rfl,(fun _=>rfl),(fun h=>by cases h),rfl⟩⟩
def Pj:bJ 151 ⟨.struct [(9,0),(3,1),(4,2)],3,32,[.s [],.i .i64 0,.b ag],ad⟩:=⟨_,_,_,⟨Tryz.type151,rfl,rfl,rfl,rfl,rfl,rfl,rfl,Tryz.underlying151,⟨_,rfl,rfl,by simp⟩,rfl,(fun h=>by cases h),(fun _=>⟨by kernel_rfl,rfl⟩),rfl⟩⟩
def Pk:bJ 156 ⟨.struct [(3,0),(9,1),(3,2),(3,3)],4,40,[.i .i64 0,.s [],.i .i64 0,.i .i64 0],ad⟩:=⟨_,_,_,⟨Tryz.type156,rfl,rfl,rfl,rfl,rfl,rfl,rfl,Tryz.underlying156,⟨_,rfl,rfl,by simp⟩,rfl,(fun h=>by cases h),(fun _=>⟨by kernel_rfl,rfl⟩),rfl⟩⟩
def Pm:bJ 158 ⟨.slice 261,1,24,[.nil],ad⟩:=⟨_,_,_,⟨Tryz.type158,rfl,rfl,rfl,rfl,rfl,rfl,rfl,Tryz.underlying158,rfl,rfl,(fun _=>rfl),(fun h=>by cases h),rfl⟩⟩
def Pn:bJ 159 ⟨.slice 259,1,24,[.nil],ad⟩:=⟨_,_,_,⟨Tryz.type159,rfl,rfl,rfl,rfl,rfl,rfl,rfl,Tryz.underlying159,rfl,rfl,(fun _=>rfl),(fun h=>by cases h),rfl⟩⟩
def Po:bJ 161 ⟨.struct [(3,0),(3,1),(3,2),(3,3),(3,4),(9,5),(158,6),(159,7)],8,104,[.i .i64 0,.i .i64 0,.i .i64 0,.i .i64 0,.i .i64 0,.s [],.nil,.nil],ad⟩:=⟨_,_,_,⟨Tryz.type161,rfl,rfl,rfl,rfl,rfl,rfl,rfl,Tryz.underlying161,⟨_,rfl,rfl,by simp⟩,rfl,(fun h=>by cases h),(fun _=>⟨by kernel_rfl,rfl⟩),rfl⟩⟩
def Pp:bJ 164 ⟨.struct [(3,0),(3,1),(3,2)],3,24,[.i .i64 0,.i .i64 0,.i .i64 0],ad⟩:=⟨_,_,_,⟨Tryz.type164,rfl,rfl,rfl,rfl,rfl,rfl,rfl,Tryz.underlying164,⟨_,rfl,rfl,by simp⟩,rfl,(fun h=>by cases h),(fun _=>⟨by kernel_rfl,rfl⟩),rfl⟩⟩
def Pq:bJ 184 ⟨.struct [(3,0),(3,1)],2,16,[.i .i64 0,.i .i64 0],ad⟩:=⟨_,_,_,⟨Tryz.type184,rfl,rfl,rfl,rfl,rfl,rfl,rfl,Tryz.underlying184,⟨_,rfl,rfl,by simp⟩,rfl,(fun h=>by cases h),(fun _=>⟨by kernel_rfl,rfl⟩),rfl⟩⟩
def Pr:bJ 195 ⟨.slice 4,1,24,[.nil],ad⟩:=⟨_,_,_,⟨Tryz.type195,rfl,rfl,rfl,rfl,rfl,rfl,rfl,Tryz.underlying195,rfl,rfl,(fun _=>rfl),(fun h=>by cases h),rfl⟩⟩
def Ps:bJ 203 ⟨.ptr,1,8,[.nilp],ad⟩:=⟨_,_,_,⟨Tryz.type203,rfl,rfl,rfl,rfl,rfl,rfl,rfl,Tryz.underlying203,⟨_,rfl⟩,rfl,(fun _=>rfl),(fun h=>by cases h),rfl⟩⟩
def Pt:bJ 244 ⟨.int .u32,1,4,[.i .u32 0],ad⟩:=⟨_,_,_,⟨Tryz.type244,rfl,rfl,rfl,rfl,rfl,rfl,rfl,Tryz.underlying244,rfl,rfl,(fun _=>rfl),(fun h=>by cases h),rfl⟩⟩
def Pu:bJ 247 ⟨.ptr,1,8,[.nilp],ad⟩:=⟨_,_,_,⟨Tryz.type247,rfl,rfl,rfl,rfl,rfl,rfl,rfl,Tryz.underlying247,⟨_,rfl⟩,rfl,(fun _=>rfl),(fun h=>by cases h),rfl⟩⟩
def Pv:bJ 249 ⟨.struct [(74,0),(9,1),(9,2),(9,3),(3,4),(9,5)],6,80,[.nilp,.s [],.s [],.s [],.i .i64 0,.s []],ad⟩:=⟨_,_,_,⟨Tryz.type249,rfl,rfl,rfl,rfl,rfl,rfl,rfl,Tryz.underlying249,⟨_,rfl,rfl,by simp⟩,rfl,(fun h=>by cases h),(fun _=>⟨by kernel_rfl,rfl⟩),rfl⟩⟩
def Pw:bJ 252 ⟨.ptr,1,8,[.nilp],ad⟩:=⟨_,_,_,⟨Tryz.type252,rfl,rfl,rfl,rfl,rfl,rfl,rfl,Tryz.underlying252,⟨_,rfl⟩,rfl,(fun _=>rfl),(fun h=>by cases h),rfl⟩⟩
def Px:bJ 254 ⟨.struct [(34,0),(4,7)],8,128,[.nil,.i .i64 0,.i .i64 0,.i .i64 0,.nil,.nil,.nil,.b ag],ad⟩:=⟨_,_,_,⟨Tryz.type254,rfl,rfl,rfl,rfl,rfl,rfl,rfl,Tryz.underlying254,⟨_,rfl,rfl,by simp⟩,rfl,(fun h=>by cases h),(fun _=>⟨by kernel_rfl,rfl⟩),rfl⟩⟩
def Py:bJ 257 ⟨.slice 286,1,24,[.nil],ad⟩:=⟨_,_,_,⟨Tryz.type257,rfl,rfl,rfl,rfl,rfl,rfl,rfl,Tryz.underlying257,rfl,rfl,(fun _=>rfl),(fun h=>by cases h),rfl⟩⟩
def Pz:bJ 259 ⟨.struct [(3,0),(257,1),(257,2)],3,56,[.i .i64 0,.nil,.nil],ad⟩:=⟨_,_,_,⟨Tryz.type259,rfl,rfl,rfl,rfl,rfl,rfl,rfl,Tryz.underlying259,⟨_,rfl,rfl,by simp⟩,rfl,(fun h=>by cases h),(fun _=>⟨by kernel_rfl,rfl⟩),rfl⟩⟩
def PA:bJ 261 ⟨.struct [(3,0),(3,1),(3,2),(3,3)],4,32,[.i .i64 0,.i .i64 0,.i .i64 0,.i .i64 0],ad⟩:=⟨_,_,_,⟨Tryz.type261,rfl,rfl,rfl,rfl,rfl,rfl,rfl,Tryz.underlying261,⟨_,rfl,rfl,by simp⟩,rfl,(fun h=>by cases h),(fun _=>⟨by kernel_rfl,rfl⟩),rfl⟩⟩
def PB:bJ 286 ⟨.struct [(3,0),(3,1)],2,16,[.i .i64 0,.i .i64 0],ad⟩:=⟨_,_,_,⟨Tryz.type286,rfl,rfl,rfl,rfl,rfl,rfl,rfl,Tryz.underlying286,⟨_,rfl,rfl,by simp⟩,rfl,(fun h=>by cases h),(fun _=>⟨by kernel_rfl,rfl⟩),rfl⟩⟩
def wo:bV Tryz.prog T:=zc6 BS (by
 intro p hp
 simp only[BS,List.mem_cons,List.not_mem_nil,or_false]at hp
 rcases hp with rfl|rfl|rfl|rfl|rfl|rfl|rfl|rfl|rfl|rfl|rfl|rfl|rfl|rfl|rfl|rfl|rfl|rfl|rfl|rfl|rfl|rfl|rfl|rfl|rfl|rfl|rfl|rfl|rfl|rfl|rfl|rfl|rfl|rfl|rfl|rfl|rfl|rfl|rfl|rfl|rfl|rfl|rfl|rfl|rfl|rfl|rfl|rfl|rfl|rfl|rfl|rfl|rfl|rfl|rfl|rfl|rfl|rfl|rfl|rfl|rfl|rfl|rfl|rfl|rfl
 ·exact Oz
 ·exact OA
 ·exact OB
 ·exact OC
 ·exact OD
 ·exact OE
 ·exact OF
 ·exact OG
 ·exact OH
 ·exact OI
 ·exact OJ
 ·exact OK
 ·exact OL
 ·exact OM
 ·exact ON
 ·exact OO
 ·exact OP
 ·exact OQ
 ·exact OR
 ·exact OS
 ·exact OT
 ·exact OU
 ·exact OV
 ·exact OW
 ·exact OX
 ·exact OY
 ·exact OZ
 ·exact O0
 ·exact O1
 ·exact O2
 ·exact O3
 ·exact O4
 ·exact O5
 ·exact O6
 ·exact O7
 ·exact O8
 ·exact O9
 ·exact O_
 ·exact Pa
 ·exact Pb
 ·exact Pc
 ·exact Pd
 ·exact Pe
 ·exact Pf
 ·exact Pg
 ·exact Ph
 ·exact Pi
 ·exact Pj
 ·exact Pk
 ·exact Pm
 ·exact Pn
 ·exact Po
 ·exact Pp
 ·exact Pq
 ·exact Pr
 ·exact Ps
 ·exact Pt
 ·exact Pu
 ·exact Pv
 ·exact Pw
 ·exact Px
 ·exact Py
 ·exact Pz
 ·exact PA
 ·exact PB)
end
section
open Go Go.AM Go.TM
set_option maxRecDepth 100000
abbrev cz:GT:=(.pair (.int .i64) (.pair .str (.pair (.int .i64) (.int .i64))))
abbrev bu:GT:=(.pair (.int .i64) (.pair (.int .i64) (.int .i64)))
abbrev gO:GT:=(.pair (.int .i64) bu)
abbrev dc:GT:=(.pair (.int .i64) (.int .i64))
abbrev de:GT:=(.pair (.int .i64) (.pair (.sl dc) (.sl dc)))
abbrev cv:GT:=(.pair (.int .i64) (.pair (.int .i64) (.pair (.int .i64) (.pair (.int .i64) (.pair (.int .i64) (.pair .str (.pair (.sl gO) (.sl de))))))))
abbrev wq:GT:=(.pair (.sl cz) (.pair (.int .i64) (.pair (.int .i64) (.pair (.int .i64) (.pair (.sl (.int .i64)) (.pair (.sl bu) (.sl cv)))))))
abbrev PC:GT:=(.pair .str (.pair .str dc))
abbrev PD:GT:=(.pair .str (.pair (.int .i64) (.pair wq (.pair (.int .i64) (.pair (.sl (.int .i64)) (.pair (.int .i64) (.pair (.int .i64) (.pair (.sl dc) (.pair (.sl PC) (.sl dc))))))))))
abbrev PE:GT:=(.pair wq (.pair cv (.pair (.sl bu) (.pair (.sl (.int .i64)) .bool))))
abbrev PF:GT:=(.pair (.sl .byte) (.int .i64))
abbrev PG:GT:=(.pair wq .bool)
instance iq100:DecidableEq (Int×List (Int×Int)×List (Int×Int)):=de.decEq
instance iq53:DecidableEq (Int×Int×Int×Int×Int×List UInt8×List (Int×Int×Int×Int)×List (Int×List (Int×Int)×List (Int×Int))):=cv.decEq
instance iq33:DecidableEq (List (Int×List UInt8×Int×Int)×Int×Int×Int×List Int×List (Int×Int×Int)×List (Int×Int×Int×Int×Int×List UInt8×List (Int×Int×Int×Int)×List (Int×List (Int×Int)×List (Int×Int)))):=wq.decEq
instance iq70:DecidableEq (List UInt8×Int×(List (Int×List UInt8×Int×Int)×Int×Int×Int×List Int×List (Int×Int×Int)×List (Int×Int×Int×Int×Int×List UInt8×List (Int×Int×Int×Int)×List (Int×List (Int×Int)×List (Int×Int))))×Int×List Int×Int×Int×List (Int×Int)×List (List UInt8×List UInt8×Int×Int)×List (Int×Int)):=PD.decEq
instance iq118:DecidableEq ((List (Int×List UInt8×Int×Int)×Int×Int×Int×List Int×List (Int×Int×Int)×List (Int×Int×Int×Int×Int×List UInt8×List (Int×Int×Int×Int)×List (Int×List (Int×Int)×List (Int×Int))))×(Int×Int×Int×Int×Int×List UInt8×List (Int×Int×Int×Int)×List (Int×List (Int×Int)×List (Int×Int)))×List (Int×Int×Int)×List Int×Bool):=PE.decEq
instance iq129:DecidableEq (List UInt8×Int):=PF.decEq
instance iq253:DecidableEq ((List (Int×List UInt8×Int×Int)×Int×Int×Int×List Int×List (Int×Int×Int)×List (Int×Int×Int×Int×Int×List UInt8×List (Int×Int×Int×Int)×List (Int×List (Int×Int)×List (Int×Int))))×Bool):=PG.decEq
abbrev Cst:=Int×List UInt8×Int×Int
abbrev Knd:=Int×Int
abbrev Trp:=Int×Int×Int×Int
abbrev Frm:=Int×List Knd×List Knd
abbrev Fld:=Int×Int×Int
abbrev Mth:=Int×Int×Int×Int×Int×List UInt8×List Trp×List Frm
abbrev Cls:=List Cst×Int×Int×Int×List Int×List Fld×List Mth
abbrev bX:List Pat:=[.sl cz,.i .i64,.i .i64,.i .i64,.sl (.int .i64),.sl bu,.sl cv]
abbrev dj:List Pat:=[.own cz ad,.i .i64,.i .i64,.i .i64,.own (.int .i64) ad,.own bu ad,.own cv ad]
abbrev jh:List Pat:=[.own cz ad,.i .i64,.i .i64,.i .i64,.own (.int .i64) ad,.own bu ad,.own cv ad,.b]
abbrev PH:List Pat:=[.ptr 100001 0,.s,.s,.s,.i .i64,.s]
abbrev gP:List Pat:=[.sl .byte,.i .i64]
abbrev ly:List Pat:=[.s,.i .i64,.b]
abbrev cB:List Pat:=[.i .i64,.i .i64,.i .i64,.i .i64,.i .i64,.s,.sl gO,.sl de]
abbrev iO:List Pat:=[.i .i64,.i .i64,.i .i64,.i .i64,.i .i64,.s,.own gO ad,.own de ad]
abbrev fu:List Nat:=[9,8,7,6,5,4,3,2,1,0]
abbrev gQ:List Nat:=[0,1,2,3,4,5]
abbrev sL:List Nat:=[15,14,13,12,11,10,9,8,7,6,5,4,3,2,1,0]
abbrev BT:List Nat:=[0,1,2,3,4,5,6,7,8,9,10,11,12,13,14,15]
abbrev HP:List Nat:=[20,19,18,17,16,15,14,13,12,11,10,9,8,7,6,5,4,3,2,1,0]
abbrev BU:List Nat:=[0,1,2,3,4,5,6,7,8,9,10,11,12,13,14,15,16,17]
abbrev sM:List Nat:=[17,16,15,14,13,12,11,10,9,8,7,6,5,4,3,2,1,0]
abbrev nA:List Nat:=[0,1,2,3,4,5,6,7,8,9]
abbrev mf:List Nat:=[0,1,2,3,4,5,6]
abbrev sN:List Nat:=[7,6,5,4,3,2,1]
abbrev eY:List Nat:=[11,10,9,8,7,6,5,4,3,2,1,0]
abbrev BV:List Nat:=[0,1,2,3,4,5,6,7,8,9,10,11,12]
abbrev iP:List Nat:=[12,11,10,9,8,7,6,5,4,3,2,1,0]
abbrev dw:List Nat:=[6,5,4,3,2,1,0]
abbrev nB:List Nat:=[0,1,2,3,4,5,6,7,8,9,10]
abbrev fw:List Nat:=[10,9,8,7,6,5,4,3,2,1,0]
abbrev fW:List Nat:=[2,1,0]
abbrev gu:List Nat:=[4,5,6]
abbrev nC:List Nat:=[0,1,2,3,5,6,7,8,10,11,12,13]
abbrev wt:List Nat:=[5,6,7,8,10,11,12,13]
abbrev gR:List Nat:=[8,7,6,5,4,3,2,1,0]
abbrev qw:List Nat:=[10,11,12,13]
abbrev eK:List Nat:=[13,12,11,10,9,8,7,6,5,4,3,2,1,0]
abbrev iu:List Nat:=[16,15,14,13,12,11,10,9,8,7,6,5,4,3,2,1,0]
abbrev BW:List Nat:=[14,13,12,11,10,9,8,7,6,5,4,3,2,1]
abbrev HQ:List Nat:=[26,25,24,23,22,21,20,19,18,17,16,15,14,13,12,11,10,9,8,7,6,5,4,3,2,1,0]
abbrev HR:List Nat:=[23,22,21,20,19,18,17,16,15,14,13,12,11,10,9,8,7,6,5,4,3,2,1,0]
abbrev j_:List Nat:=[4,3,2,1,0]
abbrev wu:List Nat:=[21,20,19,18,17,16,15,14,13,12,11,10,9,8,7,6,5,4,3,2,1,0]
abbrev HS:List Nat:=[0,1,2,3,4,5,6,9,10,11,12,13,14,17,18,19,20,21,22]
abbrev HT:List Nat:=[22,21,20,19,18,17,15,14,13,12,11,10,9,7,6,5,4,3,2,1]
abbrev BX:List Nat:=[24,23,22,21,20,19,18,17,16,15,14,13,12,11,10,9,8,7,6,5,4,3,2,1,0]
abbrev oS:List Nat:=[14,13,12,11,10,9,8,7,6,5,4,3,2,1,0]
abbrev ka:List Nat:=[8,7,6,5,4,3,2]
abbrev mg:List Nat:=[10,9,8,7,6,5,4,3,2]
abbrev lz:List Nat:=[0,1,2,3,4,5,6,7,8]
abbrev mh:List Nat:=[7,6,5,4,3,2,1,0]
abbrev lA:List Nat:=[5,4,3,2]
abbrev jI:List Nat:=[0,1,2,4,7]
abbrev BY:List Nat:=[13,12,11,10,9,8,7,6,5,4,3,2]
abbrev mi:List Nat:=[5,4,3,2,1]
abbrev sO:List Nat:=[9,8,6,5,4,3,2,1]
abbrev HU:List Nat:=[19,18,17,16,15,14,13,12,11,10,9,8,7,6,5,4,3,2,1,0]
abbrev fF:List Nat:=[0,1,2,4,5,6]
abbrev mj:List OPat:=[.box 100000 (pl gP)]
abbrev kK:List OPat:=[.box 100000 (pl PH),.box 100001 (pl gP)]
abbrev sP:List Pat:=[.ptr 100000 0,.s,.s,.s,.i .i64,.s]
abbrev iw:List OPat:=[.box 100000 (pl jh)]
abbrev dC:List Pat:=[.i .i64,.s,.i .i64,.i .i64]
abbrev lB:List Pat:=[.own cz ad,.i .i64,.i .i64,.i .i64,.own (.int .i64) ad,.own bu ad,.ar 100001,.b]
abbrev cG:List Pat:=[.i .i64,.i .i64,.i .i64]
abbrev sQ:List Pat:=[.own cz ad,.i .i64,.i .i64,.i .i64,.ar 100001,.own bu ad,.own cv ad,.b]
abbrev sS:List Pat:=[.own cz ad,.i .i64,.i .i64,.i .i64,.own (.int .i64) ad,.ar 100001,.own cv ad,.b]
abbrev wv:List Pat:=[.i .i64,.i .i64,.i .i64,.i .i64]
abbrev nD:List Pat:=[.i .i64,.i .i64,.i .i64,.i .i64,.i .i64,.s,.own gO ad,.ar 100002]
abbrev iy:List OPat:=[.box 1 (pl bX)]
abbrev iQ:List OPat:=[.box 100000 (pl ly)]
abbrev qx:List OPat:=[.box 3 (pl iO),.box 4 (pl iO),.box 100000 (pl ly)]
abbrev qy:List OPat:=[.box 2 (pl dj),.box 3 (pl dj),.box 100000 (pl ly)]
abbrev wx:List OPat:=[.box 2 (pl bX),.box 3 (pl bX)]
abbrev kb:List OPat:=[.box 2 (pl bX),.box 3 (pl cB)]
abbrev wy:List Pat:=[.ar 100001,.i .i64,.i .i64,.i .i64,.ar 100002,.ar 100003,.ar 100004]
abbrev eM:List Pat:=[.s,.b]
abbrev wz:List Pat:=[.i .i64,.sl dc,.sl dc]
abbrev kc:List Pat:=[.i .i64]
abbrev wA:List Pat:=[.ptr 100000 0,.ptr 100001 0]
abbrev oT:List OPat:=[.box 100000 (pl bX)]
abbrev kL:List Pat:=[.sl cz,.i .i64,.i .i64,.i .i64,.sl (.int .i64),.sl bu,.sl cv,.i .i64,.i .i64,.i .i64,.i .i64,.i .i64,.s,.sl gO,.sl de,.own bu ad,.own (.int .i64) ad,.b]
abbrev HV:List Pat:=[.own cz ag,.i .i64,.i .i64,.i .i64,.own (.int .i64) ag,.own bu ag,.own cv ad]
abbrev HW:List Pat:=[.own cz ag,.i .i64,.i .i64,.i .i64,.own (.int .i64) ag,.own bu ag,.ar 7024]
abbrev gS:List Pat:=[.i .i64,.i .i64,.i .i64,.i .i64,.i .i64,.s,.own gO ad,.own de ag]
abbrev HX:List Pat:=[.own cz ag,.i .i64,.i .i64,.i .i64,.own (.int .i64) ag,.own bu ag,.own cv ag]
abbrev zTb:=ir Tryz.prog
abbrev zBy:=List UInt8
def wB:Tryz.prog.follows .mixedOrders=ad:=by kernel_rfl
def az (n:Nat)(p:Bool)(l:List (Nat×List Nat))(ti to:SPat)(F:ti.Den->Option to.Den)(rs:List ResultVar)(k:Nat)(ns:List Nat):TEnt:=⟨n,p,l,ti,to.Den,F,sJ T rs k to ns⟩
def aB {tbl:Nat->Option TEnt}(htbl:ir Tryz.prog tbl){f:FuncId}{fn:Func}{c:Code}{rs:List ResultVar}{n:Nat}{pure:Bool}{ps:List (Nat×List Nat)}{inS out:SPat}{ns:List Nat}{k:Nat}(pl:Nat->List Nat×bc)(iv:Nat->Option SPat)
 (hf:Tryz.prog.funcs[f]? = U fn) (hb:fn.body=U c) (hc:∀(vs:Array Value) (w:World),(callFunc f vs).run Tryz.prog w = .ok (.enter f vs) w) {F:inS.Den->Option out.Den}
 (hrs:fn.results=rs.toArray:=by rfl) (hn:fn.ntmps=n:=by rfl) (hp:jB T pl c=ad:=by kernel_rfl) (hin:BO n inS ns=ad:=by kernel_rfl)
 (hF:∀x,qs T tbl pl n iv c inS out x=F x:=by intro _;kernel_rfl):ir Tryz.prog (ax k ⟨f,pure,ps,inS,out.Den,F,sJ T rs n out ns⟩ tbl) :=
 htbl.ins (wm htbl wo wB pure ps inS out ns pl iv hf hb hrs hn hp hin hc F fun x _ h=>(hF x).trans h)

end
end Go.Proofs.YtdpapeledldifaaGreat
