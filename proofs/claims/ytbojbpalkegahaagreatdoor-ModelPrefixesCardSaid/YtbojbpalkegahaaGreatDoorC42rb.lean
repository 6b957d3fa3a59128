/-
  Part of the proof: the machine that runs a program by fixed orders, and that each of its runs is a run of the model; or a run of it in parts. No conditions.
-/
import Derived.Test.YtbojbpalkegahaaGreatDoorC42gf
import Derived.Test.YtbojbpalkegahaaGreatDoorC42e
noncomputable section
set_option maxRecDepth 1000000
namespace Go.AI
open Go.Proofs
abbrev kU:List (FuncId × Cn):=(Ac,Se.F)::(Ba,Al AL 9 Ko (LQ cP))::(By,Al AL 9 RO (LQ bZ))::jb
def XD:Ctx:=Cx Tryz.prog AL kU
def jH:Pf:=fun g=>bif Nat.beq g Ac then some cG else(fun g=>bif Nat.beq g Ba then some (BU AL 9 Ko (LQ cP))else(fun g=>bif Nat.beq g By then some (BU AL 9 RO (LQ bZ))else VV g) g) g
abbrev mX (c0 c1 c2 c3 c4 c5 c6 lim:Int) (bs nw:List (ByteArray × ByteArray)) (cost:Int) (AJ:List (Bool × ByteArray × ByteArray)):AB:=⟨[c0,c1,c2,c3,c4,c5,c6],lim,bs,nw,cost,AJ,0,false⟩
def kF (c0 c1 c2 c3 c4 c5 c6 lim:Int) (bs nw:List (ByteArray × ByteArray)) (cost:Int) (AJ:List (Bool × ByteArray × ByteArray)):List AK:=
 [.cells [.int .i64 c0,.int .i64 c1,.int .i64 c2,.int .i64 c3,.int .i64 c4,.int .i64 c5,.int .i64 c6,.int .i64 lim,.pointer (some ⟨10,0,none⟩),.pointer (some ⟨11,0,none⟩),.int .i64 cost,.slice (some ⟨12,0,some 0⟩) AJ.length AF,.pointer none,.int .i64 0,.bool false] 0 false,
  .abs (.pack (.table bs)) false,.abs (.pack (.table nw)) false,.vec BL AJ false]
def IK (e:Int) (s:ByteArray):Value:= .agg ⟨[.int .i64 e,.string s]⟩
abbrev Zw:List Nat:=[9,10,11,12,18,19,20]
abbrev vc_do_0 (c0:Int) (c1:Int) (c2:Int) (c3:Int) (c4:Int) (c5:Int) (c6:Int) (lim:Int) (bs:List (ByteArray × ByteArray)) (nw:List (ByteArray × ByteArray)) (cost:Int) (AJ:List (Bool × ByteArray × ByteArray)) (k:Int) (key:ByteArray) (val:ByteArray):AK:=(.cells [(.int .i64 (List.getD (AB.cfg (CB (mX c0 c1 c2 c3 c4 c5 c6 lim bs nw cost AJ) (k==3) key val)) 0 0)),(.int .i64 (List.getD (AB.cfg (CB (mX c0 c1 c2 c3 c4 c5 c6 lim bs nw cost AJ) (k==3) key val)) 1 0)),(.int .i64 (List.getD (AB.cfg (CB (mX c0 c1 c2 c3 c4 c5 c6 lim bs nw cost AJ) (k==3) key val)) 2 0)),(.int .i64 (List.getD (AB.cfg (CB (mX c0 c1 c2 c3 c4 c5 c6 lim bs nw cost AJ) (k==3) key val)) 3 0)),(.int .i64 (List.getD (AB.cfg (CB (mX c0 c1 c2 c3 c4 c5 c6 lim bs nw cost AJ) (k==3) key val)) 4 0)),(.int .i64 (List.getD (AB.cfg (CB (mX c0 c1 c2 c3 c4 c5 c6 lim bs nw cost AJ) (k==3) key val)) 5 0)),(.int .i64 (List.getD (AB.cfg (CB (mX c0 c1 c2 c3 c4 c5 c6 lim bs nw cost AJ) (k==3) key val)) 6 0)),(.int .i64 (AB.AN (CB (mX c0 c1 c2 c3 c4 c5 c6 lim bs nw cost AJ) (k==3) key val))),(p_ 10),(p_ 11),(.int .i64 (AB.cost (CB (mX c0 c1 c2 c3 c4 c5 c6 lim bs nw cost AJ) (k==3) key val))),(.slice (some ⟨19,0,(some 0)⟩) (List.length (AB.AJ (mX c0 c1 c2 c3 c4 c5 c6 lim bs nw cost AJ))+1) 18446744073709551616),(.pointer none),(.int .i64 (AB.state (CB (mX c0 c1 c2 c3 c4 c5 c6 lim bs nw cost AJ) (k==3) key val))),(.bool (AB.AG (CB (mX c0 c1 c2 c3 c4 c5 c6 lim bs nw cost AJ) (k==3) key val)))] 0 false)
abbrev vc_do_1 (c0:Int) (c1:Int) (c2:Int) (c3:Int) (c4:Int) (c5:Int) (c6:Int) (lim:Int) (bs:List (ByteArray × ByteArray)) (nw:List (ByteArray × ByteArray)) (cost:Int) (AJ:List (Bool × ByteArray × ByteArray)) (k:Int) (key:ByteArray) (val:ByteArray):AK:=(.cells [(.int .i64 (List.getD (AB.cfg (CB (mX c0 c1 c2 c3 c4 c5 c6 lim bs nw cost AJ) (k==3) key val)) 0 0)),(.int .i64 (List.getD (AB.cfg (CB (mX c0 c1 c2 c3 c4 c5 c6 lim bs nw cost AJ) (k==3) key val)) 1 0)),(.int .i64 (List.getD (AB.cfg (CB (mX c0 c1 c2 c3 c4 c5 c6 lim bs nw cost AJ) (k==3) key val)) 2 0)),(.int .i64 (List.getD (AB.cfg (CB (mX c0 c1 c2 c3 c4 c5 c6 lim bs nw cost AJ) (k==3) key val)) 3 0)),(.int .i64 (List.getD (AB.cfg (CB (mX c0 c1 c2 c3 c4 c5 c6 lim bs nw cost AJ) (k==3) key val)) 4 0)),(.int .i64 (List.getD (AB.cfg (CB (mX c0 c1 c2 c3 c4 c5 c6 lim bs nw cost AJ) (k==3) key val)) 5 0)),(.int .i64 (List.getD (AB.cfg (CB (mX c0 c1 c2 c3 c4 c5 c6 lim bs nw cost AJ) (k==3) key val)) 6 0)),(.int .i64 (AB.AN (CB (mX c0 c1 c2 c3 c4 c5 c6 lim bs nw cost AJ) (k==3) key val))),(p_ 20),(p_ 11),(.int .i64 (AB.cost (CB (mX c0 c1 c2 c3 c4 c5 c6 lim bs nw cost AJ) (k==3) key val))),(.slice none 0 0),(.pointer none),(.int .i64 (AB.state (CB (mX c0 c1 c2 c3 c4 c5 c6 lim bs nw cost AJ) (k==3) key val))),(.bool (AB.AG (CB (mX c0 c1 c2 c3 c4 c5 c6 lim bs nw cost AJ) (k==3) key val)))] 0 false)
abbrev vc_do_2 (c0:Int) (c1:Int) (c2:Int) (c3:Int) (c4:Int) (c5:Int) (c6:Int) (lim:Int) (cost:Int) (AJ:List (Bool × ByteArray × ByteArray)):AK:=(.cells [(.int .i64 c0),(.int .i64 c1),(.int .i64 c2),(.int .i64 c3),(.int .i64 c4),(.int .i64 c5),(.int .i64 c6),(.int .i64 lim),(p_ 10),(p_ 11),(.int .i64 cost),(.slice (some ⟨12,0,(some 0)⟩) (List.length AJ) 18446744073709551616),(.pointer none),(.int .i64 0),(.bool false)] 0 false)
abbrev vc_do_3 (c0:Int) (c1:Int) (c2:Int) (c3:Int) (c4:Int) (c5:Int) (c6:Int) (lim:Int) (cost:Int):AK:=(.cells [(.int .i64 c0),(.int .i64 c1),(.int .i64 c2),(.int .i64 c3),(.int .i64 c4),(.int .i64 c5),(.int .i64 c6),(.int .i64 lim),(p_ 18),(p_ 11),(.int .i64 cost),(.slice none 0 0),(.pointer none),(.int .i64 0),(.bool false)] 0 false)
abbrev vc_do_4 (c0:Int) (c1:Int) (c2:Int) (c3:Int) (c4:Int) (c5:Int) (c6:Int) (lim:Int) (bs:List (ByteArray × ByteArray)) (nw:List (ByteArray × ByteArray)) (cost:Int) (AJ:List (Bool × ByteArray × ByteArray)) (k:Int) (key:ByteArray) (val:ByteArray):AK:=(.cells [(.int .i64 (Prod.fst (CI (mX c0 c1 c2 c3 c4 c5 c6 lim bs nw cost AJ) k key val))),(.string (Prod.fst (Prod.snd (CI (mX c0 c1 c2 c3 c4 c5 c6 lim bs nw cost AJ) k key val))))] 0 false)
theorem jF (c0 c1 c2 c3 c4 c5 c6 lim:Int) (bs nw:List (ByteArray × ByteArray)) (cost:Int) (AJ:List (Bool × ByteArray × ByteArray)) (k a b:Int) (key val:ByteArray) (e:Int) (sv:ByteArray) (Q:Value->List (Option AK)->Prop):Ex XD jH AX Zw Q 2000 (st AX 66 [p9,E2 k a b key val,IK e sv] (BH ⟨.leaf,9⟩ (kF c0 c1 c2 c3 c4 c5 c6 lim bs nw cost AJ)))=(
 (Fe k a b key val)/\(bif Hh k a b key val != 0 then(bif e==2&&(ByteArray.toList sv==ByteArray.toList e_&&true)then(Q (.int .i64 0) [some (vc_do_2 c0 c1 c2 c3 c4 c5 c6 lim cost AJ),some (.abs (Ab.pack (Pk.table bs)) false),some (.abs (Ab.pack (Pk.table nw)) false),some (.vec BL AJ false),none,none,none])else(Q (.int .i64 7) [some (vc_do_2 c0 c1 c2 c3 c4 c5 c6 lim cost AJ),some (.abs (Ab.pack (Pk.table bs)) false),some (.abs (Ab.pack (Pk.table nw)) false),some (.vec BL AJ false),none,none,none]))else(bif k==7 then(bif e==0&&(ByteArray.toList sv==ByteArray.toList e_&&true)then(bif a==0 then(bif decide (a > 0)then(Q (.int .i64 0) [some (.cells [(.int .i64 c0),(.int .i64 c1),(.int .i64 c2),(.int .i64 c3),(.int .i64 c4),(.int .i64 c5),(.int .i64 c6),(.int .i64 lim),(p_ 10),(p_ 11),(.int .i64 cost),(.slice (some ⟨12,0,(some 0)⟩) (List.length AJ) 18446744073709551616),(.pointer none),(.int .i64 1),(.bool true)] 0 false),some (.abs (Ab.pack (Pk.table bs)) false),some (.abs (Ab.pack (Pk.table nw)) false),some (.vec BL AJ false),none,none,none])else(Q (.int .i64 0) [some (.cells [(.int .i64 c0),(.int .i64 c1),(.int .i64 c2),(.int .i64 c3),(.int .i64 c4),(.int .i64 c5),(.int .i64 c6),(.int .i64 lim),(p_ 10),(p_ 11),(.int .i64 cost),(.slice (some ⟨12,0,(some 0)⟩) (List.length AJ) 18446744073709551616),(.pointer none),(.int .i64 1),(.bool false)] 0 false),some (.abs (Ab.pack (Pk.table bs)) false),some (.abs (Ab.pack (Pk.table nw)) false),some (.vec BL AJ false),none,none,none]))else(bif decide (a > 0)then(Q (.int .i64 0) [some (.cells [(.int .i64 c0),(.int .i64 c1),(.int .i64 c2),(.int .i64 c3),(.int .i64 c4),(.int .i64 c5),(.int .i64 c6),(.int .i64 lim),(p_ 10),(p_ 11),(.int .i64 cost),(.slice (some ⟨12,0,(some 0)⟩) (List.length AJ) 18446744073709551616),(.pointer none),(.int .i64 0),(.bool true)] 0 false),some (.abs (Ab.pack (Pk.table bs)) false),some (.abs (Ab.pack (Pk.table nw)) false),some (.vec BL AJ false),none,none,none])else(Q (.int .i64 0) [some (vc_do_2 c0 c1 c2 c3 c4 c5 c6 lim cost AJ),some (.abs (Ab.pack (Pk.table bs)) false),some (.abs (Ab.pack (Pk.table nw)) false),some (.vec BL AJ false),none,none,none])))else(Q (.int .i64 7) [some (vc_do_2 c0 c1 c2 c3 c4 c5 c6 lim cost AJ),some (.abs (Ab.pack (Pk.table bs)) false),some (.abs (Ab.pack (Pk.table nw)) false),some (.vec BL AJ false),none,none,none]))else(List.length AJ=List.length (AB.AJ (mX c0 c1 c2 c3 c4 c5 c6 lim bs nw cost AJ))/\AF=AF)/\(A5 (AB.now (mX c0 c1 c2 c3 c4 c5 c6 lim bs nw cost AJ))/\List.length (AB.now (mX c0 c1 c2 c3 c4 c5 c6 lim bs nw cost AJ)) < 1000000)/\(bif Prod.snd (Prod.snd (CI (mX c0 c1 c2 c3 c4 c5 c6 lim bs nw cost AJ) k key val))then(bif ByteArray.toList sv==ByteArray.toList e_ then(bif e==13 then(bif Prod.fst (CI (mX c0 c1 c2 c3 c4 c5 c6 lim bs nw cost AJ) k key val) != 0 then(Q (.int .i64 7) [some (vc_do_2 c0 c1 c2 c3 c4 c5 c6 lim cost AJ),some (.abs (Ab.pack (Pk.table (AB.base (mX c0 c1 c2 c3 c4 c5 c6 lim bs nw cost AJ)))) false),some (.abs (Ab.pack (Pk.table (AB.now (mX c0 c1 c2 c3 c4 c5 c6 lim bs nw cost AJ)))) false),some (.vec BL AJ false),some (vc_do_4 c0 c1 c2 c3 c4 c5 c6 lim bs nw cost AJ k key val),none,none])else(bif k==2 then
 (Q (.int .i64 7) [some (vc_do_2 c0 c1 c2 c3 c4 c5 c6 lim cost AJ),some (.abs (Ab.pack (Pk.table (AB.base (mX c0 c1 c2 c3 c4 c5 c6 lim bs nw cost AJ)))) false),some (.abs (Ab.pack (Pk.table (AB.now (mX c0 c1 c2 c3 c4 c5 c6 lim bs nw cost AJ)))) false),some (.vec BL AJ false),some (vc_do_4 c0 c1 c2 c3 c4 c5 c6 lim bs nw cost AJ k key val),none,none])else(Q (.int .i64 7) [some (vc_do_2 c0 c1 c2 c3 c4 c5 c6 lim cost AJ),some (.abs (Ab.pack (Pk.table (AB.base (mX c0 c1 c2 c3 c4 c5 c6 lim bs nw cost AJ)))) false),some (.abs (Ab.pack (Pk.table (AB.now (mX c0 c1 c2 c3 c4 c5 c6 lim bs nw cost AJ)))) false),some (.vec BL AJ false),some (vc_do_4 c0 c1 c2 c3 c4 c5 c6 lim bs nw cost AJ k key val),none,none])))else(bif ByteArray.toList sv==ByteArray.toList e_ then(bif e==11 then(Q (.int .i64 0) [some (vc_do_2 c0 c1 c2 c3 c4 c5 c6 lim cost AJ),some (.abs (Ab.pack (Pk.table (AB.base (mX c0 c1 c2 c3 c4 c5 c6 lim bs nw cost AJ)))) false),some (.abs (Ab.pack (Pk.table (AB.now (mX c0 c1 c2 c3 c4 c5 c6 lim bs nw cost AJ)))) false),some (.vec BL AJ false),some (vc_do_4 c0 c1 c2 c3 c4 c5 c6 lim bs nw cost AJ k key val),none,none])else(bif !(e==Prod.fst (CI (mX c0 c1 c2 c3 c4 c5 c6 lim bs nw cost AJ) k key val)&&(ByteArray.toList sv==ByteArray.toList (Prod.fst (Prod.snd (CI (mX c0 c1 c2 c3 c4 c5 c6 lim bs nw cost AJ) k key val)))&&true))then(Q (.int .i64 7) [some (vc_do_2 c0 c1 c2 c3 c4 c5 c6 lim cost AJ),some (.abs (Ab.pack (Pk.table (AB.base (mX c0 c1 c2 c3 c4 c5 c6 lim bs nw cost AJ)))) false),some (.abs (Ab.pack (Pk.table (AB.now (mX c0 c1 c2 c3 c4 c5 c6 lim bs nw cost AJ)))) false),some (.vec BL AJ false),some (vc_do_4 c0 c1 c2 c3 c4 c5 c6 lim bs nw cost AJ k key val),none,none])else(List.length AJ=List.length (AB.AJ (mX c0 c1 c2 c3 c4 c5 c6 lim bs nw cost AJ))/\AF=AF)/\(A5 (AB.now (mX c0 c1 c2 c3 c4 c5 c6 lim bs nw cost AJ))/\List.length (AB.now (mX c0 c1 c2 c3 c4 c5 c6 lim bs nw cost AJ)) < 1000000/\List.length (AB.AJ (mX c0 c1 c2 c3 c4 c5 c6 lim bs nw cost AJ)) < 1000000)/\(bif k==4 then(List.length (AB.now (CB (mX c0 c1 c2 c3 c4 c5 c6 lim bs nw cost AJ) (k==3) key val)) < 1000000)/\(Q (.int .i64 0) [some (vc_do_1 c0 c1 c2 c3 c4 c5 c6 lim bs nw cost AJ k key val),some (.abs (Ab.pack (Pk.table (AB.base (mX c0 c1 c2 c3 c4 c5 c6 lim bs nw cost AJ)))) false),some (.abs (Ab.pack (Pk.table (AB.now (CB (mX c0 c1 c2 c3 c4 c5 c6 lim bs nw cost AJ) (k==3) key val)))) false),none,some (vc_do_4 c0 c1 c2 c3 c4 c5 c6 lim bs nw cost AJ k key val),some (.vec ([SK.bool,SK.str,SK.str]) (AB.AJ (mX c0 c1 c2 c3 c4 c5 c6 lim bs nw cost AJ)++[(k==3,key,val)]) false),some (.abs (Ab.pack (Pk.table (AB.now (CB (mX c0 c1 c2 c3 c4 c5 c6 lim bs nw cost AJ) (k==3) key val)))) false)])else(bif k==8 then(List.length (AB.now (CB (mX c0 c1 c2 c3 c4 c5 c6 lim bs nw cost AJ) (k==3) key val)) < 1000000)/\(Q (.int .i64 0) [some (vc_do_1 c0 c1 c2 c3 c4 c5 c6 lim bs nw cost AJ k key val),some (.abs (Ab.pack (Pk.table (AB.base (mX c0 c1 c2 c3 c4 c5 c6 lim bs nw cost AJ)))) false),some (.abs (Ab.pack (Pk.table (AB.now (CB (mX c0 c1 c2 c3 c4 c5 c6 lim bs nw cost AJ) (k==3) key val)))) false),none,some (vc_do_4 c0 c1 c2 c3 c4 c5 c6 lim bs nw cost AJ k key val),some (.vec ([SK.bool,SK.str,SK.str]) (AB.AJ (mX c0 c1 c2 c3 c4 c5 c6 lim bs nw cost AJ)++[(k==3,key,val)]) false),some (.abs (Ab.pack (Pk.table (AB.now (CB (mX c0 c1 c2 c3 c4 c5 c6 lim bs nw cost AJ) (k==3) key val)))) false)])else
 (Q (.int .i64 0) [some (vc_do_0 c0 c1 c2 c3 c4 c5 c6 lim bs nw cost AJ k key val),some (.abs (Ab.pack (Pk.table (AB.base (mX c0 c1 c2 c3 c4 c5 c6 lim bs nw cost AJ)))) false),some (.abs (Ab.pack (Pk.table (AB.now (CB (mX c0 c1 c2 c3 c4 c5 c6 lim bs nw cost AJ) (k==3) key val)))) false),none,some (vc_do_4 c0 c1 c2 c3 c4 c5 c6 lim bs nw cost AJ k key val),some (.vec ([SK.bool,SK.str,SK.str]) (AB.AJ (mX c0 c1 c2 c3 c4 c5 c6 lim bs nw cost AJ)++[(k==3,key,val)]) false),none])))))else(bif !(e==Prod.fst (CI (mX c0 c1 c2 c3 c4 c5 c6 lim bs nw cost AJ) k key val)&&(ByteArray.toList sv==ByteArray.toList (Prod.fst (Prod.snd (CI (mX c0 c1 c2 c3 c4 c5 c6 lim bs nw cost AJ) k key val)))&&true))then(Q (.int .i64 7) [some (vc_do_2 c0 c1 c2 c3 c4 c5 c6 lim cost AJ),some (.abs (Ab.pack (Pk.table (AB.base (mX c0 c1 c2 c3 c4 c5 c6 lim bs nw cost AJ)))) false),some (.abs (Ab.pack (Pk.table (AB.now (mX c0 c1 c2 c3 c4 c5 c6 lim bs nw cost AJ)))) false),some (.vec BL AJ false),some (vc_do_4 c0 c1 c2 c3 c4 c5 c6 lim bs nw cost AJ k key val),none,none])else(List.length AJ=List.length (AB.AJ (mX c0 c1 c2 c3 c4 c5 c6 lim bs nw cost AJ))/\AF=AF)/\(A5 (AB.now (mX c0 c1 c2 c3 c4 c5 c6 lim bs nw cost AJ))/\List.length (AB.now (mX c0 c1 c2 c3 c4 c5 c6 lim bs nw cost AJ)) < 1000000/\List.length (AB.AJ (mX c0 c1 c2 c3 c4 c5 c6 lim bs nw cost AJ)) < 1000000)/\(bif k==4 then(List.length (AB.now (CB (mX c0 c1 c2 c3 c4 c5 c6 lim bs nw cost AJ) (k==3) key val)) < 1000000)/\(Q (.int .i64 0) [some (vc_do_1 c0 c1 c2 c3 c4 c5 c6 lim bs nw cost AJ k key val),some (.abs (Ab.pack (Pk.table (AB.base (mX c0 c1 c2 c3 c4 c5 c6 lim bs nw cost AJ)))) false),some (.abs (Ab.pack (Pk.table (AB.now (CB (mX c0 c1 c2 c3 c4 c5 c6 lim bs nw cost AJ) (k==3) key val)))) false),none,some (vc_do_4 c0 c1 c2 c3 c4 c5 c6 lim bs nw cost AJ k key val),some (.vec ([SK.bool,SK.str,SK.str]) (AB.AJ (mX c0 c1 c2 c3 c4 c5 c6 lim bs nw cost AJ)++[(k==3,key,val)]) false),some (.abs (Ab.pack (Pk.table (AB.now (CB (mX c0 c1 c2 c3 c4 c5 c6 lim bs nw cost AJ) (k==3) key val)))) false)])else(bif k==8 then(List.length (AB.now (CB (mX c0 c1 c2 c3 c4 c5 c6 lim bs nw cost AJ) (k==3) key val)) < 1000000)/\(Q (.int .i64 0) [some (vc_do_1 c0 c1 c2 c3 c4 c5 c6 lim bs nw cost AJ k key val),some (.abs (Ab.pack (Pk.table (AB.base (mX c0 c1 c2 c3 c4 c5 c6 lim bs nw cost AJ)))) false),some (.abs (Ab.pack (Pk.table (AB.now (CB (mX c0 c1 c2 c3 c4 c5 c6 lim bs nw cost AJ) (k==3) key val)))) false),none,some (vc_do_4 c0 c1 c2 c3 c4 c5 c6 lim bs nw cost AJ k key val),some (.vec ([SK.bool,SK.str,SK.str]) (AB.AJ (mX c0 c1 c2 c3 c4 c5 c6 lim bs nw cost AJ)++[(k==3,key,val)]) false),some (.abs (Ab.pack (Pk.table (AB.now (CB (mX c0 c1 c2 c3 c4 c5 c6 lim bs nw cost AJ) (k==3) key val)))) false)])else(Q (.int .i64 0) [some (vc_do_0 c0 c1 c2 c3 c4 c5 c6 lim bs nw cost AJ k key val),some (.abs (Ab.pack (Pk.table (AB.base (mX c0 c1 c2 c3 c4 c5 c6 lim bs nw cost AJ)))) false),some (.abs (Ab.pack (Pk.table (AB.now (CB (mX c0 c1 c2 c3 c4 c5 c6 lim bs nw cost AJ) (k==3) key val)))) false),none,some (vc_do_4 c0 c1 c2 c3 c4 c5 c6 lim bs nw cost AJ k key val),some (.vec ([SK.bool,SK.str,SK.str]) (AB.AJ (mX c0 c1 c2 c3 c4 c5 c6 lim bs nw cost AJ)++[(k==3,key,val)]) false),none]))))))else(bif ByteArray.toList sv==ByteArray.toList e_ then(bif e==11 then(Q (.int .i64 0) [some (vc_do_2 c0 c1 c2 c3 c4 c5 c6 lim cost AJ),some (.abs (Ab.pack (Pk.table (AB.base (mX c0 c1 c2 c3 c4 c5 c6 lim bs nw cost AJ)))) false),some (.abs (Ab.pack (Pk.table (AB.now (mX c0 c1 c2 c3 c4 c5 c6 lim bs nw cost AJ)))) false),some (.vec BL AJ false),some (vc_do_4 c0 c1 c2 c3 c4 c5 c6 lim bs nw cost AJ k key val),none,none])else
 (bif !(e==Prod.fst (CI (mX c0 c1 c2 c3 c4 c5 c6 lim bs nw cost AJ) k key val)&&(ByteArray.toList sv==ByteArray.toList (Prod.fst (Prod.snd (CI (mX c0 c1 c2 c3 c4 c5 c6 lim bs nw cost AJ) k key val)))&&true))then(Q (.int .i64 7) [some (vc_do_2 c0 c1 c2 c3 c4 c5 c6 lim cost AJ),some (.abs (Ab.pack (Pk.table (AB.base (mX c0 c1 c2 c3 c4 c5 c6 lim bs nw cost AJ)))) false),some (.abs (Ab.pack (Pk.table (AB.now (mX c0 c1 c2 c3 c4 c5 c6 lim bs nw cost AJ)))) false),some (.vec BL AJ false),some (vc_do_4 c0 c1 c2 c3 c4 c5 c6 lim bs nw cost AJ k key val),none,none])else(List.length AJ=List.length (AB.AJ (mX c0 c1 c2 c3 c4 c5 c6 lim bs nw cost AJ))/\AF=AF)/\(A5 (AB.now (mX c0 c1 c2 c3 c4 c5 c6 lim bs nw cost AJ))/\List.length (AB.now (mX c0 c1 c2 c3 c4 c5 c6 lim bs nw cost AJ)) < 1000000/\List.length (AB.AJ (mX c0 c1 c2 c3 c4 c5 c6 lim bs nw cost AJ)) < 1000000)/\(bif k==4 then(List.length (AB.now (CB (mX c0 c1 c2 c3 c4 c5 c6 lim bs nw cost AJ) (k==3) key val)) < 1000000)/\(Q (.int .i64 0) [some (vc_do_1 c0 c1 c2 c3 c4 c5 c6 lim bs nw cost AJ k key val),some (.abs (Ab.pack (Pk.table (AB.base (mX c0 c1 c2 c3 c4 c5 c6 lim bs nw cost AJ)))) false),some (.abs (Ab.pack (Pk.table (AB.now (CB (mX c0 c1 c2 c3 c4 c5 c6 lim bs nw cost AJ) (k==3) key val)))) false),none,some (vc_do_4 c0 c1 c2 c3 c4 c5 c6 lim bs nw cost AJ k key val),some (.vec ([SK.bool,SK.str,SK.str]) (AB.AJ (mX c0 c1 c2 c3 c4 c5 c6 lim bs nw cost AJ)++[(k==3,key,val)]) false),some (.abs (Ab.pack (Pk.table (AB.now (CB (mX c0 c1 c2 c3 c4 c5 c6 lim bs nw cost AJ) (k==3) key val)))) false)])else(bif k==8 then(List.length (AB.now (CB (mX c0 c1 c2 c3 c4 c5 c6 lim bs nw cost AJ) (k==3) key val)) < 1000000)/\(Q (.int .i64 0) [some (vc_do_1 c0 c1 c2 c3 c4 c5 c6 lim bs nw cost AJ k key val),some (.abs (Ab.pack (Pk.table (AB.base (mX c0 c1 c2 c3 c4 c5 c6 lim bs nw cost AJ)))) false),some (.abs (Ab.pack (Pk.table (AB.now (CB (mX c0 c1 c2 c3 c4 c5 c6 lim bs nw cost AJ) (k==3) key val)))) false),none,some (vc_do_4 c0 c1 c2 c3 c4 c5 c6 lim bs nw cost AJ k key val),some (.vec ([SK.bool,SK.str,SK.str]) (AB.AJ (mX c0 c1 c2 c3 c4 c5 c6 lim bs nw cost AJ)++[(k==3,key,val)]) false),some (.abs (Ab.pack (Pk.table (AB.now (CB (mX c0 c1 c2 c3 c4 c5 c6 lim bs nw cost AJ) (k==3) key val)))) false)])else(Q (.int .i64 0) [some (vc_do_0 c0 c1 c2 c3 c4 c5 c6 lim bs nw cost AJ k key val),some (.abs (Ab.pack (Pk.table (AB.base (mX c0 c1 c2 c3 c4 c5 c6 lim bs nw cost AJ)))) false),some (.abs (Ab.pack (Pk.table (AB.now (CB (mX c0 c1 c2 c3 c4 c5 c6 lim bs nw cost AJ) (k==3) key val)))) false),none,some (vc_do_4 c0 c1 c2 c3 c4 c5 c6 lim bs nw cost AJ k key val),some (.vec ([SK.bool,SK.str,SK.str]) (AB.AJ (mX c0 c1 c2 c3 c4 c5 c6 lim bs nw cost AJ)++[(k==3,key,val)]) false),none])))))else(bif !(e==Prod.fst (CI (mX c0 c1 c2 c3 c4 c5 c6 lim bs nw cost AJ) k key val)&&(ByteArray.toList sv==ByteArray.toList (Prod.fst (Prod.snd (CI (mX c0 c1 c2 c3 c4 c5 c6 lim bs nw cost AJ) k key val)))&&true))then(Q (.int .i64 7) [some (vc_do_2 c0 c1 c2 c3 c4 c5 c6 lim cost AJ),some (.abs (Ab.pack (Pk.table (AB.base (mX c0 c1 c2 c3 c4 c5 c6 lim bs nw cost AJ)))) false),some (.abs (Ab.pack (Pk.table (AB.now (mX c0 c1 c2 c3 c4 c5 c6 lim bs nw cost AJ)))) false),some (.vec BL AJ false),some (vc_do_4 c0 c1 c2 c3 c4 c5 c6 lim bs nw cost AJ k key val),none,none])else(List.length AJ=List.length (AB.AJ (mX c0 c1 c2 c3 c4 c5 c6 lim bs nw cost AJ))/\AF=AF)/\(A5 (AB.now (mX c0 c1 c2 c3 c4 c5 c6 lim bs nw cost AJ))/\List.length (AB.now (mX c0 c1 c2 c3 c4 c5 c6 lim bs nw cost AJ)) < 1000000/\List.length (AB.AJ (mX c0 c1 c2 c3 c4 c5 c6 lim bs nw cost AJ)) < 1000000)/\(bif k==4 then
 (List.length (AB.now (CB (mX c0 c1 c2 c3 c4 c5 c6 lim bs nw cost AJ) (k==3) key val)) < 1000000)/\(Q (.int .i64 0) [some (vc_do_1 c0 c1 c2 c3 c4 c5 c6 lim bs nw cost AJ k key val),some (.abs (Ab.pack (Pk.table (AB.base (mX c0 c1 c2 c3 c4 c5 c6 lim bs nw cost AJ)))) false),some (.abs (Ab.pack (Pk.table (AB.now (CB (mX c0 c1 c2 c3 c4 c5 c6 lim bs nw cost AJ) (k==3) key val)))) false),none,some (vc_do_4 c0 c1 c2 c3 c4 c5 c6 lim bs nw cost AJ k key val),some (.vec ([SK.bool,SK.str,SK.str]) (AB.AJ (mX c0 c1 c2 c3 c4 c5 c6 lim bs nw cost AJ)++[(k==3,key,val)]) false),some (.abs (Ab.pack (Pk.table (AB.now (CB (mX c0 c1 c2 c3 c4 c5 c6 lim bs nw cost AJ) (k==3) key val)))) false)])else(bif k==8 then(List.length (AB.now (CB (mX c0 c1 c2 c3 c4 c5 c6 lim bs nw cost AJ) (k==3) key val)) < 1000000)/\(Q (.int .i64 0) [some (vc_do_1 c0 c1 c2 c3 c4 c5 c6 lim bs nw cost AJ k key val),some (.abs (Ab.pack (Pk.table (AB.base (mX c0 c1 c2 c3 c4 c5 c6 lim bs nw cost AJ)))) false),some (.abs (Ab.pack (Pk.table (AB.now (CB (mX c0 c1 c2 c3 c4 c5 c6 lim bs nw cost AJ) (k==3) key val)))) false),none,some (vc_do_4 c0 c1 c2 c3 c4 c5 c6 lim bs nw cost AJ k key val),some (.vec ([SK.bool,SK.str,SK.str]) (AB.AJ (mX c0 c1 c2 c3 c4 c5 c6 lim bs nw cost AJ)++[(k==3,key,val)]) false),some (.abs (Ab.pack (Pk.table (AB.now (CB (mX c0 c1 c2 c3 c4 c5 c6 lim bs nw cost AJ) (k==3) key val)))) false)])else(Q (.int .i64 0) [some (vc_do_0 c0 c1 c2 c3 c4 c5 c6 lim bs nw cost AJ k key val),some (.abs (Ab.pack (Pk.table (AB.base (mX c0 c1 c2 c3 c4 c5 c6 lim bs nw cost AJ)))) false),some (.abs (Ab.pack (Pk.table (AB.now (CB (mX c0 c1 c2 c3 c4 c5 c6 lim bs nw cost AJ) (k==3) key val)))) false),none,some (vc_do_4 c0 c1 c2 c3 c4 c5 c6 lim bs nw cost AJ k key val),some (.vec ([SK.bool,SK.str,SK.str]) (AB.AJ (mX c0 c1 c2 c3 c4 c5 c6 lim bs nw cost AJ)++[(k==3,key,val)]) false),none]))))))else(bif ByteArray.toList sv==ByteArray.toList e_ then(bif e==13 then(bif Prod.fst (CI (mX c0 c1 c2 c3 c4 c5 c6 lim bs nw cost AJ) k key val) != 0 then(Q (.int .i64 7) [some (vc_do_2 c0 c1 c2 c3 c4 c5 c6 lim cost AJ),some (.abs (Ab.pack (Pk.table (AB.base (mX c0 c1 c2 c3 c4 c5 c6 lim bs nw cost AJ)))) false),some (.abs (Ab.pack (Pk.table (AB.now (mX c0 c1 c2 c3 c4 c5 c6 lim bs nw cost AJ)))) false),some (.vec BL AJ false),none,none,none])else(bif k==2 then(Q (.int .i64 7) [some (vc_do_2 c0 c1 c2 c3 c4 c5 c6 lim cost AJ),some (.abs (Ab.pack (Pk.table (AB.base (mX c0 c1 c2 c3 c4 c5 c6 lim bs nw cost AJ)))) false),some (.abs (Ab.pack (Pk.table (AB.now (mX c0 c1 c2 c3 c4 c5 c6 lim bs nw cost AJ)))) false),some (.vec BL AJ false),none,none,none])else(Q (.int .i64 7) [some (vc_do_2 c0 c1 c2 c3 c4 c5 c6 lim cost AJ),some (.abs (Ab.pack (Pk.table (AB.base (mX c0 c1 c2 c3 c4 c5 c6 lim bs nw cost AJ)))) false),some (.abs (Ab.pack (Pk.table (AB.now (mX c0 c1 c2 c3 c4 c5 c6 lim bs nw cost AJ)))) false),some (.vec BL AJ false),none,none,none])))else(bif ByteArray.toList sv==ByteArray.toList e_ then(bif e==11 then(Q (.int .i64 7) [some (vc_do_2 c0 c1 c2 c3 c4 c5 c6 lim cost AJ),some (.abs (Ab.pack (Pk.table (AB.base (mX c0 c1 c2 c3 c4 c5 c6 lim bs nw cost AJ)))) false),some (.abs (Ab.pack (Pk.table (AB.now (mX c0 c1 c2 c3 c4 c5 c6 lim bs nw cost AJ)))) false),some (.vec BL AJ false),none,none,none])else(bif !(e==Prod.fst (CI (mX c0 c1 c2 c3 c4 c5 c6 lim bs nw cost AJ) k key val)&&(ByteArray.toList sv==ByteArray.toList (Prod.fst (Prod.snd (CI (mX c0 c1 c2 c3 c4 c5 c6 lim bs nw cost AJ) k key val)))&&true))then
 (Q (.int .i64 7) [some (vc_do_2 c0 c1 c2 c3 c4 c5 c6 lim cost AJ),some (.abs (Ab.pack (Pk.table (AB.base (mX c0 c1 c2 c3 c4 c5 c6 lim bs nw cost AJ)))) false),some (.abs (Ab.pack (Pk.table (AB.now (mX c0 c1 c2 c3 c4 c5 c6 lim bs nw cost AJ)))) false),some (.vec BL AJ false),none,none,none])else(bif k==4 then(List.length (AB.now (mX c0 c1 c2 c3 c4 c5 c6 lim bs nw cost AJ)) < 1000000)/\(Q (.int .i64 0) [some (vc_do_3 c0 c1 c2 c3 c4 c5 c6 lim cost),some (.abs (Ab.pack (Pk.table (AB.base (mX c0 c1 c2 c3 c4 c5 c6 lim bs nw cost AJ)))) false),some (.abs (Ab.pack (Pk.table (AB.now (mX c0 c1 c2 c3 c4 c5 c6 lim bs nw cost AJ)))) false),some (.vec BL AJ false),some (.abs (Ab.pack (Pk.table (AB.now (mX c0 c1 c2 c3 c4 c5 c6 lim bs nw cost AJ)))) false),none,none])else(bif k==8 then(List.length (AB.now (mX c0 c1 c2 c3 c4 c5 c6 lim bs nw cost AJ)) < 1000000)/\(Q (.int .i64 0) [some (vc_do_3 c0 c1 c2 c3 c4 c5 c6 lim cost),some (.abs (Ab.pack (Pk.table (AB.base (mX c0 c1 c2 c3 c4 c5 c6 lim bs nw cost AJ)))) false),some (.abs (Ab.pack (Pk.table (AB.now (mX c0 c1 c2 c3 c4 c5 c6 lim bs nw cost AJ)))) false),some (.vec BL AJ false),some (.abs (Ab.pack (Pk.table (AB.now (mX c0 c1 c2 c3 c4 c5 c6 lim bs nw cost AJ)))) false),none,none])else(Q (.int .i64 0) [some (vc_do_2 c0 c1 c2 c3 c4 c5 c6 lim cost AJ),some (.abs (Ab.pack (Pk.table (AB.base (mX c0 c1 c2 c3 c4 c5 c6 lim bs nw cost AJ)))) false),some (.abs (Ab.pack (Pk.table (AB.now (mX c0 c1 c2 c3 c4 c5 c6 lim bs nw cost AJ)))) false),some (.vec BL AJ false),none,none,none])))))else(bif !(e==Prod.fst (CI (mX c0 c1 c2 c3 c4 c5 c6 lim bs nw cost AJ) k key val)&&(ByteArray.toList sv==ByteArray.toList (Prod.fst (Prod.snd (CI (mX c0 c1 c2 c3 c4 c5 c6 lim bs nw cost AJ) k key val)))&&true))then(Q (.int .i64 7) [some (vc_do_2 c0 c1 c2 c3 c4 c5 c6 lim cost AJ),some (.abs (Ab.pack (Pk.table (AB.base (mX c0 c1 c2 c3 c4 c5 c6 lim bs nw cost AJ)))) false),some (.abs (Ab.pack (Pk.table (AB.now (mX c0 c1 c2 c3 c4 c5 c6 lim bs nw cost AJ)))) false),some (.vec BL AJ false),none,none,none])else(bif k==4 then(List.length (AB.now (mX c0 c1 c2 c3 c4 c5 c6 lim bs nw cost AJ)) < 1000000)/\(Q (.int .i64 0) [some (vc_do_3 c0 c1 c2 c3 c4 c5 c6 lim cost),some (.abs (Ab.pack (Pk.table (AB.base (mX c0 c1 c2 c3 c4 c5 c6 lim bs nw cost AJ)))) false),some (.abs (Ab.pack (Pk.table (AB.now (mX c0 c1 c2 c3 c4 c5 c6 lim bs nw cost AJ)))) false),some (.vec BL AJ false),some (.abs (Ab.pack (Pk.table (AB.now (mX c0 c1 c2 c3 c4 c5 c6 lim bs nw cost AJ)))) false),none,none])else(bif k==8 then(List.length (AB.now (mX c0 c1 c2 c3 c4 c5 c6 lim bs nw cost AJ)) < 1000000)/\(Q (.int .i64 0) [some (vc_do_3 c0 c1 c2 c3 c4 c5 c6 lim cost),some (.abs (Ab.pack (Pk.table (AB.base (mX c0 c1 c2 c3 c4 c5 c6 lim bs nw cost AJ)))) false),some (.abs (Ab.pack (Pk.table (AB.now (mX c0 c1 c2 c3 c4 c5 c6 lim bs nw cost AJ)))) false),some (.vec BL AJ false),some (.abs (Ab.pack (Pk.table (AB.now (mX c0 c1 c2 c3 c4 c5 c6 lim bs nw cost AJ)))) false),none,none])else(Q (.int .i64 0) [some (vc_do_2 c0 c1 c2 c3 c4 c5 c6 lim cost AJ),some (.abs (Ab.pack (Pk.table (AB.base (mX c0 c1 c2 c3 c4 c5 c6 lim bs nw cost AJ)))) false),some (.abs (Ab.pack (Pk.table (AB.now (mX c0 c1 c2 c3 c4 c5 c6 lim bs nw cost AJ)))) false),some (.vec BL AJ false),none,none,none]))))))else(bif ByteArray.toList sv==ByteArray.toList e_ then(bif e==11 then(Q (.int .i64 7) [some (vc_do_2 c0 c1 c2 c3 c4 c5 c6 lim cost AJ),some (.abs (Ab.pack (Pk.table (AB.base (mX c0 c1 c2 c3 c4 c5 c6 lim bs nw cost AJ)))) false),some (.abs (Ab.pack (Pk.table (AB.now (mX c0 c1 c2 c3 c4 c5 c6 lim bs nw cost AJ)))) false),some (.vec BL AJ false),none,none,none])else
 (bif !(e==Prod.fst (CI (mX c0 c1 c2 c3 c4 c5 c6 lim bs nw cost AJ) k key val)&&(ByteArray.toList sv==ByteArray.toList (Prod.fst (Prod.snd (CI (mX c0 c1 c2 c3 c4 c5 c6 lim bs nw cost AJ) k key val)))&&true))then(Q (.int .i64 7) [some (vc_do_2 c0 c1 c2 c3 c4 c5 c6 lim cost AJ),some (.abs (Ab.pack (Pk.table (AB.base (mX c0 c1 c2 c3 c4 c5 c6 lim bs nw cost AJ)))) false),some (.abs (Ab.pack (Pk.table (AB.now (mX c0 c1 c2 c3 c4 c5 c6 lim bs nw cost AJ)))) false),some (.vec BL AJ false),none,none,none])else(bif k==4 then(List.length (AB.now (mX c0 c1 c2 c3 c4 c5 c6 lim bs nw cost AJ)) < 1000000)/\(Q (.int .i64 0) [some (vc_do_3 c0 c1 c2 c3 c4 c5 c6 lim cost),some (.abs (Ab.pack (Pk.table (AB.base (mX c0 c1 c2 c3 c4 c5 c6 lim bs nw cost AJ)))) false),some (.abs (Ab.pack (Pk.table (AB.now (mX c0 c1 c2 c3 c4 c5 c6 lim bs nw cost AJ)))) false),some (.vec BL AJ false),some (.abs (Ab.pack (Pk.table (AB.now (mX c0 c1 c2 c3 c4 c5 c6 lim bs nw cost AJ)))) false),none,none])else(bif k==8 then(List.length (AB.now (mX c0 c1 c2 c3 c4 c5 c6 lim bs nw cost AJ)) < 1000000)/\(Q (.int .i64 0) [some (vc_do_3 c0 c1 c2 c3 c4 c5 c6 lim cost),some (.abs (Ab.pack (Pk.table (AB.base (mX c0 c1 c2 c3 c4 c5 c6 lim bs nw cost AJ)))) false),some (.abs (Ab.pack (Pk.table (AB.now (mX c0 c1 c2 c3 c4 c5 c6 lim bs nw cost AJ)))) false),some (.vec BL AJ false),some (.abs (Ab.pack (Pk.table (AB.now (mX c0 c1 c2 c3 c4 c5 c6 lim bs nw cost AJ)))) false),none,none])else(Q (.int .i64 0) [some (vc_do_2 c0 c1 c2 c3 c4 c5 c6 lim cost AJ),some (.abs (Ab.pack (Pk.table (AB.base (mX c0 c1 c2 c3 c4 c5 c6 lim bs nw cost AJ)))) false),some (.abs (Ab.pack (Pk.table (AB.now (mX c0 c1 c2 c3 c4 c5 c6 lim bs nw cost AJ)))) false),some (.vec BL AJ false),none,none,none])))))else(bif !(e==Prod.fst (CI (mX c0 c1 c2 c3 c4 c5 c6 lim bs nw cost AJ) k key val)&&(ByteArray.toList sv==ByteArray.toList (Prod.fst (Prod.snd (CI (mX c0 c1 c2 c3 c4 c5 c6 lim bs nw cost AJ) k key val)))&&true))then(Q (.int .i64 7) [some (vc_do_2 c0 c1 c2 c3 c4 c5 c6 lim cost AJ),some (.abs (Ab.pack (Pk.table (AB.base (mX c0 c1 c2 c3 c4 c5 c6 lim bs nw cost AJ)))) false),some (.abs (Ab.pack (Pk.table (AB.now (mX c0 c1 c2 c3 c4 c5 c6 lim bs nw cost AJ)))) false),some (.vec BL AJ false),none,none,none])else(bif k==4 then(List.length (AB.now (mX c0 c1 c2 c3 c4 c5 c6 lim bs nw cost AJ)) < 1000000)/\(Q (.int .i64 0) [some (vc_do_3 c0 c1 c2 c3 c4 c5 c6 lim cost),some (.abs (Ab.pack (Pk.table (AB.base (mX c0 c1 c2 c3 c4 c5 c6 lim bs nw cost AJ)))) false),some (.abs (Ab.pack (Pk.table (AB.now (mX c0 c1 c2 c3 c4 c5 c6 lim bs nw cost AJ)))) false),some (.vec BL AJ false),some (.abs (Ab.pack (Pk.table (AB.now (mX c0 c1 c2 c3 c4 c5 c6 lim bs nw cost AJ)))) false),none,none])else(bif k==8 then(List.length (AB.now (mX c0 c1 c2 c3 c4 c5 c6 lim bs nw cost AJ)) < 1000000)/\(Q (.int .i64 0) [some (vc_do_3 c0 c1 c2 c3 c4 c5 c6 lim cost),some (.abs (Ab.pack (Pk.table (AB.base (mX c0 c1 c2 c3 c4 c5 c6 lim bs nw cost AJ)))) false),some (.abs (Ab.pack (Pk.table (AB.now (mX c0 c1 c2 c3 c4 c5 c6 lim bs nw cost AJ)))) false),some (.vec BL AJ false),some (.abs (Ab.pack (Pk.table (AB.now (mX c0 c1 c2 c3 c4 c5 c6 lim bs nw cost AJ)))) false),none,none])else(Q (.int .i64 0) [some (vc_do_2 c0 c1 c2 c3 c4 c5 c6 lim cost AJ),some (.abs (Ab.pack (Pk.table (AB.base (mX c0 c1 c2 c3 c4 c5 c6 lim bs nw cost AJ)))) false),some (.abs (Ab.pack (Pk.table (AB.now (mX c0 c1 c2 c3 c4 c5 c6 lim bs nw cost AJ)))) false),some (.vec BL AJ false),none,none,none])))))))))):=by kernel_rfl
theorem Wz:Eg XD jH:=Ap (UD (by kernel_rfl)) (Ap (fun _ _ _ h=>A9 (by kernel_rfl) h) (Ap (fun _ _ _ h=>A9 (by kernel_rfl) h) (Ap (fun _ _ _ h=>A9 (by kernel_rfl) h) (Ap (fun _ _ _ h=>A9 (by kernel_rfl) h)
 (Ap (fun _ _ _ h=>A9 (by kernel_rfl) h) (Ap (fun _ _ _ h=>A9 (by kernel_rfl) h) (Ap (fun _ _ _ h=>A9 (by kernel_rfl) h) (Ap (fun _ _ _ h=>A9 (by kernel_rfl) h) (A6 _)))))))))
theorem iy:A4 Tryz.prog AL kU:=A4.cons Uz (A4.cons Zh (A4.cons Wy allM))
def I2 (s:ByteArray):Bool:=ByteArray.toList s==ByteArray.toList { data:=#[] }
def Sy (m:AB):AB:={ m with base:=m.now,AJ:=[] }
def JW (k:Int) (m:AB):AB:=bif k==4 then Sy m else bif k==8 then Sy m else m
def OV (m:AB) (k a b:Int) (key val:ByteArray) (e:Int) (sv:ByteArray):Option AB:=
 bif Hh k a b key val != 0 then(bif e==2&&(I2 sv&&true)then some m else none)
 else bif k==7 then none
 else bif (CI m k key val).2.2 then
  (bif I2 sv&&e==13 then none else bif I2 sv&&e==11 then some m else bif !(e==(CI m k key val).1&&(ByteArray.toList sv==ByteArray.toList (CI m k key val).2.1&&true))then none else some (JW k (CB m (k==3) key val)))
 else(bif I2 sv&&e==13 then none else bif I2 sv&&e==11 then none else bif !(e==(CI m k key val).1&&(ByteArray.toList sv==ByteArray.toList (CI m k key val).2.1&&true))then none else some (JW k m))
inductive cl (m:AB):List (Option AK)->Prop where
 | same (a b c:Option AK):cl m [some (.cells (BN m 10 11 (.slice (some ⟨12,0,some 0⟩) m.AJ.length 18446744073709551616)) 0 false),some (Bi m.base),some (Bi m.now),some (.vec BL m.AJ false),a,b,c]
 | acc (a b c:Option AK) (n:Nat) (h:n=m.AJ.length):cl m [some (.cells (BN m 10 11 (.slice (some ⟨19,0,some 0⟩) n 18446744073709551616)) 0 false),some (Bi m.base),some (Bi m.now),a,b,some (.vec BL m.AJ false),c]
 | da (a b c d:Option AK) (h:m.AJ=[]):cl m [some (.cells (BN m 20 11 (.slice none 0 0)) 0 false),a,some (Bi m.now),b,c,d,some (Bi m.base)]
 | dL (a b c d:Option AK) (h:m.AJ=[]):cl m [some (.cells (BN m 18 11 (.slice none 0 0)) 0 false),a,some (Bi m.now),b,some (Bi m.base),c,d]
def je (m:AB) (r:Option AB) (v:Value) (os:List (Option AK)):Prop:=(r=none/\v= .int .i64 7/\cl m os)∨∃m',r=some m'/\v= .int .i64 0/\cl m' os
theorem kE {m:AB} {r:Option AB} {os:List (Option AK)} (h:r=none) (hd:cl m os):je m r (.int .i64 7) os:= .inl ⟨h,rfl,hd⟩
theorem iE {m:AB} {r:Option AB} {os:List (Option AK)} (m':AB) (h:r=some m') (hd:cl m' os):je m r (.int .i64 0) os:= .inr ⟨m',h,rfl,hd⟩
theorem cO (m:AB) (del:Bool) (key val:ByteArray) (h:m.now.length < 900000):(CB m del key val).now.length < 1000000:=by
 have h1:(Ez m.now key val).length<=m.now.length+1:=by
  unfold Ez;split
  ·rw[List.length_set];omega
  ·simp only[List.length_append,List.length_take,List.length_drop,List.length_cons,List.length_nil];omega
 have h2:(E4 m.now key).length<=m.now.length:=by
  unfold E4;split
  ·simp only[List.length_append,List.length_take,List.length_drop];omega
  ·exact Nat.le_refl _
 cases del
 ·show(Ez m.now key val).length < _;omega
 ·show(E4 m.now key).length < _;omega
theorem gm (c0 c1 c2 c3 c4 c5 c6 lim:Int) (bs nw:List (ByteArray × ByteArray)) (cost:Int) (AJ:List (Bool × ByteArray × ByteArray)) (k a b:Int) (key val:ByteArray) (e:Int) (sv:ByteArray)
 (hck:Fe k a b key val) (hs:A5 nw) (hn:nw.length < 900000) (hu:AJ.length < 1000000) (hcr:(k==7)=true->(e==0&&(ByteArray.toList sv==ByteArray.toList { data:=#[] }&&true))=false):
 Ex XD jH AX Zw (je (mX c0 c1 c2 c3 c4 c5 c6 lim bs nw cost AJ) (OV (mX c0 c1 c2 c3 c4 c5 c6 lim bs nw cost AJ) k a b key val e sv)) 2000 (st AX 66 [p9,E2 k a b key val,IK e sv] (BH ⟨.leaf,9⟩ (kF c0 c1 c2 c3 c4 c5 c6 lim bs nw cost AJ))):=by
 have hn1:nw.length < 1000000:=by omega
 rw[jF];refine⟨hck,?_⟩;refine Ae (fun _=>Ae (fun _=>?_) (fun _=>?_)) (fun _=>Ae (fun h7=>?_) (fun _=>?_))
 ·exact iE _ (by unfold OV JW I2;simp only[*,cond_true]<;>rfl) (.same _ _ _)
 ·exact kE (by unfold OV JW I2;simp only[*,cond_true,cond_false]<;>rfl) (.same _ _ _)
 ·have h7e:=hcr h7;rw[h7e];exact kE (by unfold OV JW I2;simp only[*,cond_true,cond_false]<;>rfl) (.same _ _ _)
 ·refine⟨⟨rfl,rfl⟩,⟨hs,hn1⟩,?_⟩;refine Ae (fun _=>?_) (fun _=>?_)
  all_goals
   repeat' first
    | exact kE (by unfold OV JW I2;simp only[*,cond_true,cond_false]<;>rfl) (.same _ _ _)
    | exact iE (mX c0 c1 c2 c3 c4 c5 c6 lim bs nw cost AJ) (by unfold OV JW I2;simp only[*,cond_true,cond_false]<;>rfl) (.same _ _ _)
    | exact iE (CB (mX c0 c1 c2 c3 c4 c5 c6 lim bs nw cost AJ) (k==3) key val) (by unfold OV JW I2;simp only[*,cond_true,cond_false]<;>rfl) (.acc _ _ _ _ (by simp[CB]))
    | exact iE (Sy (mX c0 c1 c2 c3 c4 c5 c6 lim bs nw cost AJ)) (by unfold OV JW I2;simp only[*,cond_true,cond_false]<;>rfl) (.dL _ _ _ _ rfl)
    | exact iE (Sy (CB (mX c0 c1 c2 c3 c4 c5 c6 lim bs nw cost AJ) (k==3) key val)) (by unfold OV JW I2;simp only[*,cond_true,cond_false]<;>rfl) (.da _ _ _ _ rfl)
    | (exfalso;simp_all only[Bool.true_eq_false,Bool.false_eq_true];done)
    | refine Ae (fun _=>?_) (fun _=>?_)
    | apply And.intro (by first | exact rfl | exact⟨rfl,rfl⟩ | exact⟨hs,hn1⟩ | exact⟨hs,hn1,hu⟩ | exact hn1 | exact cO _ _ _ _ hn)
theorem EH:(18446744073709551616:Nat)=AF:=by unfold AF;rfl
def j9:CP:=
 ⟨fun m rest=>∃k a b key val e sv,rest=[E2 k a b key val,IK e sv]/\m.cfg.length=7/\m.state=0/\m.AG=false/\Fe k a b key val/\A5 m.now/\m.now.length < 900000/\m.AJ.length < 1000000/\((k==7)=true->(e==0&&(ByteArray.toList sv==ByteArray.toList { data:=#[] }&&true))=false),
  fun m rest=>match rest with
  | [.agg ⟨[.int .i64 k,.int .i64 a,.int .i64 b,.string key,.string val]⟩,.agg ⟨[.int .i64 e,.string sv]⟩]=> .int .i64 (bif (OV m k a b key val e sv).isSome then 0 else 7)
  | _=>Bn,
  fun m rest=>match rest with
  | [.agg ⟨[.int .i64 k,.int .i64 a,.int .i64 b,.string key,.string val]⟩,.agg ⟨[.int .i64 e,.string sv]⟩]=>(OV m k a b key val e sv).getD m
  | _=>m⟩
theorem GV {l:List Int} (h:l.length=7):∃c0 c1 c2 c3 c4 c5 c6,l=[c0,c1,c2,c3,c4,c5,c6]:=by
 match l,h with
 | [c0,c1,c2,c3,c4,c5,c6],_=>exact⟨c0,c1,c2,c3,c4,c5,c6,rfl⟩
theorem Xn {D:Nat->Prop} {v:Value} {H:AA} {m:AB} (hD:D 9) (h:cl m [H.get 9,H.get 10,H.get 11,H.get 12,H.get 18,H.get 19,H.get 20]):
 ∃v2 H2,(∀(base:Env) (W0:World) (μ:Ai) (W:World) (v':Value),(∀b,D b->∃T,μ b=some T)->AM μ v v'->AT base W0 μ H W->∃μ2,μ.le μ2/\AT base W0 μ2 H2 W/\AM μ2 v2 v')/\v2=v/\FT H2 m:=by
 generalize hos:[H.get 9,H.get 10,H.get 11,H.get 12,H.get 18,H.get 19,H.get 20]=os at h;cases h with
 | same a b c=>
  simp only[List.cons.injEq,and_true]at hos;obtain⟨g9,IB,g11,g12,_⟩:=hos;exact⟨v,H,fun base W0 μ W v' _ hv hH=>⟨μ,Ai.le_refl _,hH,hv⟩,rfl,10,11,12,by decide,by decide,by decide,by decide,by decide,by decide,IB,g11,by rw[g9,EH],g12⟩
 | acc a b c n hn=>
  subst hn;simp only[List.cons.injEq,and_true]at hos;obtain⟨g9,IB,g11,_,_,g19,_⟩:=hos;exact⟨v,H,fun base W0 μ W v' _ hv hH=>⟨μ,Ai.le_refl _,hH,hv⟩,rfl,10,11,19,by decide,by decide,by decide,by decide,by decide,by decide,IB,g11,by rw[g9,EH],g19⟩
 | da a b c d hu=>
  simp only[List.cons.injEq,and_true]at hos;obtain⟨g9,_,g11,_,_,_,g20⟩:=hos;exact Py hu (b:=20) (n:=11) (by decide) (by decide) (by decide) (by decide) (by decide) g9 g20 g11 hD
 | dL a b c d hu=>
  simp only[List.cons.injEq,and_true]at hos;obtain⟨g9,_,g11,_,g18,_,_⟩:=hos;exact Py hu (b:=18) (n:=11) (by decide) (by decide) (by decide) (by decide) (by decide) g9 g18 g11 hD
theorem ep:C3 Tryz.prog AL AX (Al AL 9 [true] j9.G):=by
 refine Qs iy (by kernel_rfl) (n:=66) ?_;rintro m rest ⟨k,a,b,key,val,e,sv,rfl,hc,hst,hpl,hck,hs,hn,hu,hcr⟩;refine⟨by simp,rfl,?_⟩;obtain⟨cfg,lim,bs,nw,cost,AJ,st0,pl⟩:=m;simp only at hc hst hpl hs hn hu;subst hst hpl;obtain⟨c0,c1,c2,c3,c4,c5,c6,rfl⟩:=GV hc;have hE:Ad XD 10 AX (fun v H=>je (mX c0 c1 c2 c3 c4 c5 c6 lim bs nw cost AJ) (OV (mX c0 c1 c2 c3 c4 c5 c6 lim bs nw cost AJ) k a b key val e sv) v ((Zw++Af 4 v).map H.get)) (st AX 66 [p9,E2 k a b key val,IK e sv] (BH ⟨.leaf,9⟩ (kF c0 c1 c2 c3 c4 c5 c6 lim bs nw cost AJ))):=
  BW.Fk (Bt Wz (ids:=Zw) 2000 _ (gm c0 c1 c2 c3 c4 c5 c6 lim bs nw cost AJ k a b key val e sv hck hs hn hu hcr))
 refine Aq.tell hE.IC ?_;rintro v H (⟨hr,rfl,h⟩ | ⟨m',hr,rfl,h⟩)
 ·obtain⟨v2,H2,k1,rfl,k2⟩:=Xn (D:=fun b=>9<=b/\b < 10) (v:= .int .i64 7) ⟨Nat.le_refl 9,Nat.lt_succ_self 9⟩ h;refine⟨_,H2,k1,?_,?_⟩
  ·show _=Value.int .i64 (bif (OV _ k a b key val e sv).isSome then 0 else 7);rw[hr];rfl
  ·show FT H2 ((OV _ k a b key val e sv).getD _);rw[hr];exact k2
 ·obtain⟨v2,H2,k1,rfl,k2⟩:=Xn (D:=fun b=>9<=b/\b < 10) (v:= .int .i64 0) ⟨Nat.le_refl 9,Nat.lt_succ_self 9⟩ h;refine⟨_,H2,k1,?_,?_⟩
  ·show _=Value.int .i64 (bif (OV _ k a b key val e sv).isSome then 0 else 7);rw[hr];rfl
  ·show FT H2 ((OV _ k a b key val e sv).getD _);rw[hr];exact k2
end Go.AI
namespace Go.AI
def cN (X:Ctx) (c:A8):Option (Bool × A8 × A8):=
 match c with
 | ⟨⟨fn,t,n,.JX ops (o::l)::k,ds,false,kd,rd⟩,cs,H⟩=>
  match o.op with
  | .binOp .eql ty x y _=>match Bs X t x,Bs X t y,X.P.underlying ty with
   | .slice (some ⟨_,_,some _⟩) m _,.slice none _ _,some (.slice _)=>match Cj ops o t,B2 ⟨fn,t,n,.JX ops (o::l)::k,ds,false,kd,rd⟩ (.bool true),B2 ⟨fn,t,n,.JX ops (o::l)::k,ds,false,kd,rd⟩ (.bool false)with
    | some true,some ft,some ff=>some (Nat.blt 0 m,⟨ft,cs,H⟩,⟨ff,cs,H⟩)
    | _,_,_=>none
   | _,_,_=>none
  | _=>none
 | _=>none
theorem aP {P:Program} {s:Sem Value} {v:Value} {W:World} (h:s.run P W= .ok v W):(do pure (Next.value (←s)):Sem Next).run P W= .ok (.value v) W:=by simp[h]
theorem NG {X:Ctx} {c ct cf:A8} {b:Bool} {Φ:A8->Prop} (h:cN X c=some (b,ct,cf)) (ht:b=false->Φ ct) (hf:Φ cf):Reach X c Φ:=by
 unfold cN at h;split at h
 rotate_left
 ·cases h
 rename_i fn t n ops o l k ds kd rd cs H;split at h
 rotate_left
 ·cases h
 rename_i ty x y yt ho;split at h
 rotate_left
 ·cases h
 rename_i bb off j m cap nl nc e hx hy hu;split at h
 rotate_left
 ·cases h
 rename_i ft ff hw hft hff;cases h
 intro base W0 hok hplan cs0 μ fr cs' W hm;obtain⟨hH,hlaid,g,gs,hfr,hcs,hnd⟩:=hm;cases hfr with
 | plain fn t n tm todo todo' ds ds' r kd rd rd' htm hi hd hrd=>
  cases hi with
  | @cons it it' k1 k1' h1 hk=>
   cases h1 with
   | JX ops l1 idx hidx=>
    cases idx with
    | nil=>simp at hidx
    | cons i idx=>
     simp only[List.map_cons,List.cons.injEq]at hidx;have hev:∀x,AM μ (Bs X t x) (Frame.eval ⟨fn,tm,.inRegion ops (i::idx)::k1',ds',.run,kd,rd'⟩ x):=fun x=>Ki hlaid htm x
     have hx':=hev x;have hy':=hev y;rw[hx]at hx';rw[hy]at hy';have key:∃bv:Bool,(Nat.blt 0 m=true->bv=false)/\(execOp (Frame.eval ⟨fn,tm,.inRegion ops (i::idx)::k1',ds',.run,kd,rd'⟩) o).run X.P W= .ok (.value (.bool bv)) W:=by
      have he:execOp (Frame.eval ⟨fn,tm,.inRegion ops (i::idx)::k1',ds',.run,kd,rd'⟩) o=(do pure (.value (←(do eqGuard .eql ty x y (Frame.eval ⟨fn,tm,.inRegion ops (i::idx)::k1',ds',.run,kd,rd'⟩ x) (Frame.eval ⟨fn,tm,.inRegion ops (i::idx)::k1',ds',.run,kd,rd'⟩ y);binOp .eql ty (Frame.eval ⟨fn,tm,.inRegion ops (i::idx)::k1',ds',.run,kd,rd'⟩ x) (Frame.eval ⟨fn,tm,.inRegion ops (i::idx)::k1',ds',.run,kd,rd'⟩ y))))):=by simp only[execOp,ho]
      have go:∀bv:Bool,GL X.P .eql ty (Frame.eval ⟨fn,tm,.inRegion ops (i::idx)::k1',ds',.run,kd,rd'⟩ x) (Frame.eval ⟨fn,tm,.inRegion ops (i::idx)::k1',ds',.run,kd,rd'⟩ y)=some (.bool bv)->
       (execOp (Frame.eval ⟨fn,tm,.inRegion ops (i::idx)::k1',ds',.run,kd,rd'⟩) o).run X.P W= .ok (.value (.bool bv)) W:=by
       intro bv hq;rw[he];exact aP (La (x:=x) (y:=y) hq W)
      generalize Frame.eval ⟨fn,tm,.inRegion ops (i::idx)::k1',ds',.run,kd,rd'⟩ x=vx at hx' go;generalize Frame.eval ⟨fn,tm,.inRegion ops (i::idx)::k1',ds',.run,kd,rd'⟩ y=vy at hy' go;cases hy'
      cases hx' with
      | Bw=>exact⟨false,fun _=>rfl,go false (by simp[GL,El,Bk,hu])⟩
      | Cf=>exact⟨false,fun _=>rfl,go false (by simp[GL,El,Bk,hu])⟩
      | C8 _ _ _ T a _ _=>
       cases a with
       | none=>exact⟨true,fun h=>absurd (Nat.le_of_ble_eq_true h) (by omega),go true (by simp[GL,El,Bk,hu])⟩
       | some p=>exact⟨false,fun _=>rfl,go false (by simp[GL,El,Bk,hu])⟩
      | Er _ _ _ T a _ _=>
       cases a with
       | none=>exact⟨true,fun h=>absurd (Nat.le_of_ble_eq_true h) (by omega),go true (by simp[GL,El,Bk,hu])⟩
       | some p=>exact⟨false,fun _=>rfl,go false (by simp[GL,El,Bk,hu])⟩
     obtain⟨bv,hb,hrun⟩:=key;have hst:=Y3 (cs:=cs'++cs0) hidx.1 (KB htm hw) (fun c e=>by rw[ho]at e;cases e) hrun (.inl rfl);have hfr:HR X μ H [] ⟨fn,t,n,.JX ops (o::l)::k,ds,false,kd,rd⟩ ⟨fn,tm,.inRegion ops (i::idx)::k1',ds',.run,kd,rd'⟩:=
      .plain fn t n tm _ _ ds ds' false kd rd rd' htm (.cons (.JX ops (o::l) (i::idx) (by simp[hidx.1,hidx.2])) hk) hd hrd
     cases bv with
     | true=>
      refine⟨_,ht ?_,μ,_,cs',W,.one hst,hH,hlaid,[],gs,C6 hfr (.bool true) hft,hcs,hnd⟩;cases hq:Nat.blt 0 m
      ·rfl
      ·have:=hb hq;cases this
     | false=>exact⟨_,hf,μ,_,cs',W,.one hst,hH,hlaid,[],gs,C6 hfr (.bool false) hff,hcs,hnd⟩
def av (X:Ctx) (pf:Pf) (f:FuncId) (ids:List Nat) (Q:Value->List (Option AK)->Prop) (n:Nat):A8->Prop:=
 Nat.rec (motive:=fun _=>A8->Prop) (fun _=>False) (fun _ ih c=>match DX X f c with
  | some (v,H)=>Q v ((ids++Af 4 v).map H.get)
  | none=>match cN X c with
   | some (b,ct,cf)=>bif b then ih cf else(ih ct/\ih cf)
   | none=>Ft X pf c ih) n
theorem XN {X:Ctx} {pf:Pf} (hpf:Eg X pf) {f:FuncId} {ids:List Nat} {Q:Value->List (Option AK)->Prop}:∀(n:Nat) (c:A8),av X pf f ids Q n c->BW X f (fun v H=>Q v ((ids++Af 4 v).map H.get)) c:=by
 intro n;induction n with
 | zero=>intro c h;cases h
 | succ n ih=>
  intro c h;have h:(match DX X f c with
   | some (v,H)=>Q v ((ids++Af 4 v).map H.get)
   | none=>match cN X c with
    | some (b,ct,cf)=>bif b then av X pf f ids Q n cf else(av X pf f ids Q n ct/\av X pf f ids Q n cf)
    | none=>Ft X pf c (av X pf f ids Q n)):=h
  split at h
  ·rename_i v H e;exact Reach.here ⟨v,H,e,h⟩
  ·split at h
   ·rename_i b ct cf hq;cases hb:b
    ·simp only[hb,cond_false]at h;exact Reach.bind (NG (Φ:=fun c'=>av X pf f ids Q n c') hq (fun _=>h.1) h.2) ih
    ·simp only[hb,cond_true]at h;exact Reach.bind (NG (Φ:=fun c'=>av X pf f ids Q n c') hq (fun e=>by rw[hb]at e;cases e) h) ih
   ·exact Reach.bind (Ge hpf h) ih
end Go.AI
namespace Go.AI
open Go.Proofs
abbrev vc_copy_0 (m:AB):AK:=(.cells [(.int .i64 (List.getD (AB.cfg m) 0 0)),(.int .i64 (List.getD (AB.cfg m) 1 0)),(.int .i64 (List.getD (AB.cfg m) 2 0)),(.int .i64 (List.getD (AB.cfg m) 3 0)),(.int .i64 (List.getD (AB.cfg m) 4 0)),(.int .i64 (List.getD (AB.cfg m) 5 0)),(.int .i64 (List.getD (AB.cfg m) 6 0)),(.int .i64 (AB.AN m)),(p_ 14),(p_ 15),(.int .i64 (AB.cost m)),(.slice (some ⟨17,0,(some 0)⟩) (0+List.length (AB.AJ m)) 18446744073709551616),(.pointer none),(.int .i64 (AB.state m)),(.bool (AB.AG m))] 0 false)
abbrev vc_copy_1 (m:AB):AK:=(.cells [(.int .i64 (List.getD (AB.cfg m) 0 0)),(.int .i64 (List.getD (AB.cfg m) 1 0)),(.int .i64 (List.getD (AB.cfg m) 2 0)),(.int .i64 (List.getD (AB.cfg m) 3 0)),(.int .i64 (List.getD (AB.cfg m) 4 0)),(.int .i64 (List.getD (AB.cfg m) 5 0)),(.int .i64 (List.getD (AB.cfg m) 6 0)),(.int .i64 (AB.AN m)),(p_ 10),(p_ 11),(.int .i64 (AB.cost m)),(.slice (some ⟨12,0,(some 0)⟩) (List.length (AB.AJ m)) 18446744073709551616),(.pointer none),(.int .i64 (AB.state m)),(.bool (AB.AG m))] 0 false)
abbrev vc_copy_2 (m:AB):AK:=(.cells [(.int .i64 (List.getD (AB.cfg m) 0 0)),(.int .i64 (List.getD (AB.cfg m) 1 0)),(.int .i64 (List.getD (AB.cfg m) 2 0)),(.int .i64 (List.getD (AB.cfg m) 3 0)),(.int .i64 (List.getD (AB.cfg m) 4 0)),(.int .i64 (List.getD (AB.cfg m) 5 0)),(.int .i64 (List.getD (AB.cfg m) 6 0)),(.int .i64 (AB.AN m)),(p_ 14),(p_ 15),(.int .i64 (AB.cost m)),(.slice (some ⟨16,0,none⟩) 0 0),(.pointer none),(.int .i64 (AB.state m)),(.bool (AB.AG m))] 0 false)
theorem ch (m:AB) (Q:Value->List (Option AK)->Prop):av XM VV Aj [9,10,11,12,14,15,17] Q 1000 (st Aj 28 [p9] (BH ⟨.leaf,9⟩ (MS m)))=(
 (List.length (AB.base m) < 1000000)/\(((.slice (some ⟨12,0,(some 0)⟩) (List.length (AB.AJ m)) 18446744073709551616):Value)=(.slice (some ⟨12,0,(some 0)⟩) (List.length (AB.AJ m)) 18446744073709551616))/\(((.pointer (some ⟨9,11,none⟩)):Value)=(.pointer (some ⟨9,11,none⟩)))/\(p_ 9=p_ 9)/\(p_ 9=p_ 9)/\(p_ 11=p_ 11)/\(((.pointer (some ⟨9,9,none⟩)):Value)=(.pointer (some ⟨9,9,none⟩)))/\(p_ 9=p_ 9)/\(p_ 9=p_ 9)/\(List.length (AB.now m) < 1000000)/\(((.slice (some ⟨12,0,(some 0)⟩) (List.length (AB.AJ m)) 18446744073709551616):Value)=(.slice (some ⟨12,0,(some 0)⟩) (List.length (AB.AJ m)) 18446744073709551616))/\(((.pointer (some ⟨9,11,none⟩)):Value)=(.pointer (some ⟨9,11,none⟩)))/\(p_ 9=p_ 9)/\(p_ 9=p_ 9)/\(bif Nat.blt 0 (List.length (AB.AJ m))then(bif Nat.ble (0+List.length (AB.AJ m)) (List.length (AB.AJ m))then(bif Nat.beq (List.length (AB.AJ m)) 0 then(Q (p_ 13) [some (vc_copy_1 m),some (.abs (Ab.pack (Pk.table (AB.base m))) false),some (.abs (Ab.pack (Pk.table (AB.now m))) false),some (.vec BL (AB.AJ m) false),some (.abs (Ab.pack (Pk.table (AB.base m))) false),some (.abs (Ab.pack (Pk.table (AB.now m))) false),none,some (vc_copy_2 m)])else(bif BK 40 (0+List.length (AB.AJ m))then(Q (p_ 13) [some (vc_copy_1 m),some (.abs (Ab.pack (Pk.table (AB.base m))) false),some (.abs (Ab.pack (Pk.table (AB.now m))) false),some (.vec BL (AB.AJ m) false),some (.abs (Ab.pack (Pk.table (AB.base m))) false),some (.abs (Ab.pack (Pk.table (AB.now m))) false),some (.vec BL ([]++List.take (List.length (AB.AJ m)) (List.drop 0 (AB.AJ m))) false),some (vc_copy_0 m)])else False))else False)else( (Q (p_ 13) [some (vc_copy_1 m),some (.abs (Ab.pack (Pk.table (AB.base m))) false),some (.abs (Ab.pack (Pk.table (AB.now m))) false),some (.vec BL (AB.AJ m) false),some (.abs (Ab.pack (Pk.table (AB.base m))) false),some (.abs (Ab.pack (Pk.table (AB.now m))) false),none,some (.cells [(.int .i64 (List.getD (AB.cfg m) 0 0)),(.int .i64 (List.getD (AB.cfg m) 1 0)),(.int .i64 (List.getD (AB.cfg m) 2 0)),(.int .i64 (List.getD (AB.cfg m) 3 0)),(.int .i64 (List.getD (AB.cfg m) 4 0)),(.int .i64 (List.getD (AB.cfg m) 5 0)),(.int .i64 (List.getD (AB.cfg m) 6 0)),(.int .i64 (AB.AN m)),(p_ 14),(p_ 15),(.int .i64 (AB.cost m)),(.slice none 0 0),(.pointer none),(.int .i64 (AB.state m)),(.bool (AB.AG m))] 0 false)]))/\(bif Nat.ble (0+List.length (AB.AJ m)) (List.length (AB.AJ m))then(bif Nat.beq (List.length (AB.AJ m)) 0 then(Q (p_ 13) [some (vc_copy_1 m),some (.abs (Ab.pack (Pk.table (AB.base m))) false),some (.abs (Ab.pack (Pk.table (AB.now m))) false),some (.vec BL (AB.AJ m) false),some (.abs (Ab.pack (Pk.table (AB.base m))) false),some (.abs (Ab.pack (Pk.table (AB.now m))) false),none,some (vc_copy_2 m)])else(bif BK 40 (0+List.length (AB.AJ m))then(Q (p_ 13) [some (vc_copy_1 m),some (.abs (Ab.pack (Pk.table (AB.base m))) false),some (.abs (Ab.pack (Pk.table (AB.now m))) false),some (.vec BL (AB.AJ m) false),some (.abs (Ab.pack (Pk.table (AB.base m))) false),some (.abs (Ab.pack (Pk.table (AB.now m))) false),some (.vec BL ([]++List.take (List.length (AB.AJ m)) (List.drop 0 (AB.AJ m))) false),some (vc_copy_0 m)])else False))else False))):=by kernel_rfl
theorem CE.trans {D:Nat->Prop} {v:Value} {H H2 H3:AA} (h:CE D v H H2) (h2:CE D v H2 H3):CE D v H H3:=by
 induction h with
 | refl H=>exact h2
 | step s objs bs rs hr hne hlen hnd hrs hreach hobj hroot k ih=>exact .step s objs bs rs hr hne hlen hnd hrs hreach hobj hroot (ih h2)
structure Oq (r b n x:Nat) (H:AA) (m:AB):Prop where
 nd:(r::[b,n,x]).Nodup
 gr:H.get r=some (.cells (BN m b n (.slice (some ⟨x,0,some 0⟩) m.AJ.length AF)) 0 false)
 gb:H.get b=some (Bi m.base)
 gn:H.get n=some (Bi m.now)
 gx:H.get x=some (.vec BL m.AJ false)
theorem QL {D:Nat->Prop} {v:Value} {H:AA} {m:AB} {r b n x:Nat} (hD:r∈Af 4 v∨D r) (h:Oq r b n x H m):
 ∃H2,CE D v H H2/\H2.get r=some (.abs (.pack (.model m)) false)/\∀y,y∉r::[b,n,x]->H2.get y=H.get y:=by
 have hk:=B6 (s:= .model m) (H:=H) h.nd;refine⟨DE (.model m) (r::[b,n,x]) H,RE (s:= .model m) (ns:=[b,n,x]) (.model m) hD rfl h.nd h.gr rfl rfl rfl ?_ ?_ (Nat.le_of_ble_eq_true rfl) ?_ (.refl _),hk.root r rfl,fun y hy=>hk.C2 y hy⟩
 ·intro y hy;exact hy
 ·intro y hy;exact hy
 ·intro i y p hy hp;cases i with
  | zero=>cases hy;cases hp;exact⟨_,h.gb,rfl,rfl,rfl,rfl⟩
  | succ i=>cases i with
   | zero=>cases hy;cases hp;exact⟨_,h.gn,rfl,rfl,rfl,rfl⟩
   | succ i=>cases i with
    | zero=>cases hy;cases hp;exact⟨_,h.gx,rfl,rfl,rfl,rfl⟩
    | succ i=>cases i<;>cases hy
theorem Pq {X:Ctx} {D:Nat->Prop} {f:FuncId} {Q:Value->AA->Prop} {n:Nat} {m:AB} {rest:List Value} (hD:D 9) (hN:Aq X 10 D f Q (st f n (p9::rest) (BH ⟨.leaf,9⟩ (MS m)))):Aq X 10 D f Q (st f n (p9::rest) (MC m)):=by
 refine Aq.opened (b:=9) (s:= .model m) (ro:=false) hD (by rfl) (fun ops p k h=>by cases h) fun objs hr=>?_
 cases hr with
 | model=>
  have hN:Aq X 10 D f Q (st f n (p9::rest) (EC ((MC m).put 9 (SC m (.slice (some ⟨12,0,some 0⟩) m.AJ.length AF))) [.abs (.pack (.table m.base)) false,.abs (.pack (.table m.now)) false,.vec BL m.AJ false])):=by
   rw[O7];exact hN
  refine⟨_,LR (H:=MC m) (b:=9) (ro:=false) (o1:=SC m (.slice (some ⟨12,0,some 0⟩) m.AJ.length AF)) (ps1:=[.abs (.pack (.table m.base)) false,.abs (.pack (.table m.now)) false,.vec BL m.AJ false]) (show 9 < 10 by decide) (Ql m) rfl rfl (fun i p hp=>?_),hN⟩;cases i with
  | zero=>cases hp;exact⟨_,rfl,rfl⟩
  | succ i=>cases i with
   | zero=>cases hp;exact⟨_,rfl,rfl⟩
   | succ i=>cases i with
    | zero=>cases hp;exact⟨_,rfl,rfl⟩
    | succ i=>cases i<;>cases hp
inductive jG (m:AB):Value->List (Option AK)->Prop where
 | row:jG m (.pointer (some ⟨13,0,none⟩)) [some (.cells (BN m 10 11 (.slice (some ⟨12,0,some 0⟩) m.AJ.length 18446744073709551616)) 0 false),some (Bi m.base),some (Bi m.now),some (.vec BL m.AJ false),some (Bi m.base),some (Bi m.now),some (.vec BL m.AJ false),
  some (.cells (BN m 14 15 (.slice (some ⟨17,0,some 0⟩) m.AJ.length 18446744073709551616)) 0 false)]
 | zero (x:Value) (o:Option AK) (hx:∀ν:Ai,Iv ν x) (hu:m.AJ=[]):jG m (.pointer (some ⟨13,0,none⟩)) [some (.cells (BN m 10 11 (.slice (some ⟨12,0,some 0⟩) m.AJ.length 18446744073709551616)) 0 false),some (Bi m.base),some (Bi m.now),some (.vec BL m.AJ false),some (Bi m.base),some (Bi m.now),o,
  some (.cells (BN m 14 15 x) 0 false)]
def Ia (args:List Value) (objs:List AK):GT:=
 match args,objs with
 | [.pointer (some ⟨9,0,none⟩)],[.abs (.pack (.model m)) _]=> .ask (m.base.length < 1000000/\m.now.length < 1000000/\m.AJ.length < 1000000) (.ret ⟨.pointer (some ⟨10,0,none⟩),[some (.abs (.pack (.model m)) false)],[.abs (.pack (.model m)) false]⟩)
 | _,_=> .fail
theorem O4:C3 Tryz.prog AL Aj (Al AL 9 [true] Ia):=by
 refine BY allM (by kernel_rfl) (n:=28) (by kernel_rfl) (by kernel_rfl) fun argsc objs x hx hro=>?_
 unfold Ia at hx;split at hx
 ·rename_i m ro;simp only[GT.run]at hx;split at hx
  ·rename_i hok;obtain⟨h1,h2,h3⟩:=hok;cases hx
   have hr0:ro=false:=hro 0 _ rfl rfl;subst hr0;refine⟨by simp,?_⟩;show Aq XM 10 (fun b=>9<=b/\b < 10) Aj _ (st Aj 28 [p9] (MC m));refine Aq.shut (Pq (rest:=[]) (Q:=fun v H=>v= .pointer (some ⟨13,0,none⟩)/\Oq 9 10 11 12 H m/\∃z,Oq 13 14 15 z H m/\16 < z) ⟨Nat.le_refl 9,Nat.lt_succ_self 9⟩ ?_) ?_
   ·have hE:Ad XM 10 Aj (fun v H=>jG m v (([9,10,11,12,14,15,17]++Af 4 v).map H.get)) (st Aj 28 [p9] (BH ⟨.leaf,9⟩ (MS m))):=by
     refine BW.Fk (XN G0 (ids:=[9,10,11,12,14,15,17]) (Q:=jG m) 1000 _ ?_);rw[ch];have hb:BK 40 (0+m.AJ.length)=true:=by
      unfold BK;rw[Nat.ble_eq_true_of_le (by omega),Nat.ble_eq_true_of_le (by omega)];rfl
     have hle:Nat.ble (0+m.AJ.length) m.AJ.length=true:=Nat.ble_eq_true_of_le (by omega);have h0:Nat.blt 0 m.AJ.length=false->m.AJ=[]:=fun h=>by
      cases hq:m.AJ with
      | nil=>rfl
      | cons a l=>rw[hq]at h;cases h
     have h00:Nat.beq m.AJ.length 0=true->m.AJ=[]:=fun h=>List.eq_nil_of_length_eq_zero (Nat.eq_of_beq_eq_true h)
     have hrow:jG m (.pointer (some ⟨13,0,none⟩)) [some (.cells (BN m 10 11 (.slice (some ⟨12,0,some 0⟩) m.AJ.length 18446744073709551616)) 0 false),some (Bi m.base),some (Bi m.now),some (.vec BL m.AJ false),some (Bi m.base),some (Bi m.now),some (.vec BL ([]++List.take (List.length (AB.AJ m)) (List.drop 0 (AB.AJ m))) false),
      some (.cells (BN m 14 15 (.slice (some ⟨17,0,some 0⟩) (0+m.AJ.length) 18446744073709551616)) 0 false)]:=by
      rw[List.drop_zero,List.take_length,Nat.zero_add];exact .row
     repeat' first
      | exact hrow
      | exact .zero _ _ (fun _=>Lq) (h00 (by assumption))
      | exact .zero _ _ (fun _=>EV) (h0 (by assumption))
      | refine And.intro (by first | exact rfl | exact h1 | exact h2) ?_
      | refine AH hle ?_
      | refine AH hb ?_
      | refine Ae (fun _=>?_) (fun _=>?_)
      | refine And.intro ?_ ?_
    refine hE.IC.tell ?_;intro v H h;generalize hos:([9,10,11,12,14,15,17]++Af 4 v).map H.get=os at h;cases h with
    | row=>
     have h:[H.get 9,H.get 10,H.get 11,H.get 12,H.get 14,H.get 15,H.get 17,H.get 13]=_:=hos;simp only[List.cons.injEq,and_true]at h;obtain⟨g9,IB,g11,g12,g14,g15,g17,g13⟩:=h;exact⟨_,H,fun base W0 μ W v' _ hv hH=>⟨μ,Ai.le_refl _,hH,hv⟩,rfl,⟨by decide,by rw[g9,EH],IB,g11,g12⟩,17,⟨by decide,by rw[g13,EH],g14,g15,g17⟩,by decide⟩
    | zero x o hx hu=>
     have h:[H.get 9,H.get 10,H.get 11,H.get 12,H.get 14,H.get 15,H.get 17,H.get 13]=_:=hos;simp only[List.cons.injEq,and_true]at h;obtain⟨g9,IB,g11,g12,g14,g15,_,g13⟩:=h;obtain⟨v2,H2,j1,rfl,⟨z,z1,z2,z3,z4⟩,j3⟩:=NV (D:=fun b=>9<=b/\b < 10) (v:= .pointer (some ⟨13,0,none⟩)) hx hu (r:=13) (b:=14) (n:=15) (by decide) (by decide) (by decide) (by decide) (by decide) (by decide) g13 g14 g15 ⟨9,Nat.le_refl 9,Nat.lt_succ_self 9⟩;refine⟨_,H2,j1,rfl,⟨by decide,?_,?_,?_,?_⟩,z,⟨z2,z3,?_,?_,z4⟩,by omega⟩
     ·rw[j3 9 (by decide) (by decide),g9,EH]
     ·rw[j3 10 (by decide) (by decide)];exact IB
     ·rw[j3 11 (by decide) (by decide)];exact g11
     ·rw[j3 12 (by decide) (by decide)];exact g12
     ·rw[j3 14 (by decide) (by decide)];exact g14
     ·rw[j3 15 (by decide) (by decide)];exact g15
   ·rintro v H ⟨rfl,ha,z,hb,hz⟩;obtain⟨H2,k1,k2,k3⟩:=QL (D:=fun b=>9<=b/\b < 9+1) (v:= .pointer (some ⟨13,0,none⟩)) (.inr ⟨Nat.le_refl 9,Nat.lt_succ_self 9⟩) ha;have hb2:Oq 13 14 15 z H2 m:=⟨hb.nd,by rw[k3 13 (by decide)];exact hb.gr,by rw[k3 14 (by decide)];exact hb.gb,by rw[k3 15 (by decide)];exact hb.gn,by rw[k3 z (by simp only[List.mem_cons,List.not_mem_nil,not_or,not_false_eq_true,and_true];omega)];exact hb.gx⟩;obtain⟨H3,j1,j2,j3⟩:=QL (D:=fun b=>9<=b/\b < 9+1) (v:= .pointer (some ⟨13,0,none⟩)) (.inl (by decide)) hb2;refine⟨H3,k1.trans j1,[13],by simp,fun c hc=>by simp at hc;subst hc;exact Nat.le_of_ble_eq_true rfl,rfl,rfl,fun j c p hj hp=>?_,fun j o hj hm ho=>?_⟩
    ·cases j with
     | zero=>cases hj;cases hp;exact⟨_,rfl,j2⟩
     | succ j=>cases j<;>cases hj
    ·cases j with
     | zero=>cases ho;exact⟨_,rfl,by rw[j3 9 (by simp only[List.mem_cons,List.not_mem_nil,not_or,not_false_eq_true,and_true];omega)];exact k2⟩
     | succ j=>exact absurd hj (by show ¬(j+1 < 1);omega)
  ·cases hx
 ·cases hx
abbrev kS:EK:=[.str]
def QW (n:Nat):Value:= .slice (some ⟨9,0,some 0⟩) n AF
def hR (l:List (EK.C AR)):AA:=BH ⟨.leaf,9⟩ [.vec AR l true]
def PG (l:List (EK.C AR)) (s i:Int):A8:=
 ⟨⟨Au,Gr [(0,QW l.length),(3,.int .i64 s),(4,.int .i64 i)],25,[.code (BI Tryz.prog Au [1,1,0,1,0,0]),.inLoop (BI Tryz.prog Au [1,1,0,1,0,0]),.inBlock 0,.code (BI Tryz.prog Au [1,1,1])],[],false,.normal,none⟩,[],hR l⟩
def Qw:Stop:=⟨Au,0,3,10,[9],[0,3,4]⟩
theorem W6 (l:List (EK.C AR)) (Q:Value->List (Option AK)->Prop) (R:A8->Prop):L1 X0 C4 Au [] Qw Q R 100 (st Au 25 [QW l.length] (hR l))=(
 (R (PG l 0 0))):=by kernel_rfl
theorem T8 (l:List (EK.C AR)) (s i:Int) (Q:Value->List (Option AK)->Prop) (R:A8->Prop):L1 X0 C4 Au [] Qw Q R 200 (PG l s i)=(
 (bif decide (i < Int.ofNat (List.length l))then(bif decide (0<=i)&&Nat.blt (Int.toNat i) (List.length l)then(bif Nat.blt (0+Int.toNat i) (List.length l)then(bif decide (0<=i)&&Nat.blt (Int.toNat i) (List.length l)then(bif Nat.blt (0+Int.toNat i) (List.length l)then(((.int .i64 s):Value)=(.int .i64 s))/\(R (PG l (IntKind.wrap .i64 (s+IntKind.wrap .i64 (IntKind.wrap .i64 (16+Int.ofNat (ByteArray.size (Prod.fst (List.getD l (0+Int.toNat i) (EK.AZ AR)))))+Int.ofNat (ByteArray.size (Prod.snd (List.getD l (0+Int.toNat i) (EK.AZ AR))))))) (IntKind.wrap .i64 (i+1))))else False)else False)else False)else False)else(Q (.int .i64 s) []))):=by kernel_rfl
def LU (l:List (EK.C AR)) (key:ByteArray) (i:Int):A8:=
 ⟨⟨BB,Gr [(0,QW l.length),(1,.string key),(6,.int .i64 i)],25,[.code (BI Tryz.prog BB [1,0,1,0,0]),.inLoop (BI Tryz.prog BB [1,0,1,0,0]),.inBlock 0,.code (BI Tryz.prog BB [1,1])],[],false,.normal,none⟩,[],hR l⟩
def NK:Stop:=⟨BB,0,3,10,[9],[0,1,6]⟩
theorem U8 (l:List (EK.C AR)) (key:ByteArray) (Q:Value->List (Option AK)->Prop) (R:A8->Prop):L1 X0 C4 BB [] NK Q R 100 (st BB 25 [QW l.length,.string key] (hR l))=(
 (R (LU l key 0))):=by kernel_rfl
theorem SO (l:List (EK.C AR)) (key:ByteArray) (i:Int) (Q:Value->List (Option AK)->Prop) (R:A8->Prop):L1 X0 C4 BB [] NK Q R 200 (LU l key i)=(
 (bif decide (i < Int.ofNat (List.length l))then(bif decide (0<=i)&&Nat.blt (Int.toNat i) (List.length l)then(bif Nat.blt (0+Int.toNat i) (List.length l)then(bif ByteArray.toList (Prod.fst (List.getD l (0+Int.toNat i) (EK.AZ AR)))==ByteArray.toList key then(bif decide (0<=i)&&Nat.blt (Int.toNat i) (List.length l)then(bif Nat.blt (0+Int.toNat i) (List.length l)then(Q (.tuple ⟨[(.string (Prod.snd (List.getD l (0+Int.toNat i) (EK.AZ AR)))),(.bool true)]⟩) [])else False)else False)else(R (LU l key (IntKind.wrap .i64 (i+1)))))else False)else False)else(Q (.tuple ⟨[(.string ({ data:=#[] })),(.bool false)]⟩) []))):=by kernel_rfl
def kI (l m:List (EK.C kS)):AA:=BH ⟨.leaf,9⟩ [.vec kS l true,.vec kS m true]
def PD (l m:List (EK.C kS)) (i:Int):A8:=
 ⟨⟨Ax,Gr [(0,QW l.length),(1,.slice (some ⟨10,0,some 0⟩) m.length AF),(5,.int .i64 i)],26,[.code (BI Tryz.prog Ax [1,1,0,1,0,0]),.inLoop (BI Tryz.prog Ax [1,1,0,1,0,0]),.inBlock 0,.code (BI Tryz.prog Ax [1,1,1])],[],false,.normal,none⟩,[],kI l m⟩
def SB:Stop:=⟨Ax,0,3,11,[9,10],[0,1,5]⟩
theorem Wx (l m:List (EK.C kS)) (Q:Value->List (Option AK)->Prop) (R:A8->Prop):L1 X0 C4 Ax [] SB Q R 100 (st Ax 26 [QW l.length,.slice (some ⟨10,0,some 0⟩) m.length AF] (kI l m))=(
 (bif Int.ofNat (List.length l) != Int.ofNat (List.length m)then(Q (.bool false) [])else(R (PD l m 0)))):=by kernel_rfl
theorem Ua (l m:List (EK.C kS)) (i:Int) (Q:Value->List (Option AK)->Prop) (R:A8->Prop):L1 X0 C4 Ax [] SB Q R 200 (PD l m i)=(
 (bif decide (i < Int.ofNat (List.length l))then(bif decide (0<=i)&&Nat.blt (Int.toNat i) (List.length l)then(bif Nat.blt (0+Int.toNat i) (List.length l)then(bif decide (0<=i)&&Nat.blt (Int.toNat i) (List.length m)then(bif Nat.blt (0+Int.toNat i) (List.length m)then(bif !ByteArray.toList (List.getD l (0+Int.toNat i) (EK.AZ kS))==ByteArray.toList (List.getD m (0+Int.toNat i) (EK.AZ kS))then(Q (.bool false) [])else(R (PD l m (IntKind.wrap .i64 (i+1)))))else False)else False)else False)else False)else(Q (.bool true) []))):=by kernel_rfl
def Xp (l:List (EK.C AR)) (x y:Value) (i:Int) (H:AA->AA):A8:=
 ⟨⟨Ay,Gr [(0,QW l.length),(4,x),(5,y),(6,.int .i64 i)],31,[.code (BI Tryz.prog Ay [1,1,0,1,0,0]),.inLoop (BI Tryz.prog Ay [1,1,0,1,0,0]),.inBlock 0,.code (BI Tryz.prog Ay [1,1,1])],[],false,.normal,none⟩,[],H (hR l)⟩
def Wo (l:List (EK.C AR)):A8:=Xp l (.slice none 0 0) (.slice none 0 0) 0 id
def PZ (l:List (EK.C AR)) (ks vs:List (EK.C kS)) (x y:Value) (i:Int):A8:=Xp l x y i fun H=>(H.alloc (.vec kS ks false)).alloc (.vec kS vs false)
def Nu:Stop:=⟨Ay,0,3,10,[9],[0,4,5,6]⟩
def CT (b n:Nat):Value:= .slice (some ⟨b,0,some 0⟩) n AF
theorem VZ (l:List (EK.C AR)) (Q:Value->List (Option AK)->Prop) (R:A8->Prop):L1 X0 C4 Ay [] Nu Q R 100 (st Ay 31 [QW l.length] (hR l))=(
 (R (Wo l))):=by kernel_rfl
theorem Ro (l:List (EK.C AR)) (ks vs:List (EK.C kS)) (n m:Nat) (i:Int) (Q:Value->List (Option AK)->Prop) (R:A8->Prop):L1 X0 C4 Ay [] Nu Q R 200 (PZ l ks vs (CT 10 n) (CT 11 m) i)=(
 (bif decide (i < Int.ofNat (List.length l))then(bif decide (0<=i)&&Nat.blt (Int.toNat i) (List.length l)then(bif Nat.blt (0+Int.toNat i) (List.length l)then(bif true&&Nat.ble (0+n) (List.length ks)&&BK 16 (n+1)then(bif decide (0<=i)&&Nat.blt (Int.toNat i) (List.length l)then(bif Nat.blt (0+Int.toNat i) (List.length l)then(bif true&&Nat.ble (0+m) (List.length vs)&&BK 16 (m+1)then(R (PZ l (List.take n (List.drop 0 ks)++[Prod.fst (List.getD l (0+Int.toNat i) (EK.AZ AR))]) (List.take m (List.drop 0 vs)++[Prod.snd (List.getD l (0+Int.toNat i) (EK.AZ AR))]) (.slice (some ⟨10,0,(some 0)⟩) (n+1) 18446744073709551616) (.slice (some ⟨11,0,(some 0)⟩) (m+1) 18446744073709551616) (IntKind.wrap .i64 (i+1))))else False)else False)else False)else False)else False)else False)else(Q (.tuple ⟨[(.slice (some ⟨10,0,(some 0)⟩) n 18446744073709551616),(.slice (some ⟨11,0,(some 0)⟩) m 18446744073709551616)]⟩) [some (.vec kS ks false),some (.vec kS vs false)]))):=by kernel_rfl
def eJ (k a b:Int) (key val:ByteArray):AK:= .cells [.int .i64 k,.int .i64 a,.int .i64 b,.string key,.string val] 0 false
def dX (bl:Nat):List Nat:=match bl with
 | 0=>[1,1,0,1,0,0]
 | _=>[1,1,1,1,0,1,0,0]
def hC (bl:Nat):List Nat:=match bl with
 | 0=>[1,1,1]
 | _=>[1,1,1,1,1]
def dS (bl:Nat) (l:List (EK.C AR)) (x i j:Value) (H:AA):A8:=
 ⟨⟨An,Gr [(0,QW l.length),(3,.pointer (some ⟨10,0,none⟩)),(5,x),(6,i),(7,j)],62,[.code (BI Tryz.prog An (dX bl)),.inLoop (BI Tryz.prog An (dX bl)),.inBlock bl,.code (BI Tryz.prog An (hC bl))],[],false,.normal,none⟩,[],H⟩
def de (bl:Nat) (l:List (EK.C AR)) (k a b:Int) (key val:ByteArray) (x i j:Value):A8:=dS bl l x i j ((hR l).alloc (eJ k a b key val))
def HX (bl:Nat) (l:List (EK.C AR)) (k a b:Int) (key val:ByteArray) (out:List (EK.C AR)) (x i j:Value):A8:=dS bl l x i j (((hR l).alloc (eJ k a b key val)).alloc (.vec AR out false))
def Lo:Stop:=⟨An,0,3,10,[9],[0,3,5,6,7]⟩
theorem Xz (l:List (EK.C AR)) (k a b:Int) (key val:ByteArray) (Q:Value->List (Option AK)->Prop) (R:A8->Prop):L1 X0 C4 An [] Lo Q R 100 (st An 62 [QW l.length,E2 k a b key val] (hR l))=(
 (R (de 0 l k a b key val (.slice none 0 0) (.int .i64 0) Bn))):=by kernel_rfl
theorem R9 (l:List (EK.C AR)) (k a b:Int) (key val:ByteArray) (out:List (EK.C AR)) (n:Nat) (i:Int) (Q:Value->List (Option AK)->Prop) (R:A8->Prop):L1 X0 C4 An [] Lo Q R 200 (HX 0 l k a b key val out (CT 11 n) (.int .i64 i) Bn)=(
 (bif decide (i < Int.ofNat (List.length l))then(bif decide (0<=i)&&Nat.blt (Int.toNat i) (List.length l)then(bif Nat.blt (0+Int.toNat i) (List.length l)then(bif Op.bytesLess (ByteArray.toList (Prod.fst (List.getD l (0+Int.toNat i) (EK.AZ AR)))) (ByteArray.toList key)then(bif decide (0<=i)&&Nat.blt (Int.toNat i) (List.length l)then(bif Nat.blt (0+Int.toNat i) (List.length l)then(bif true&&Nat.ble (0+n) (List.length out)&&BK 32 (n+1)then(R (HX 0 l k a b key val (List.take n (List.drop 0 out)++[(Prod.fst (List.getD l (0+Int.toNat i) (EK.AZ AR)),Prod.snd (List.getD l (0+Int.toNat i) (EK.AZ AR)))]) (.slice (some ⟨11,0,(some 0)⟩) (n+1) 18446744073709551616) (.int .i64 (IntKind.wrap .i64 (i+1))) Bn))else False)else False)else False)else(R (HX 0 l k a b key val out (.slice (some ⟨11,0,(some 0)⟩) n 18446744073709551616) (.int .i64 (IntKind.wrap .i64 (i+1))) Bn)))else False)else False)else(bif k==1 then(bif true&&Nat.ble (0+n) (List.length out)&&BK 32 (n+1)then(R (HX 2 l k a b key val (List.take n (List.drop 0 out)++[(key,val)]) (.slice (some ⟨11,0,(some 0)⟩) (n+1) 18446744073709551616) (.int .i64 i) (.int .i64 0)))else False)else(R (HX 2 l k a b key val out (.slice (some ⟨11,0,(some 0)⟩) n 18446744073709551616) (.int .i64 i) (.int .i64 0)))))):=by kernel_rfl
theorem Qn (l:List (EK.C AR)) (k a b:Int) (key val:ByteArray) (out:List (EK.C AR)) (n:Nat) (i i6:Int) (Q:Value->List (Option AK)->Prop) (R:A8->Prop):L1 X0 C4 An [] Lo Q R 200 (HX 2 l k a b key val out (CT 11 n) (.int .i64 i6) (.int .i64 i))=(
 (bif decide (i < Int.ofNat (List.length l))then(bif decide (0<=i)&&Nat.blt (Int.toNat i) (List.length l)then(bif Nat.blt (0+Int.toNat i) (List.length l)then(bif !(Op.bytesLess (ByteArray.toList (Prod.fst (List.getD l (0+Int.toNat i) (EK.AZ AR)))) (ByteArray.toList key)||ByteArray.toList (Prod.fst (List.getD l (0+Int.toNat i) (EK.AZ AR)))==ByteArray.toList key)then(bif decide (0<=i)&&Nat.blt (Int.toNat i) (List.length l)then(bif Nat.blt (0+Int.toNat i) (List.length l)then(bif true&&Nat.ble (0+n) (List.length out)&&BK 32 (n+1)then(R (HX 2 l k a b key val (List.take n (List.drop 0 out)++[(Prod.fst (List.getD l (0+Int.toNat i) (EK.AZ AR)),Prod.snd (List.getD l (0+Int.toNat i) (EK.AZ AR)))]) (.slice (some ⟨11,0,(some 0)⟩) (n+1) 18446744073709551616) (.int .i64 i6) (.int .i64 (IntKind.wrap .i64 (i+1)))))else False)else False)else False)else(R (HX 2 l k a b key val out (.slice (some ⟨11,0,(some 0)⟩) n 18446744073709551616) (.int .i64 i6) (.int .i64 (IntKind.wrap .i64 (i+1))))))else False)else False)else(Q (.slice (some ⟨11,0,(some 0)⟩) n 18446744073709551616) [some (.vec AR out false)]))):=by kernel_rfl
def Cm (x:EK.C AR):Int:=16+x.1.size+x.2.size
def BG (l:List (EK.C AR)):Int:=(l.map Cm).sum
def Dz (l:List (EK.C AR)):Prop:=l.length < 1000000/\∀x∈l,x.1.size < 1000000/\x.2.size < 1000000
theorem Gq {x:Int} (h1:0<=x) (h2:x < 9223372036854775808):IntKind.wrap .i64 x=x:=wrap64 (by omega) (by omega)
theorem J8:∀(l:List (EK.C AR)),(∀x∈l,x.1.size < 1000000/\x.2.size < 1000000)->0<=BG l/\BG l<=2000016 * l.length
 | [],_=>by simp[BG]
 | x::l,h=>by
  have h1:=J8 l (fun y hy=>h y (by simp[hy]));have h2:=h x (by simp);have e:BG (x::l)=Cm x+BG l:=by simp[BG]
  rw[e];simp only[List.length_cons,Cm];omega
theorem Bv {i:Nat} (h:i < 4611686018427387904):IntKind.wrap .i64 ((i:Int)+1)=((i+1:Nat):Int):=by
 rw[wrap64 (by omega) (by omega)];rfl
theorem Vu (l:List (EK.C AR)) (hs:Dz l):∀(m i:Nat),l.length - i=m->i<=l.length->Ad X0 10 Au (fun v _=>v= .int .i64 (BG l)) (PG l (BG (l.take i)) i):=by
 intro m;induction m with
 | zero=>
  intro i hm hi;refine CJ (A6 X0) (ids:=[]) (S:=Qw) rfl (Q:=fun v _=>v= .int .i64 (BG l)) (R:=fun _=>False) (fun v H h=>h) (fun c h=>h.elim) 200 _ ?_;rw[T8];refine AU (fun h=>?_) (fun _=>?_)
  ·exfalso;have:(i:Int) < l.length:=h;omega
  ·show Value.int .i64 _=_;rw[show l.take i=l from List.take_of_length_le (by omega)]
 | succ m ih=>
  intro i hm hi;have hlt:i < l.length:=by omega
  refine CJ (A6 X0) (ids:=[]) (S:=Qw) rfl (Q:=fun v _=>v= .int .i64 (BG l)) (R:=fun c=>c=PG l (BG (l.take (i+1))) (i+1:Nat)) (fun v H h=>h) (fun c h=>by rw[h];exact ih (i+1) (by omega) (by omega)) 200 _ ?_;rw[T8];refine AU (fun h=>?_) (fun h=>absurd (show(i:Int) < Int.ofNat l.length by simpa using hlt) h);refine AH (ca hlt) (AH (cb hlt) (AH (ca hlt) (AH (cb hlt) ⟨rfl,?_⟩)));have hx:l.take (i+1)=l.take i++[l[i]]:=by rw[List.take_succ_eq_append_getElem hlt]
  have hc:BG (l.take (i+1))=BG (l.take i)+Cm l[i]:=by rw[hx];unfold BG;rw[List.map_append,List.sum_append];simp
  have hb1:=J8 (l.take i) (fun y hy=>hs.2 y (List.mem_of_mem_take hy));have hb2:=hs.2 l[i] (List.getElem_mem hlt);have hlen:(l.take i).length<=1000000:=by rw[List.length_take];have:=hs.1;omega
  rw[Ci hlt,hc];have hsz1:(Int.ofNat (l[i]).1.size)=((l[i]).1.size:Int):=rfl;have hsz2:(Int.ofNat (l[i]).2.size)=((l[i]).2.size:Int):=rfl;rw[hsz1,hsz2,Gq (x:=16+((l[i]).1.size:Int)) (by omega) (by omega),Gq (x:=16+((l[i]).1.size:Int)+((l[i]).2.size:Int)) (by omega) (by omega)];have hp:Cm l[i]=16+((l[i]).1.size:Int)+((l[i]).2.size:Int):=rfl;rw[Gq (by omega) (by omega),Bv (by have:=hs.1;omega),hp]
def Jb (args:List Value) (objs:List AK):GT:=
 match args,objs with
 | [.slice (some ⟨9,0,some 0⟩) n c],[.vec [.str,.str] l _]=> .ask ((n=l.length/\c=AF)/\Dz l) (.ret ⟨.int .i64 (BG l),[],[]⟩)
 | _,_=> .fail
theorem Qd:C3 Tryz.prog AL Au (Al AL 9 [] Jb):=by
 refine BY (A4.nil _ _) (by kernel_rfl) (n:=25) (by kernel_rfl) (by kernel_rfl) fun argsc objs x hx hro=>?_
 unfold Jb at hx;split at hx
 ·rename_i n c l ro;simp only[GT.run]at hx;split at hx
  ·rename_i hok;obtain⟨⟨rfl,rfl⟩,hs⟩:=hok;cases hx
   refine⟨by simp,?_⟩;have hE:Ad X0 10 Au (fun v _=>v= .int .i64 (BG l)) (st Au 25 [QW l.length] (hR l)):=by
    refine CJ (A6 X0) (ids:=[]) (S:=Qw) rfl (Q:=fun _ _=>False) (R:=fun c=>c=PG l 0 0) (fun v H h=>h.elim) (fun c h=>by rw[h];exact Vu l hs l.length 0 (by omega) (by omega)) 100 _ ?_;rw[W6]
   exact hE.IC.mono fun v H h=>by rw[h];exact HK rfl
  ·cases hx
 ·cases hx
def C5 (l:List (EK.C AR)) (key:ByteArray):Option ByteArray:=(l.find? fun x=>ByteArray.toList x.1==ByteArray.toList key).map (·.2)
def Qe (l:List (EK.C AR)) (key:ByteArray):Value:= .tuple ⟨[.string ((C5 l key).getD e0),.bool (C5 l key).isSome]⟩
theorem TS (l:List (EK.C AR)) (key:ByteArray) (hs:l.length < 1000000):∀(m i:Nat),l.length - i=m->i<=l.length->Ad X0 10 BB (fun v _=>v=Qe (l.drop i) key) (LU l key i):=by
 intro m;induction m with
 | zero=>
  intro i hm hi;refine CJ (A6 X0) (ids:=[]) (S:=NK) rfl (Q:=fun v _=>v=Qe (l.drop i) key) (R:=fun _=>False) (fun v H h=>h) (fun c h=>h.elim) 200 _ ?_;rw[SO,List.drop_eq_nil_of_le (by omega)];refine AU (fun h=>?_) (fun _=>rfl);exfalso;have:(i:Int) < l.length:=h;omega
 | succ m ih=>
  intro i hm hi;have hlt:i < l.length:=by omega
  refine CJ (A6 X0) (ids:=[]) (S:=NK) rfl (Q:=fun v _=>v=Qe (l.drop i) key) (R:=fun c=>Qe (l.drop i) key=Qe (l.drop (i+1)) key/\c=LU l key (i+1:Nat)) (fun v H h=>h) (fun c h=>by rw[h.1,h.2];exact ih (i+1) (by omega) (by omega)) 200 _ ?_;rw[SO];refine AU (fun h=>?_) (fun h=>absurd (show(i:Int) < Int.ofNat l.length by simpa using hlt) h);refine AH (ca hlt) (AH (cb hlt) ?_);rw[Ci hlt,Bv (by omega),List.drop_eq_getElem_cons hlt];refine Ae (fun h=>AH (ca hlt) (AH (cb hlt) ?_)) (fun h=>⟨?_,rfl⟩)
  ·unfold Qe C5;simp only[List.find?_cons,h];rfl
  ·unfold Qe C5;simp only[List.find?_cons,h]
def M9 (args:List Value) (objs:List AK):GT:=
 match args,objs with
 | [.slice (some ⟨9,0,some 0⟩) n c,.string key],[.vec [.str,.str] l _]=> .ask ((n=l.length/\c=AF)/\l.length < 1000000) (.ret ⟨.tuple ⟨[.string ((C5 l key).getD e0),.bool (C5 l key).isSome]⟩,[],[]⟩)
 | _,_=> .fail
theorem Vd:C3 Tryz.prog AL BB (Al AL 9 [] M9):=by
 refine BY (A4.nil _ _) (by kernel_rfl) (n:=25) (by kernel_rfl) (by kernel_rfl) fun argsc objs x hx hro=>?_
 unfold M9 at hx;split at hx
 ·rename_i n c key l ro;simp only[GT.run]at hx;split at hx
  ·rename_i hok;obtain⟨⟨rfl,rfl⟩,hs⟩:=hok;cases hx
   refine⟨by simp,?_⟩;have hE:Ad X0 10 BB (fun v _=>v=Qe l key) (st BB 25 [QW l.length,.string key] (hR l)):=by
    refine CJ (A6 X0) (ids:=[]) (S:=NK) rfl (Q:=fun _ _=>False) (R:=fun c=>c=LU l key 0) (fun v H h=>h.elim) (fun c h=>by rw[h];exact TS l key hs l.length 0 (by omega) (by omega)) 100 _ ?_;rw[U8]
   exact hE.IC.mono fun v H h=>by rw[h];exact HK rfl
  ·cases hx
 ·cases hx
def Bx (l m:List (EK.C kS)):Bool:=List.map ByteArray.toList l==List.map ByteArray.toList m
theorem WT (l m:List (EK.C kS)) (hl:l.length=m.length) (hs:l.length < 1000000):∀(q i:Nat),l.length - i=q->i<=l.length->Ad X0 11 Ax (fun v _=>v= .bool (Bx (l.drop i) (m.drop i))) (PD l m i):=by
 intro q;induction q with
 | zero=>
  intro i hm hi;refine CJ (A6 X0) (ids:=[]) (S:=SB) rfl (Q:=fun v _=>v= .bool (Bx (l.drop i) (m.drop i))) (R:=fun _=>False) (fun v H h=>h) (fun c h=>h.elim) 200 _ ?_;rw[Ua,List.drop_eq_nil_of_le (by omega),List.drop_eq_nil_of_le (by omega)];refine AU (fun h=>?_) (fun _=>rfl);exfalso;have:(i:Int) < l.length:=h;omega
 | succ q ih=>
  intro i hm hi;have hlt:i < l.length:=by omega
  have hlt2:i < m.length:=by omega
  refine CJ (A6 X0) (ids:=[]) (S:=SB) rfl (Q:=fun v _=>v= .bool (Bx (l.drop i) (m.drop i))) (R:=fun c=>Bx (l.drop i) (m.drop i)=Bx (l.drop (i+1)) (m.drop (i+1))/\c=PD l m (i+1:Nat)) (fun v H h=>h) (fun c h=>by rw[h.1,h.2];exact ih (i+1) (by omega) (by omega)) 200 _ ?_;rw[Ua];refine AU (fun h=>?_) (fun h=>absurd (show(i:Int) < Int.ofNat l.length by simpa using hlt) h);refine AH (ca hlt) (AH (cb hlt) (AH (ca hlt2) (AH (cb hlt2) ?_)));rw[Ci hlt,Ci hlt2,Bv (by omega),List.drop_eq_getElem_cons hlt,List.drop_eq_getElem_cons hlt2];have e:∀(a b:ByteArray) (x y:List (EK.C kS)),Bx (a::x) (b::y)=(ByteArray.toList a==ByteArray.toList b&&Bx x y):=fun a b x y=>rfl
  rw[e];refine Ae (fun h=>?_) (fun h=>⟨?_,rfl⟩)
  ·rw[Bool.not_eq_true']at h;rw[h];rfl
  ·rw[Bool.not_eq_false']at h;rw[h];rfl
def Uf (args:List Value) (objs:List AK):GT:=
 match args,objs with
 | [.slice (some ⟨9,0,some 0⟩) n c,.slice (some ⟨10,0,some 0⟩) n2 c2],[.vec [.str] l _,.vec [.str] m _]=> .ask ((n=l.length/\c=AF)/\(n2=m.length/\c2=AF)/\l.length < 1000000/\m.length < 1000000) (.ret ⟨.bool (Bx l m),[],[]⟩)
 | _,_=> .fail
theorem YS:C3 Tryz.prog AL Ax (Al AL 9 [] Uf):=by
 refine BY (A4.nil _ _) (by kernel_rfl) (n:=26) (by kernel_rfl) (by kernel_rfl) fun argsc objs x hx hro=>?_
 unfold Uf at hx;split at hx
 ·rename_i n c n2 c2 l r1 m r2;simp only[GT.run]at hx;split at hx
  ·rename_i hok;obtain⟨⟨rfl,rfl⟩,⟨rfl,rfl⟩,hs,hs2⟩:=hok;cases hx
   refine⟨by simp,?_⟩;have hE:Ad X0 11 Ax (fun v _=>v= .bool (Bx l m)) (st Ax 26 [QW l.length,.slice (some ⟨10,0,some 0⟩) m.length AF] (kI l m)):=by
    refine CJ (A6 X0) (ids:=[]) (S:=SB) rfl (Q:=fun v _=>v= .bool (Bx l m)) (R:=fun c=>l.length=m.length/\c=PD l m 0) (fun v H h=>h) (fun c h=>by rw[h.2];exact WT l m h.1 hs l.length 0 (by omega) (by omega)) 100 _ ?_;rw[Wx];refine Ae (fun h=>?_) (fun h=>⟨?_,rfl⟩)
    ·have hne:l.length≠m.length:=by intro e;rw[e]at h;simp at h
     have:Bx l m=false:=by
      cases hq:Bx l m
      ·rfl
      ·exfalso;have:=congrArg List.length (eq_of_beq hq);simp only[List.length_map]at this;exact hne this
     rw[this]
    ·have:(Int.ofNat l.length)=Int.ofNat m.length:=by simpa using h
     exact Int.ofNat.inj this
   exact hE.IC.mono fun v H h=>by rw[h];exact HK rfl
  ·cases hx
 ·cases hx
theorem Ui {n:Nat} (h:n < 1000000):BK 16 (n+1)=true:=by
 unfold BK;rw[Nat.ble_eq_true_of_le (by omega),Nat.ble_eq_true_of_le (by omega)];rfl
theorem room {b n m:Nat} (hb:BK b (n+1)=true) (h:n=m):(true&&Nat.ble (0+n) m&&BK b (n+1))=true:=by
 rw[hb,Nat.ble_eq_true_of_le (by omega)];rfl
def Az (l:List (EK.C AR)):List (EK.C kS):=l.map (·.1)
def A7 (l:List (EK.C AR)):List (EK.C kS):=l.map (·.2)
theorem FP {l:List (EK.C AR)} {i:Nat} (h:i < l.length) (f:EK.C AR->EK.C kS):List.map f (l.take i)++[f l[i]]=List.map f (l.take (i+1)):=by
 rw[List.take_succ_eq_append_getElem h,List.map_append];rfl
theorem T6 (l:List (EK.C AR)) (hs:l.length < 1000000):∀(q i:Nat),l.length - i=q->i<=l.length->
 Ad X0 10 Ay (fun v H=>v= .tuple ⟨[CT 10 l.length,CT 11 l.length]⟩/\H.get 10=some (.vec kS (Az l) false)/\H.get 11=some (.vec kS (A7 l) false)) (PZ l (Az (l.take i)) (A7 (l.take i)) (CT 10 i) (CT 11 i) i):=by
 intro q;induction q with
 | zero=>
  intro i hm hi;have he:i=l.length:=by omega
  subst he;refine CJ (A6 X0) (ids:=[]) (S:=Nu) rfl (Q:=fun v os=>v= .tuple ⟨[CT 10 l.length,CT 11 l.length]⟩/\os=[some (.vec kS (Az l) false),some (.vec kS (A7 l) false)]) (R:=fun _=>False) (fun v H h=>?_) (fun c h=>h.elim) 200 _ ?_
  ·obtain⟨rfl,h⟩:=h;have h:[H.get 10,H.get 11]=_:=h;simp only[List.cons.injEq,and_true]at h;exact⟨rfl,h.1,h.2⟩
  ·rw[Ro,List.take_length];refine AU (fun h=>?_) (fun _=>⟨by unfold CT;rw[EH],rfl⟩);exfalso;have:(l.length:Int) < l.length:=h;omega
 | succ q ih=>
  intro i hm hi;have hlt:i < l.length:=by omega
  refine CJ (A6 X0) (ids:=[]) (S:=Nu) rfl (Q:=fun _ _=>False) (R:=fun c=>c=PZ l (Az (l.take (i+1))) (A7 (l.take (i+1))) (CT 10 (i+1)) (CT 11 (i+1)) (i+1:Nat)) (fun v H h=>h.elim) (fun c h=>by rw[h];exact ih (i+1) (by omega) (by omega)) 200 _ ?_;rw[Ro];refine AU (fun h=>?_) (fun h=>absurd (show(i:Int) < Int.ofNat l.length by simpa using hlt) h);have e1:(Az (l.take i)).length=i:=by unfold Az;rw[List.length_map,List.length_take];omega
  have e2:(A7 (l.take i)).length=i:=by unfold A7;rw[List.length_map,List.length_take];omega
  refine AH (ca hlt) (AH (cb hlt) (AH (room (Ui (by omega)) e1.symm) (AH (ca hlt) (AH (cb hlt) (AH (room (Ui (by omega)) e2.symm) ?_)))));rw[Ci hlt,Bv (by omega),List.drop_zero,List.drop_zero,List.take_of_length_le (l:=Az (l.take i)) (by omega),List.take_of_length_le (l:=A7 (l.take i)) (by omega)];unfold CT;rw[<-EH];rw[show Az (l.take i)++[(l[i]).1]=Az (l.take (i+1))from FP hlt (fun x=>x.1),show A7 (l.take i)++[(l[i]).2]=A7 (l.take (i+1))from FP hlt (fun x=>x.2)]
def Hg (args:List Value) (objs:List AK):GT:=
 match args,objs with
 | [.slice (some ⟨9,0,some 0⟩) n c],[.vec [.str,.str] l _]=> .ask ((n=l.length/\c=AF)/\l.length < 1000000) (.ret ⟨.tuple ⟨[.slice (some ⟨10,0,some 0⟩) l.length AF,.slice (some ⟨11,0,some 0⟩) l.length AF]⟩,[],[.vec kS (Az l) false,.vec kS (A7 l) false]⟩)
 | _,_=> .fail
theorem Zt {v v1:Value} {H:AA} {m b1 b2:Nat} {o1 o2:AK} (h1:9+m<=b1) (h2:9+m<=b2) (hne:b1≠b2) (hv:FC (CY.ID AL 9 m [b1,b2]) v=some v1)
 (g1:∃p,BV (CY.ID AL 9 m [b1,b2]) o1=some p/\H.get b1=some p) (g2:∃p,BV (CY.ID AL 9 m [b1,b2]) o2=some p/\H.get b2=some p):CY AL 9 m [] ⟨v,[],[o1,o2]⟩ v1 H:=by
 refine⟨[b1,b2],by simp[hne],fun b hb=>by simp at hb;omega,rfl,hv,fun j b o hj ho=>?_,fun j o hj hm=>by cases hm⟩;cases j with
 | zero=>cases hj;cases ho;exact g1
 | succ j=>cases j with
  | zero=>cases hj;cases ho;exact g2
  | succ j=>cases hj
theorem Vp:C3 Tryz.prog AL Ay (Al AL 9 [] Hg):=by
 refine BY (A4.nil _ _) (by kernel_rfl) (n:=31) (by kernel_rfl) (by kernel_rfl) fun argsc objs x hx hro=>?_
 unfold Hg at hx;split at hx
 ·rename_i n c l ro;simp only[GT.run]at hx;split at hx
  ·rename_i hok;obtain⟨⟨rfl,rfl⟩,hs⟩:=hok;cases hx
   refine⟨by simp,?_⟩;have hE:Ad X0 10 Ay (fun v H=>v= .tuple ⟨[CT 10 l.length,CT 11 l.length]⟩/\H.get 10=some (.vec kS (Az l) false)/\H.get 11=some (.vec kS (A7 l) false)) (st Ay 31 [QW l.length] (hR l)):=by
    refine CJ (A6 X0) (ids:=[]) (S:=Nu) rfl (Q:=fun _ _=>False) (R:=fun c=>c=Wo l) (fun v H h=>h.elim) (fun c h=>?_) 100 _ ?_
    ·rw[h];refine BC.WM 4 0 kS (by rfl) (by rfl) (show look _ 0= .slice (some ⟨9,0,some 0⟩) l.length AF from rfl) (by decide) ?_;refine BC.WM 5 0 kS (by rfl) (by rfl) (show look _ 0= .slice (some ⟨9,0,some 0⟩) l.length AF from rfl) (by decide) ?_;exact T6 l hs l.length 0 (by omega) (by omega)
    ·rw[VZ]
   refine hE.IC.mono fun v H h=>?_
   obtain⟨rfl,h1,h2⟩:=h;exact Zt (m:=1) (b1:=10) (b2:=11) (by omega) (by omega) (by omega) rfl ⟨_,rfl,h1⟩ ⟨_,rfl,h2⟩
  ·cases hx
 ·cases hx
def Zm (a b:ByteArray):Bool:= !(Op.bytesLess (ByteArray.toList a) (ByteArray.toList b)||ByteArray.toList a==ByteArray.toList b)
def E3 (l:List (EK.C AR)) (key:ByteArray):List (EK.C AR):=l.filter fun x=>Op.bytesLess (ByteArray.toList x.1) (ByteArray.toList key)
def D7 (l:List (EK.C AR)) (key:ByteArray):List (EK.C AR):=l.filter fun x=>Zm x.1 key
def Ar (l:List (EK.C AR)) (k:Int) (key val:ByteArray):List (EK.C AR):=(bif k==1 then E3 l key++[(key,val)]else E3 l key)++D7 l key
abbrev Wv (w:List (EK.C AR)) (v:Value) (H:AA):Prop:=v=CT 11 w.length/\H.get 11=some (.vec AR w false)
theorem HN {l:List (EK.C AR)} {i:Nat} (h:i < l.length) (p:EK.C AR->Bool):(l.take (i+1)).filter p=(l.take i).filter p++(bif p l[i]then [l[i]]else []):=by
 rw[List.take_succ_eq_append_getElem h,List.filter_append];cases hp:p l[i]<;>simp[hp]
theorem Sb (l:List (EK.C AR)) (k a b:Int) (key val:ByteArray) (i6:Int) (pre:List (EK.C AR)) (hs:l.length < 400000) (hp:pre.length < 500000):∀(q i:Nat),l.length - i=q->i<=l.length->
 Ad X0 10 An (Wv (pre++D7 l key)) (HX 2 l k a b key val (pre++D7 (l.take i) key) (CT 11 (pre++D7 (l.take i) key).length) (.int .i64 i6) (.int .i64 i)):=by
 intro q;induction q with
 | zero=>
  intro i hm hi;have he:i=l.length:=by omega
  subst he;refine CJ (A6 X0) (ids:=[]) (S:=Lo) rfl (Q:=fun v os=>v=CT 11 (pre++D7 l key).length/\os=[some (.vec AR (pre++D7 l key) false)]) (R:=fun _=>False) (fun v H h=>?_) (fun c h=>h.elim) 200 _ ?_
  ·obtain⟨rfl,h⟩:=h;have h:[H.get 11]=_:=h;simp only[List.cons.injEq,and_true]at h;exact⟨rfl,h⟩
  ·rw[Qn,List.take_length];refine AU (fun h=>?_) (fun _=>⟨by unfold CT;rw[EH],rfl⟩);exfalso;have:(l.length:Int) < l.length:=h;omega
 | succ q ih=>
  intro i hm hi;have hlt:i < l.length:=by omega
  have hlen:(D7 (l.take i) key).length<=i:=by
   have:=List.length_filter_le (fun x:EK.C AR=>Zm x.1 key) (l.take i);rw[List.length_take]at this;show(List.filter _ _).length<=i;omega
  refine CJ (A6 X0) (ids:=[]) (S:=Lo) rfl (Q:=fun _ _=>False) (R:=fun c=>c=HX 2 l k a b key val (pre++D7 (l.take (i+1)) key) (CT 11 (pre++D7 (l.take (i+1)) key).length) (.int .i64 i6) (.int .i64 (i+1:Nat))) (fun v H h=>h.elim) (fun c h=>by rw[h];exact ih (i+1) (by omega) (by omega)) 200 _ ?_;rw[Qn];have hstep:=HN hlt (fun x=>Zm x.1 key);refine AU (fun h=>?_) (fun h=>absurd (show(i:Int) < Int.ofNat l.length by simpa using hlt) h);refine AH (ca hlt) (AH (cb hlt) ?_);rw[Ci hlt,Bv (by omega),List.drop_zero,List.take_length];refine Ae (b:=Zm l[i].1 key) (fun h=>AH (ca hlt) (AH (cb hlt) (AH (room (Ot (by rw[List.length_append];omega)) rfl) ?_))) (fun h=>?_)
  ·have e:D7 (l.take (i+1)) key=D7 (l.take i) key++[l[i]]:=by
    unfold D7;rw[hstep];show _++(bif Zm l[i].1 key then _ else _)=_;rw[h];rfl
   rw[e,<-List.append_assoc,List.length_append (bs:=[l[i]])];unfold CT;rw[<-EH];rfl
  ·have e:D7 (l.take (i+1)) key=D7 (l.take i) key:=by
    unfold D7;rw[hstep];show _++(bif Zm l[i].1 key then _ else _)=_;rw[h];exact List.append_nil _
   rw[e];unfold CT;rw[<-EH]
theorem S9 (l:List (EK.C AR)) (k a b:Int) (key val:ByteArray) (hs:l.length < 400000):∀(q i:Nat),l.length - i=q->i<=l.length->
 Ad X0 10 An (Wv (Ar l k key val)) (HX 0 l k a b key val (E3 (l.take i) key) (CT 11 (E3 (l.take i) key).length) (.int .i64 i) Bn):=by
 intro q;have hlow:(E3 l key).length<=l.length:=List.length_filter_le _ _;induction q with
 | zero=>
  intro i hm hi;have he:i=l.length:=by omega
  subst he;refine CJ (A6 X0) (ids:=[]) (S:=Lo) rfl (Q:=fun _ _=>False) (R:=fun c=>c=HX 2 l k a b key val (bif k==1 then E3 l key++[(key,val)]else E3 l key) (CT 11 (bif k==1 then E3 l key++[(key,val)]else E3 l key).length) (.int .i64 l.length) (.int .i64 0)) (fun v H h=>h.elim) (fun c h=>?_) 200 _ ?_
  ·rw[h];have hp:(bif k==1 then E3 l key++[(key,val)]else E3 l key).length < 500000:=by
    cases k==1
    ·show(E3 l key).length < _;omega
    ·show(E3 l key++[(key,val)]).length < _;rw[List.length_append,List.length_singleton];omega
   have:=Sb l k a b key val l.length _ hs hp l.length 0 (by omega) (by omega);rw[List.take_zero,show D7 [] key=[]from rfl,List.append_nil]at this;exact this
  ·rw[R9,List.take_length];refine AU (fun h=>?_) (fun _=>?_)
   ·exfalso;have:(l.length:Int) < l.length:=h;omega
   rw[List.drop_zero,List.take_length];refine Ae (fun h=>AH (room (Ot (by omega)) rfl) ?_) (fun h=>?_)
   ·rw[h];unfold CT;rw[EH];simp only[cond_true,List.length_append,List.length_singleton]
   ·rw[h];unfold CT;rw[EH];rfl
 | succ q ih=>
  intro i hm hi;have hlt:i < l.length:=by omega
  have hlen:(E3 (l.take i) key).length<=i:=by
   have:=List.length_filter_le (fun x:EK.C AR=>Op.bytesLess (ByteArray.toList x.1) (ByteArray.toList key)) (l.take i);rw[List.length_take]at this;show(List.filter _ _).length<=i;omega
  refine CJ (A6 X0) (ids:=[]) (S:=Lo) rfl (Q:=fun _ _=>False) (R:=fun c=>c=HX 0 l k a b key val (E3 (l.take (i+1)) key) (CT 11 (E3 (l.take (i+1)) key).length) (.int .i64 (i+1:Nat)) Bn) (fun v H h=>h.elim) (fun c h=>by rw[h];exact ih (i+1) (by omega) (by omega)) 200 _ ?_;rw[R9];have hstep:=HN hlt (fun x=>Op.bytesLess (ByteArray.toList x.1) (ByteArray.toList key));refine AU (fun h=>?_) (fun h=>absurd (show(i:Int) < Int.ofNat l.length by simpa using hlt) h);refine AH (ca hlt) (AH (cb hlt) ?_);rw[Ci hlt,Bv (by omega),List.drop_zero,List.take_length];refine Ae (fun h=>AH (ca hlt) (AH (cb hlt) (AH (room (Ot (by omega)) rfl) ?_))) (fun h=>?_)
  ·have e:E3 (l.take (i+1)) key=E3 (l.take i) key++[l[i]]:=by
    unfold E3;rw[hstep];show _++(bif Op.bytesLess (ByteArray.toList l[i].1) (ByteArray.toList key)then _ else _)=_;rw[h];rfl
   rw[e,List.length_append (bs:=[l[i]])];unfold CT;rw[<-EH];rfl
  ·have e:E3 (l.take (i+1)) key=E3 (l.take i) key:=by
    unfold E3;rw[hstep];show _++(bif Op.bytesLess (ByteArray.toList l[i].1) (ByteArray.toList key)then _ else _)=_;rw[h];exact List.append_nil _
   rw[e];unfold CT;rw[<-EH]
def Jj (args:List Value) (objs:List AK):GT:=
 match args,objs with
 | [.slice (some ⟨9,0,some 0⟩) n c,.agg ⟨[.int .i64 k,.int .i64 _,.int .i64 _,.string key,.string val]⟩],[.vec [.str,.str] l _]=> .ask ((n=l.length/\c=AF)/\l.length < 400000) (.ret ⟨.slice (some ⟨10,0,some 0⟩) (Ar l k key val).length AF,[],[.vec AR (Ar l k key val) false]⟩)
 | _,_=> .fail
theorem Qc:C3 Tryz.prog AL An (Al AL 9 [] Jj):=by
 refine BY (A4.nil _ _) (by kernel_rfl) (n:=62) (by kernel_rfl) (by kernel_rfl) fun argsc objs x hx hro=>?_
 unfold Jj at hx;split at hx
 ·rename_i n c k a b key val l ro;simp only[GT.run]at hx;split at hx
  ·rename_i hok;obtain⟨⟨rfl,rfl⟩,hs⟩:=hok;cases hx
   refine⟨by simp,?_⟩;have hE:Ad X0 10 An (Wv (Ar l k key val)) (st An 62 [QW l.length,E2 k a b key val] (hR l)):=by
    refine CJ (A6 X0) (ids:=[]) (S:=Lo) rfl (Q:=fun _ _=>False) (R:=fun c=>c=de 0 l k a b key val (.slice none 0 0) (.int .i64 0) Bn) (fun v H h=>h.elim) (fun c h=>?_) 100 _ ?_
    ·rw[h];refine BC.WM 5 0 AR (by rfl) (by rfl) (show look _ 0= .slice (some ⟨9,0,some 0⟩) l.length AF from rfl) (by decide) ?_;exact S9 l k a b key val hs l.length 0 (by omega) (by omega)
    ·rw[Xz]
   refine hE.IC.mono fun v H h=>?_
   obtain⟨rfl,h1⟩:=h;exact P9 (m:=1) (b:=11) (fun j o=>by simp) (by omega) rfl rfl h1
  ·cases hx
 ·cases hx
def Dy (m:AB) (b n x:Nat):AK:= .cells (BN m b n (.slice (some ⟨x,0,some 0⟩) m.AJ.length AF)) 0 false
def fT (m:AB) (l:List (EK.C AR)):AA:=BH ⟨.leaf,9⟩ [Dy m 10 11 12,Bi m.base,CS 13 l.length,.vec BL m.AJ false,.vec AR l false]
def ZT (m:AB):AA:=BH ⟨.leaf,9⟩ [Dy m 10 11 12,Bi m.base,.cells [.bool true,.slice none 0 0] 0 false,.vec BL m.AJ false]
def kO (m:AB) (l:List (EK.C AR)) (i:Int) (x y:Value) (H:AA->AA):A8:=
 ⟨⟨Ao,Gr [(2,.func (.yield 12) ⟨[]⟩ ⟨[]⟩),(11,.slice (some ⟨10,0,some 0⟩) l.length AF),(12,.int .i64 l.length),(13,.int .i64 i)],25,[.code (BI Tryz.prog Ao [1,0,0]),.inLoop (BI Tryz.prog Ao [1,0,0]),.inBlock 0],[],false,.normal,none⟩,
  [⟨BA,Gr [],6,[IG (BI Tryz.prog BA []) 2],[],false,.normal,none⟩,
   ⟨Cl,Gr [(2,DW 13)],20,[.inRangeFunc 12,.inBlock 0],[⟨.collected 11,⟨[]⟩⟩],false,.normal,none⟩,
   ⟨Ag,Gr [(4,DW 17),(5,DW 16)],23,[.inRangeFunc 15,.inBlock 0,.code (BI Tryz.prog Ag [1,1,1])],[⟨.collected 14,⟨[]⟩⟩],false,.normal,none⟩],
  H (BH ⟨.leaf,9⟩ [Dy m 18 19 20,.vec AR l false,.deferred (some []),
   .loop ⟨.ready,none,Cl,Gr [(2,DW 13)],20,#[13,14],BI Tryz.prog Cl [1,1,1,0,0],BI Tryz.prog Cl [1,1,1,0,1],11⟩,
   .cells [.func (.yield 15) ⟨[]⟩ ⟨[]⟩] 0 false,.deferred (some []),
   .loop ⟨.ready,none,Ag,Gr [(4,DW 17),(5,DW 16)],23,#[11,12],BI Tryz.prog Ag [1,1,0,1,0,0],BI Tryz.prog Ag [1,1,0,1,0,1],14⟩,
   .cells [y] 0 false,.cells [x] 0 false,Bi m.base,CS 10 l.length,.vec BL m.AJ false])⟩
def jX (m:AB) (l:List (EK.C AR)):A8:=kO m l 0 (.slice none 0 0) (.slice none 0 0) id
def gq (m:AB) (l:List (EK.C AR)) (ks vs:List (EK.C kS)) (n1 n2:Nat) (i:Int):A8:=kO m l i (CT 22 n1) (CT 21 n2) fun H=>(H.alloc (.vec kS vs false)).alloc (.vec kS ks false)
def Y1:Stop:=⟨Ao,3,2,10,[9],[2,11,12,13]⟩
def Xh:List (FuncId × List Nat):=[(BA,[]),(Cl,[2]),(Ag,[4,5])]
theorem Z1 (m:AB) (l:List (EK.C AR)) (Q:Value->List (Option AK)->Prop) (R:A8->Prop):cA X0 C4 Ag [9] Y1 Xh Q R 600 (st Ag 23 [p9] (fT m l))=(
 (bif decide (0<=Int.ofNat (List.length l))&&Nat.ble (Int.toNat (Int.ofNat (List.length l))) (List.length l)&&decide (0<=0)&&Nat.ble 0 (Int.toNat (Int.ofNat (List.length l)))then(R (jX m l))else False)):=by kernel_rfl
theorem XU (m:AB) (l:List (EK.C AR)) (ks vs:List (EK.C kS)) (n1 n2:Nat) (i:Int) (Q:Value->List (Option AK)->Prop) (R:A8->Prop):cA X0 C4 Ag [9,10,18,19,20,21,22] Y1 Xh Q R 600 (gq m l ks vs n1 n2 i)=(
 (bif decide (i < ((List.length l):Int))then(bif decide (0<=i)&&Nat.blt (Int.toNat i) (List.length l)then(bif Nat.blt (0+Int.toNat i) (List.length l)then(bif true&&Nat.ble (0+n1) (List.length ks)&&BK 16 (n1+1)then(bif true&&Nat.ble (0+n2) (List.length vs)&&BK 16 (n2+1)then(R (gq m l (List.take n1 (List.drop 0 ks)++[Prod.fst (List.getD l (0+Int.toNat i) (EK.AZ AR))]) (List.take n2 (List.drop 0 vs)++[Prod.snd (List.getD l (0+Int.toNat i) (EK.AZ AR))]) (n1+1) (n2+1) (IntKind.wrap .i64 (i+1))))else False)else False)else False)else False)else(((.slice (some ⟨21,0,(some 0)⟩) n2 18446744073709551616):Value)=(.slice (some ⟨21,0,(some 0)⟩) n2 18446744073709551616))/\(Q (.tuple ⟨[(.slice (some ⟨22,0,(some 0)⟩) n1 18446744073709551616),(.slice (some ⟨21,0,(some 0)⟩) n2 18446744073709551616)]⟩) [some (.cells [(.int .i64 (List.getD (AB.cfg m) 0 0)),(.int .i64 (List.getD (AB.cfg m) 1 0)),(.int .i64 (List.getD (AB.cfg m) 2 0)),(.int .i64 (List.getD (AB.cfg m) 3 0)),(.int .i64 (List.getD (AB.cfg m) 4 0)),(.int .i64 (List.getD (AB.cfg m) 5 0)),(.int .i64 (List.getD (AB.cfg m) 6 0)),(.int .i64 (AB.AN m)),(.pointer (some ⟨18,0,none⟩)),(.pointer (some ⟨19,0,none⟩)),(.int .i64 (AB.cost m)),(.slice (some ⟨20,0,(some 0)⟩) (List.length (AB.AJ m)) 18446744073709551616),(.pointer none),(.int .i64 (AB.state m)),(.bool (AB.AG m))] 0 false),some (.vec AR l false),some (.abs (Ab.pack (Pk.table (AB.base m))) false),some (.cells [(.bool true),(.slice (some ⟨10,0,(some 0)⟩) (List.length l) 18446744073709551616)] 0 false),some (.vec BL (AB.AJ m) false),some (.vec kS vs false),some (.vec kS ks false),some (.vec kS ks false),some (.vec kS vs false)]))):=by kernel_rfl
theorem dB (m:AB) (Q:Value->List (Option AK)->Prop):Ex X0 C4 Ag [9,10,11,12] Q 600 (st Ag 23 [p9] (ZT m))=(
 (((.slice none 0 0):Value)=(.slice none 0 0))/\(Q (.tuple ⟨[(.slice none 0 0),(.slice none 0 0)]⟩) [some (.cells [(.int .i64 (List.getD (AB.cfg m) 0 0)),(.int .i64 (List.getD (AB.cfg m) 1 0)),(.int .i64 (List.getD (AB.cfg m) 2 0)),(.int .i64 (List.getD (AB.cfg m) 3 0)),(.int .i64 (List.getD (AB.cfg m) 4 0)),(.int .i64 (List.getD (AB.cfg m) 5 0)),(.int .i64 (List.getD (AB.cfg m) 6 0)),(.int .i64 (AB.AN m)),(.pointer (some ⟨10,0,none⟩)),(.pointer (some ⟨11,0,none⟩)),(.int .i64 (AB.cost m)),(.slice (some ⟨12,0,(some 0)⟩) (List.length (AB.AJ m)) 18446744073709551616),(.pointer none),(.int .i64 (AB.state m)),(.bool (AB.AG m))] 0 false),some (.abs (Ab.pack (Pk.table (AB.base m))) false),some (.cells [(.bool true),(.slice none 0 0)] 0 false),some (.vec BL (AB.AJ m) false)])):=by kernel_rfl
abbrev fJ (m:AB) (l:List (EK.C AR)) (v:Value) (H:AA):Prop:=v= .tuple ⟨[CT 22 l.length,CT 21 l.length]⟩/\H.get 9=some (Dy m 18 19 20)/\H.get 10=some (.vec AR l false)/\H.get 18=some (Bi m.base)/\H.get 19=some (CS 10 l.length)/\H.get 20=some (.vec BL m.AJ false)/\H.get 21=some (.vec kS (A7 l) false)/\H.get 22=some (.vec kS (Az l) false)
theorem YF (m:AB) (l:List (EK.C AR)) (hs:l.length < 1000000):∀(q i:Nat),l.length - i=q->i<=l.length->
 Ad X0 10 Ag (fJ m l) (gq m l (Az (l.take i)) (A7 (l.take i)) i i i):=by
 intro q;induction q with
 | zero=>
  intro i hm hi;have he:i=l.length:=by omega
  subst he;refine Gy (A6 X0) (ids:=[9,10,18,19,20,21,22]) (S:=Y1) (ks:=Xh) (by kernel_rfl) (Q:=fun v os=>v= .tuple ⟨[CT 22 l.length,CT 21 l.length]⟩/\∃a b,os=[some (Dy m 18 19 20),some (.vec AR l false),some (Bi m.base),some (CS 10 l.length),some (.vec BL m.AJ false),some (.vec kS (A7 l) false),some (.vec kS (Az l) false),a,b]) (R:=fun _=>False) (fun v H h=>?_) (fun c h=>h.elim) 600 _ ?_
  ·obtain⟨rfl,a,b,h⟩:=h;have h:[H.get 9,H.get 10,H.get 18,H.get 19,H.get 20,H.get 21,H.get 22,H.get 22,H.get 21]=_:=h;simp only[List.cons.injEq,and_true]at h;obtain⟨g1,g2,g3,g4,g5,g6,g7,_⟩:=h;exact⟨rfl,g1,g2,g3,g4,g5,g6,g7⟩
  ·rw[XU,List.take_length];refine AU (fun h=>?_) (fun _=>⟨rfl,by unfold CT;rw[EH],_,_,by unfold Dy CS AF;rfl⟩);exfalso;have:(l.length:Int) < l.length:=h;omega
 | succ q ih=>
  intro i hm hi;have hlt:i < l.length:=by omega
  refine Gy (A6 X0) (ids:=[9,10,18,19,20,21,22]) (S:=Y1) (ks:=Xh) (by kernel_rfl) (Q:=fun _ _=>False) (R:=fun c=>c=gq m l (Az (l.take (i+1))) (A7 (l.take (i+1))) (i+1) (i+1) (i+1:Nat)) (fun v H h=>h.elim) (fun c h=>by rw[h];exact ih (i+1) (by omega) (by omega)) 600 _ ?_;rw[XU];refine AU (fun h=>?_) (fun h=>absurd (show(i:Int) < (l.length:Int) by omega) h);have e1:(Az (l.take i)).length=i:=by unfold Az;rw[List.length_map,List.length_take];omega
  have e2:(A7 (l.take i)).length=i:=by unfold A7;rw[List.length_map,List.length_take];omega
  refine AH (ca hlt) (AH (cb hlt) (AH (room (Ui (by omega)) e1.symm) (AH (room (Ui (by omega)) e2.symm) ?_)));rw[Ci hlt,Bv (by omega),List.drop_zero,List.drop_zero,List.take_of_length_le (l:=Az (l.take i)) (by omega),List.take_of_length_le (l:=A7 (l.take i)) (by omega)];rw[show Az (l.take i)++[(l[i]).1]=Az (l.take (i+1))from FP hlt (fun x=>x.1),show A7 (l.take i)++[(l[i]).2]=A7 (l.take (i+1))from FP hlt (fun x=>x.2)]
theorem Ve (m:AB) (l:List (EK.C AR)) (hs:l.length < 1000000):Ad X0 10 Ag (fJ m l) (st Ag 23 [p9] (fT m l)):=by
 refine Gy (A6 X0) (ids:=[9]) (S:=Y1) (ks:=Xh) (by kernel_rfl) (Q:=fun _ _=>False) (R:=fun c=>c=jX m l) (fun v H h=>h.elim) (fun c h=>?_) 600 _ ?_
 ·rw[h];have hn:(jX m l).H.next=21:=by kernel_rfl
  refine BC.RC 16 11 kS [] [] (by rfl) (by rfl) (show look _ 11= .slice (some ⟨10,0,some 0⟩) l.length AF from rfl) (show(jX m l).H.get 16=some (.cells [.slice none 0 0] 0 false) by kernel_rfl) (by decide) ?_;refine BC.RC 17 11 kS [] [] (by rfl) (by rfl) (show look _ 11= .slice (some ⟨10,0,some 0⟩) l.length AF from rfl) (ro:=false) (e:=0) (by kernel_rfl) (by decide) ?_;have:=YF m l hs l.length 0 (by omega) (by omega);rw[List.take_zero]at this;refine Eq.mp (congrArg (Ad X0 10 Ag (fJ m l)) (?_:gq m l (Az []) (A7 []) 0 0 (0:Nat)=_)) this;kernel_rfl
 ·rw[Z1];exact AH (by simp) rfl
def cM (args:List Value) (objs:List AK):GT:=
 match args,objs with
 | [.pointer (some ⟨9,0,none⟩)],[.abs (.pack (.model m)) _]=> .ask (m.now.length < 1000000) (.ret ⟨.tuple ⟨[.slice (some ⟨10,0,some 0⟩) m.now.length AF,.slice (some ⟨11,0,some 0⟩) m.now.length AF]⟩,[some (.abs (.pack (.model m)) false)],[.vec kS (Az m.now) false,.vec kS (A7 m.now) false]⟩)
 | _,_=> .fail
def jv (m:AB) (v:Value) (H:AA):Prop:=∃b n x k1 k2,v= .tuple ⟨[CT k1 m.now.length,CT k2 m.now.length]⟩/\Oq 9 b n x H m/\k1≠k2/\k1∉9::[b,n,x]/\k2∉9::[b,n,x]/\10<=k1/\10<=k2/\H.get k1=some (.vec kS (Az m.now) false)/\H.get k2=some (.vec kS (A7 m.now) false)
theorem Sk (m:AB):((BH ⟨.leaf,9⟩ (MS m)).put 11 (CS 13 m.now.length)).alloc (.vec AR m.now false)=fT m m.now:=by kernel_rfl
theorem Ty (m:AB):(BH ⟨.leaf,9⟩ (MS m)).put 11 (.cells [.bool true,.slice none 0 0] 0 false)=ZT m:=by kernel_rfl
theorem Su (m:AB):Am (BH ⟨.leaf,9⟩ (MS m)) 0 200 [9] []=[9,10,11,12]:=by kernel_rfl
theorem Uk (m:AB):∀x,13<=x->(BH ⟨.leaf,9⟩ (MS m)).get x=none:=by
 intro x hx;rw[Ev];show(if x < 9 then _ else _)=_;rw[if_neg (by omega),List.getElem?_eq_none (by simp[MS];omega)];rfl
theorem ck:C3 Tryz.prog AL Ag (Al AL 9 [true] cM):=by
 refine BY (A4.nil _ _) (by kernel_rfl) (n:=23) (by kernel_rfl) (by kernel_rfl) fun argsc objs x hx hro=>?_
 unfold cM at hx;split at hx
 ·rename_i m ro;simp only[GT.run]at hx;split at hx
  ·rename_i hn;cases hx
   have hr0:ro=false:=hro 0 _ rfl rfl;subst hr0;refine⟨by simp,?_⟩;show Aq X0 10 (fun b=>9<=b/\b < 10) Ag _ (st Ag 23 [p9] (MC m));have hD9:∀v:Value,∀b∈[9],b∈Af 4 v∨(9<=b/\b < 10):=fun v b hb=>by
    rw[List.mem_singleton]at hb;subst hb;exact .inr ⟨Nat.le_refl 9,Nat.lt_succ_self 9⟩
   refine Aq.shut (Q:=jv m) (Pq (rest:=[]) ⟨Nat.le_refl 9,Nat.lt_succ_self 9⟩ ?_) ?_
   ·refine Aq.Z4 (b:=11) (s:= .table m.now) (ro:=false) (rs:=[9]) (fun x hx=>?_) ?_ ?_ (fun ops p k h=>by cases h) fun objs hr=>?_
    ·rw[List.mem_singleton]at hx;subst hx;exact⟨Nat.le_refl 9,Nat.lt_succ_self 9⟩
    ·show 11∈Am (BH ⟨.leaf,9⟩ (MS m)) 0 200 [9] [];rw[Su];simp
    ·show(BH ⟨.leaf,9⟩ (MS m)).get 11=_;kernel_rfl
    generalize hl:m.now=l at hr;cases hr with
    | DC=>
     refine⟨_,Kd (H:=BH ⟨.leaf,9⟩ (MS m)) (b:=11) (ro:=false) (o1:= .cells [.bool true,.slice none 0 0] 0 false) (show 11 < 13 by decide) (Uk m) rfl,?_⟩;rw[Ty];have hE:Ad X0 10 Ag (fun v H=>v= .tuple ⟨[.slice none 0 0,.slice none 0 0]⟩/\[H.get 9,H.get 10,H.get 11,H.get 12]=[some (Dy m 10 11 12),some (Bi m.base),some (.cells [.bool true,.slice none 0 0] 0 false),some (.vec BL m.AJ false)]) (st Ag 23 [p9] (ZT m)):=by
      refine(BW.Fk (Bt (A6 X0) (ids:=[9,10,11,12]) (Q:=fun v os=>v= .tuple ⟨[.slice none 0 0,.slice none 0 0]⟩/\os=[some (Dy m 10 11 12),some (Bi m.base),some (.cells [.bool true,.slice none 0 0] 0 false),some (.vec BL m.AJ false)]) 600 _ ?_)).mono ?_
      ·rw[dB];exact⟨rfl,rfl,by unfold Dy AF;rfl⟩
      ·rintro v H ⟨rfl,h⟩;exact⟨rfl,h⟩
     refine Aq.shut (Q:=fun v H=>∃k1 k2,100<=k1/\100<=k2/\k1≠k2/\v= .tuple ⟨[CT k1 0,CT k2 0]⟩/\[H.get 9,H.get 10,H.get 11,H.get 12]=[some (Dy m 10 11 12),some (Bi m.base),some (.cells [.bool true,.slice none 0 0] 0 false),some (.vec BL m.AJ false)]/\H.get k1=some (.vec kS [] false)/\H.get k2=some (.vec kS [] false)) (hE.IC.tell ?_) ?_
     ·rintro v H ⟨rfl,h⟩;have n1:=H.Dx;have n2:=(H.CR kS).Dx;have n3:(H.CR kS).Br≠H.Br:=by
       have e1:(H.CR kS).Br=max (max H.next 100+1) 100:=rfl;have e2:H.Br=max H.next 100:=rfl;omega
      refine⟨.tuple ⟨[CT H.Br 0,CT (H.CR kS).Br 0]⟩,(H.CR kS).CR kS,fun base W0 μ W v' hT hv hH=>?_,_,_,n1,n2,Ne.symm n3,rfl,?_,?_,?_⟩
      ·obtain⟨μ2,a1,a2,a3⟩:=hH.ZK (k:=kS) (hT 9 ⟨Nat.le_refl 9,Nat.lt_succ_self 9⟩);obtain⟨T,hT9⟩:=hT 9 ⟨Nat.le_refl 9,Nat.lt_succ_self 9⟩;obtain⟨μ3,b1,b2,b3⟩:=a2.ZK (k:=kS) ⟨T,a1 9 T hT9⟩;refine⟨μ3,Ai.le_trans a1 b1,b2,?_⟩;cases hv with
       | tuple _ xs' hx ex=>
        refine .tuple _ _ hx fun i hi hi'=>?_
        have hs:xs'.size=2:=hx.symm;have e0:=ex 0 (by decide) (by omega);have e1:=ex 1 (by decide) (by omega)
        match i,hi,hi' with
        | 0,_,_=>
         have e0:AM μ (.slice none 0 0) xs'[0]:=e0;show AM μ3 (CT H.Br 0) xs'[0];generalize xs'[0]=w at e0;cases e0
         exact a3.mono b1
        | 1,_,_=>
         have e1:AM μ (.slice none 0 0) xs'[1]:=e1;show AM μ3 (CT (H.CR kS).Br 0) xs'[1];generalize xs'[1]=w at e1;cases e1
         exact b3
      ·simp only[List.cons.injEq,and_true]at h ⊢;obtain⟨g1,g2,g3,g4⟩:=h;refine⟨?_,?_,?_,?_⟩<;>rw[AA.CA,if_neg (by omega),AA.CA,if_neg (by omega)]<;>assumption
      ·rw[AA.CA,if_neg (Ne.symm n3),AA.CA,if_pos rfl]
      ·rw[AA.CA,if_pos rfl]
     ·rintro v H ⟨k1,k2,n1,n2,n3,rfl,h,g5,g6⟩;simp only[List.cons.injEq,and_true]at h;obtain⟨g1,g2,g3,g4⟩:=h;have s1:=B6 (s:= .table []) (bs:=[11]) (H:=H) (by simp);refine⟨DE (.table []) [11] H,eT (rs:=[9]) (o:= .cells [.bool true,.slice none 0 0] 0 false) .DC (hD9 _) ?_ g3 rfl rfl rfl (.refl _),10,11,12,k1,k2,by rw[hl];rfl,⟨by decide,?_,?_,?_,?_⟩,n3,?_,?_,by omega,by omega,?_,?_⟩
      ·rw[As g1 rfl];show 11∈Am H 0 199 [10,11,12] [9];rw[As g2 rfl];show 11∈Am H 0 198 [11,12] [9,10];rw[As g3 rfl];exact Bf H 0 _ _ _ 11 (by simp)
      ·rw[s1.C2 9 (by simp)];exact g1
      ·rw[s1.C2 10 (by simp)];exact g2
      ·rw[s1.root 11 rfl,hl];rfl
      ·rw[s1.C2 12 (by simp)];exact g4
      ·simp;omega
      ·simp;omega
      ·rw[s1.C2 k1 (by simp;omega),hl];exact g5
      ·rw[s1.C2 k2 (by simp;omega),hl];exact g6
    | table l=>
     subst hl;refine⟨_,Hn (H:=BH ⟨.leaf,9⟩ (MS m)) (b:=11) (ro:=false) (o1:=CS 13 m.now.length) (p1:= .vec AR m.now false) (show 11 < 13 by decide) (Uk m) rfl rfl,?_⟩;rw[Sk];refine Aq.shut (Ve m m.now hn).IC ?_;rintro v H ⟨rfl,g9,IB,g18,g19,g20,g21,g22⟩;have s1:=B6 (s:= .table m.now) (bs:=[19,10]) (H:=H) (by simp);have hR:∀y,y=19∨y=10->y∈Am H 0 200 [9] []:=by
      intro y hy;rw[As g9 rfl];show y∈Am H 0 199 [18,19,20] [9];rw[As g18 rfl];show y∈Am H 0 198 [19,20] [9,18];rw[As g19 rfl];show y∈Am H 0 197 [10,20] [9,18,19];rw[As IB rfl];exact Bf H 0 _ _ _ y (by rcases hy with rfl | rfl<;>simp)
     refine⟨DE (.table m.now) [19,10] H,OA (rs:=[9]) (.table m.now) (hD9 _) (hR 19 (.inl rfl)) (hR 10 (.inr rfl)) (by decide) g19 rfl rfl rfl IB rfl rfl rfl (.refl _),18,19,20,22,21,rfl,⟨by decide,?_,?_,?_,?_⟩,by decide,by decide,by decide,by decide,by decide,?_,?_⟩
     ·rw[s1.C2 9 (by simp)];exact g9
     ·rw[s1.C2 18 (by simp)];exact g18
     ·exact s1.root 19 rfl
     ·rw[s1.C2 20 (by simp)];exact g20
     ·rw[s1.C2 22 (by simp)];exact g22
     ·rw[s1.C2 21 (by simp)];exact g21
   ·rintro v H ⟨b,n,x,k1,k2,rfl,hM,hne,h1,h2,hk1,hk2,g1,g2⟩;obtain⟨H2,j1,j2,j3⟩:=QL (D:=fun b=>9<=b/\b < 9+1) (v:= .tuple ⟨[CT k1 m.now.length,CT k2 m.now.length]⟩) (.inr ⟨Nat.le_refl 9,Nat.lt_succ_self 9⟩) hM;refine⟨H2,j1,[k1,k2],by simp[hne],fun c hc=>by simp at hc;show 10<=c;omega,rfl,rfl,fun j c p hj hp=>?_,fun j o hj hm ho=>?_⟩
    ·cases j with
     | zero=>cases hj;cases hp;exact⟨_,rfl,by rw[j3 k1 h1];exact g1⟩
     | succ j=>cases j with
      | zero=>cases hj;cases hp;exact⟨_,rfl,by rw[j3 k2 h2];exact g2⟩
      | succ j=>cases j<;>cases hj
    ·cases j with
     | zero=>cases ho;exact⟨_,rfl,j2⟩
     | succ j=>exact absurd hj (by show ¬(j+1 < 1);omega)
  ·cases hx
 ·cases hx
theorem OU:∀a b:List UInt8,Op.bytesLess a b=true∨a=b∨Op.bytesLess b a=true:=by
 intro a;induction a with
 | nil=>intro b;cases b with
  | nil=>exact .inr (.inl rfl)
  | cons y b=>exact .inl rfl
 | cons x a ih=>
  intro b;cases b with
  | nil=>exact .inr (.inr rfl)
  | cons y b=>
   simp only[Op.bytesLess,Bool.or_eq_true,Bool.and_eq_true,decide_eq_true_eq,beq_iff_eq];rcases(show x < y∨x=y∨y < x by rcases Nat.lt_trichotomy x.toNat y.toNat with h | h | h;exact .inl (UInt8.lt_iff_toNat_lt.2 h);exact .inr (.inl (UInt8.toNat_inj.1 h));exact .inr (.inr (UInt8.lt_iff_toNat_lt.2 h)))with h | h | h
   ·exact .inl (.inl h)
   ·subst h;rcases ih b with h | h | h
    ·exact .inl (.inr ⟨rfl,h⟩)
    ·exact .inr (.inl (by rw[h]))
    ·exact .inr (.inr (.inr ⟨rfl,h⟩))
   ·exact .inr (.inr (.inl h))
theorem Ku {a b:ByteArray} (h:a.toList=b.toList):a=b:=by
 rw[ByteArray.toList_eq,ByteArray.toList_eq]at h;obtain⟨⟨a⟩⟩:=a;obtain⟨⟨b⟩⟩:=b;simp only at h;rw[h]
theorem J0 (a:ByteArray):HG a a=false:=LD _
theorem PB {a b:ByteArray} (h:HG a b=true):HG b a=false:=by
 cases h2:HG b a
 ·rfl
 ·have:=LG h h2;rw[J0]at this;cases this
theorem cS (a b:ByteArray):HG a b=true∨a=b∨HG b a=true:=by
 rcases OU a.toList b.toList with h | h | h
 ·exact .inl h
 ·exact .inr (.inl (Ku h))
 ·exact .inr (.inr h)
theorem QU {a b:ByteArray} (h:HG a b=true):(a.toList==b.toList)=false:=by
 cases h2:a.toList==b.toList
 ·rfl
 ·have:=Ku (eq_of_beq h2);subst this;rw[J0]at h;cases h
theorem H6 (x:EK.C AR) (l:List (EK.C AR)) (k:ByteArray):AS (x::l) k=if HG x.1 k then AS l k+1 else 0:=by
 unfold AS;rw[List.takeWhile_cons];split<;>rfl
inductive YG (k:ByteArray):List (EK.C AR)->Prop where
 | has (a b:List (EK.C AR)) (v:ByteArray) (ha:∀x∈a,HG x.1 k=true) (hb:∀x∈b,HG k x.1=true) (hr:AS (a++(k,v)::b) k=a.length):YG k (a++(k,v)::b)
 | none (a b:List (EK.C AR)) (ha:∀x∈a,HG x.1 k=true) (hb:∀x∈b,HG k x.1=true) (hr:AS (a++b) k=a.length):YG k (a++b)
theorem parts (k:ByteArray):∀l:List (EK.C AR),A5 l->YG k l:=by
 intro l;induction l with
 | nil=>intro _;exact .none [] [] (fun x hx=>by cases hx) (fun x hx=>by cases hx) rfl
 | cons x l ih=>
  intro hs;have hs':=List.pairwise_cons.1 hs;cases hx:HG x.1 k
  ·rcases cS x.1 k with h | h | h
   ·rw[hx]at h;cases h
   ·obtain⟨x1,x2⟩:=x;simp only at h;subst h;exact .has [] l x2 (fun x hx=>by cases hx) (fun y hy=>hs'.1 y hy) (by rw[List.nil_append,H6,if_neg (by rw[hx];simp)];rfl)
   ·refine .none [] (x::l) (fun x hx=>by cases hx) (fun y hy=>?_) (by rw[List.nil_append,H6,if_neg (by rw[hx];simp)];rfl);rcases List.mem_cons.1 hy with rfl | hy
    ·exact h
    ·exact LG h (hs'.1 y hy)
  ·cases ih hs'.2 with
   | has a b v ha hb hr=>
    refine .has (x::a) b v (fun y hy=>?_) hb (by rw[List.cons_append,H6,if_pos hx,hr];rfl);rcases List.mem_cons.1 hy with rfl | hy
    ·exact hx
    ·exact ha y hy
   | none a b ha hb hr=>
    refine .none (x::a) b (fun y hy=>?_) hb (by rw[List.cons_append,H6,if_pos hx,hr];rfl);rcases List.mem_cons.1 hy with rfl | hy
    ·exact hx
    ·exact ha y hy
theorem NW (a b:List (EK.C AR)) (x:EK.C AR):(a++x::b).getD a.length (EK.AZ AR)=x:=by
 rw[List.getD_eq_getElem?_getD,List.getElem?_append_right (Nat.le_refl _),Nat.sub_self];rfl
theorem LW {k:ByteArray} {a b:List (EK.C AR)} (ha:∀x∈a,HG x.1 k=true) (hb:∀x∈b,HG k x.1=true):E3 (a++b) k=a/\D7 (a++b) k=b:=by
 have e1:E3 a k=a:=List.filter_eq_self.2 fun x hx=>ha x hx
 have e2:E3 b k=[]:=List.filter_eq_nil_iff.2 fun x hx=>by
  have:=PB (hb x hx);unfold HG at this;rw[this];simp
 have e3:D7 a k=[]:=List.filter_eq_nil_iff.2 fun x hx=>by
  have h1:=ha x hx;unfold HG at h1;unfold Zm;rw[h1];simp
 have e4:D7 b k=b:=List.filter_eq_self.2 fun x hx=>by
  have h1:=PB (hb x hx);have h2:=QU (hb x hx);unfold HG at h1;have h3:(ByteArray.toList x.1==ByteArray.toList k)=false:=by
   cases h:ByteArray.toList x.1==ByteArray.toList k
   ·rfl
   ·rw[beq_iff_eq]at h;rw[h]at h2;simp at h2
  unfold Zm;rw[h1,h3];rfl
 constructor
 ·unfold E3 at *;rw[List.filter_append,e1,e2,List.append_nil]
 ·unfold D7 at *;rw[List.filter_append,e3,e4,List.nil_append]
theorem XL (k v:ByteArray):Zm ((k,v):EK.C AR).1 k=false:=by
 unfold Zm;simp
theorem Ur {k v:ByteArray} {a b:List (EK.C AR)} (ha:∀x∈a,HG x.1 k=true) (hb:∀x∈b,HG k x.1=true):E3 (a++(k,v)::b) k=a/\D7 (a++(k,v)::b) k=b:=by
 obtain⟨h1,h2⟩:=LW ha hb;have hk:HG k k=false:=J0 k;unfold HG at hk;constructor
 ·conv=>rhs;rw[<-h1]
  unfold E3;rw[List.filter_append,List.filter_append,List.filter_cons_of_neg (by show ¬Op.bytesLess (ByteArray.toList k) (ByteArray.toList k)=true;rw[hk];simp)]
 ·conv=>rhs;rw[<-h2]
  unfold D7;rw[List.filter_append,List.filter_append,List.filter_cons_of_neg (by rw[XL k v];simp)]
theorem LL {k v:ByteArray} {a b:List (EK.C AR)} (hr:AS (a++(k,v)::b) k=a.length):DZ (a++(k,v)::b) k=some v:=by
 unfold DZ;rw[hr,NW,if_pos ⟨by simp,by simp⟩]
theorem JJ {k:ByteArray} {a b:List (EK.C AR)} (hb:∀x∈b,HG k x.1=true) (hr:AS (a++b) k=a.length):DZ (a++b) k=none:=by
 unfold DZ;rw[hr,if_neg];rintro⟨h1,h2⟩;cases b with
 | nil=>simp at h1
 | cons y b=>
  rw[NW]at h2;have:=QU (hb y (by simp));rw[beq_iff_eq]at h2;rw[h2]at this;simp at this
theorem Nt {l:List (EK.C AR)} (hs:A5 l) (k:ByteArray):C5 l k=DZ l k:=by
 have hf:∀a b:List (EK.C AR),(∀x∈a,HG x.1 k=true)->(a++b).find? (fun x=>ByteArray.toList x.1==ByteArray.toList k)=b.find? (fun x=>ByteArray.toList x.1==ByteArray.toList k):=by
  intro a b ha;rw[List.find?_append,List.find?_eq_none.2 (fun x hx=>by rw[QU (ha x hx)];simp)];rfl
 cases parts k l hs with
 | has a b v ha hb hr=>
  rw[LL hr];unfold C5;rw[hf a _ ha,List.find?_cons_of_pos (by simp)];rfl
 | none a b ha hb hr=>
  rw[JJ hb hr];unfold C5;rw[hf a _ ha,List.find?_eq_none.2 (fun x hx=>?_)]
  ·rfl
  ·have h2:=QU (hb x hx);intro h;rw[beq_iff_eq]at h;rw[h]at h2;simp at h2
theorem Dc (a b:List (EK.C AR)):BG (a++b)=BG a+BG b:=by
 unfold BG;rw[List.map_append,List.sum_append]
theorem FR (x:EK.C AR) (b:List (EK.C AR)):BG (x::b)=Cm x+BG b:=by
 unfold BG;rw[List.map_cons,List.sum_cons]
theorem JE {l:List (EK.C AR)} (hs:A5 l) (k v:ByteArray):Ez l k v=Ar l 1 k v/\A5 (Ar l 1 k v)/\(Ar l 1 k v).length<=l.length+1/\(∀x∈Ar l 1 k v,x∈l∨x=(k,v))/\
 BG (Ar l 1 k v)=(match DZ l k with | some o=>BG l - Cm (k,o) | none=>BG l)+Cm (k,v):=by
 have hso:∀a b:List (EK.C AR),A5 (a++b)->(∀x∈a,HG x.1 k=true)->(∀x∈b,HG k x.1=true)->A5 (a++(k,v)::b):=by
  intro a b h ha hb;obtain⟨h1,h2,h3⟩:=List.pairwise_append.1 h;refine List.pairwise_append.2 ⟨h1,List.pairwise_cons.2 ⟨hb,h2⟩,fun x hx y hy=>?_⟩;rcases List.mem_cons.1 hy with rfl | hy
  ·exact ha x hx
  ·exact h3 x hx y hy
 cases parts k l hs with
 | has a b w ha hb hr=>
  obtain⟨e1,e2⟩:=Ur (v:=w) ha hb;have hw:Ar (a++(k,w)::b) 1 k v=a++(k,v)::b:=by
   unfold Ar;rw[e1,e2]
   show(a++[(k,v)])++b=_;rw[List.append_assoc];rfl
  have hab:A5 (a++b):=by
   obtain⟨h1,h2,h3⟩:=List.pairwise_append.1 hs;exact List.pairwise_append.2 ⟨h1,(List.pairwise_cons.1 h2).2,fun x hx y hy=>h3 x hx y (by simp[hy])⟩
  rw[hw];refine⟨?_,hso a b hab ha hb,by simp,fun x hx=>?_,?_⟩
  ·unfold Ez;rw[LL hr,hr,NW];simp only;rw[List.set_append_right _ _ (Nat.le_refl _),Nat.sub_self];rfl
  ·simp only[List.mem_append,List.mem_cons]at hx ⊢;rcases hx with h | h | h
   ·exact .inl (.inl h)
   ·exact .inr h
   ·exact .inl (.inr (.inr h))
  ·rw[LL hr];simp only;rw[Dc,Dc,FR,FR];omega
 | none a b ha hb hr=>
  obtain⟨e1,e2⟩:=LW ha hb;have hw:Ar (a++b) 1 k v=a++(k,v)::b:=by
   unfold Ar;rw[e1,e2]
   show(a++[(k,v)])++b=_;rw[List.append_assoc];rfl
  rw[hw];refine⟨?_,hso a b hs ha hb,by simp only[List.length_append,List.length_cons];omega,fun x hx=>?_,?_⟩
  ·unfold Ez;rw[JJ hb hr,hr];simp only;rw[List.take_left,List.drop_left];rfl
  ·simp only[List.mem_append,List.mem_cons]at hx ⊢;rcases hx with h | h | h
   ·exact .inl (.inl h)
   ·exact .inr h
   ·exact .inl (.inr h)
  ·rw[JJ hb hr];simp only;rw[Dc,Dc,FR];omega
theorem JP {l:List (EK.C AR)} (hs:A5 l) (k v:ByteArray):E4 l k=Ar l 3 k v/\A5 (Ar l 3 k v)/\(Ar l 3 k v).length<=l.length/\(∀x∈Ar l 3 k v,x∈l)/\
 BG (Ar l 3 k v)=(match DZ l k with | some o=>BG l - Cm (k,o) | none=>BG l):=by
 cases parts k l hs with
 | has a b w ha hb hr=>
  obtain⟨e1,e2⟩:=Ur (v:=w) ha hb;have hw:Ar (a++(k,w)::b) 3 k v=a++b:=by unfold Ar;rw[e1,e2];rfl
  rw[hw];refine⟨?_,?_,by simp,fun x hx=>?_,?_⟩
  ·unfold E4;rw[LL hr,hr];simp only;rw[List.take_left,<-List.drop_drop,List.drop_left];rfl
  ·obtain⟨h1,h2,h3⟩:=List.pairwise_append.1 hs;exact List.pairwise_append.2 ⟨h1,(List.pairwise_cons.1 h2).2,fun x hx y hy=>h3 x hx y (by simp[hy])⟩
  ·simp only[List.mem_append,List.mem_cons]at hx ⊢;rcases hx with h | h
   ·exact .inl h
   ·exact .inr (.inr h)
  ·rw[LL hr];simp only;rw[Dc,Dc,FR];omega
 | none a b ha hb hr=>
  obtain⟨e1,e2⟩:=LW ha hb;have hw:Ar (a++b) 3 k v=a++b:=by unfold Ar;rw[e1,e2];rfl
  rw[hw];refine⟨?_,hs,Nat.le_refl _,fun x hx=>hx,?_⟩
  ·unfold E4;rw[JJ hb hr]
  ·rw[JJ hb hr]
theorem Sj {f:FuncId} {n:Nat} (he:entry Tryz.prog f=some (n,BI Tryz.prog f [])) {q:DF}
 (hF:∀args,q.ok args->args.all flat=true/\args.length<=n/\flat (q.v args)=true/\∃fs,A4 Tryz.prog B4 fs/\Ad (Cx Tryz.prog B4 fs) 20 f (fun v' _=>v'=q.v args) (st f n args (Gi B4 20))):C3 Tryz.prog B4 f q.F:=by
 refine⟨⟨n,_,he⟩,?_⟩;intro base W0 μ H W args args' v H' hW hH hl ha hFv;unfold DF.F at hFv;split at hFv
 ·rename_i hq;cases hFv
  obtain⟨h1,h2,h3,fs,hfs,h4⟩:=hF args hq;have hW1:Ds (Cx Tryz.prog B4 fs) (base.at W) W:=by
   have:=hW.carry hH;unfold Ds at this ⊢;exact this
  obtain⟨s1,s2⟩:=NT (X:=Cx Tryz.prog B4 fs) hW1 (none_le _) (fun _ hi=>hi) (n:=20) (OD (by kernel_rfl));have hargs:args'.toList=args:=G9 args _ h1 ha;intro cs;obtain⟨c',⟨v2,Hf,hd,rfl⟩,μ1,fr1,cs1,W1,st,m1⟩:=h4 (base.at W) W (fun b T hb=>by cases hb) (hfs.Ep _ _ hW1) (GA (by kernel_rfl) rfl) cs _ _ [] W (GB s1 s2 he (by rw[hargs];exact ES args h1) h2);obtain⟨rfl,hf,v',e1,e2,e3⟩:=HA m1 hd;have hs':Steps (Cx Tryz.prog B4 fs).P (lone (Frame.enter (Cx Tryz.prog B4 fs).P f args' .normal) cs W) (lone fr1 cs W1):=by simpa using st
  refine⟨.returned v',W1,fr1,⟨v',μ,rfl,hH.carry (F0 e2) e2.below e2.out e2.os,?_,Ak.refl _ _⟩,hs',hf,e1⟩;rw[FL h3 e3];exact Cp h3
 ·cases hFv
def RR:ByteArray:={ data:=#[48,49,50,51,52,53,54,55,56,57,97,98,99,100,101,102] }
def gZ (i:Nat):ByteArray:=⟨(([[97],[98],[99],[97,98],[107,49]]:List (List UInt8)).getD i []).toArray⟩
def Ww (val:Int):ByteArray:=ByteArray.extract RR 0 (Int.toNat (Int.tmod val 17))
def Pl (s:ByteArray) (kind val:Int) (Q:Value->List (Option AK)->Prop):Prop:=
 (bif decide (Int.tmod kind 8 < 4)then
  (bif decide (0<=Int.tmod val 17)&&Nat.ble (Int.toNat (Int.tmod val 17)) (ByteArray.size RR)&&decide ((0:Int)<=0)&&Nat.ble 0 (Int.toNat (Int.tmod val 17))then
   (Q (E2 1 0 0 s (Ww val)) [])
  else False)
 else
  (bif decide (Int.tmod kind 8 < 6)then(Q (E2 3 0 0 s { data:=#[] }) [])
  else
   (bif Int.tmod kind 8==6 then(Q (E2 4 0 0 { data:=#[] } { data:=#[] }) [])
   else(Q (E2 2 0 0 s { data:=#[] }) []))))
theorem gD (kind val:Int) (Q:Value->List (Option AK)->Prop):(List.range 256).map (fun key=>Ex X0 C4 BE [] Q 300 (st BE 35 [.agg ⟨[.int .u8 kind,.int .u8 (Int.ofNat key),.int .u8 val]⟩] (Gi AL 20)))=(List.range 256).map (fun key=>Pl (gZ (key % 5)) kind val Q):=by kernel_rfl
def aK (kind:Int):Int:=bif decide (Int.tmod kind 8 < 4)then 1 else bif decide (Int.tmod kind 8 < 6)then 3 else bif Int.tmod kind 8==6 then 4 else 2
def aS (kind key:Int):ByteArray:=bif aK kind==4 then { data:=#[] } else gZ (key.toNat % 5)
def aV (kind val:Int):ByteArray:=bif aK kind==1 then Ww val else { data:=#[] }
def DJ (x:Int):Prop:=0<=x/\x < 256
def qOp:DF where
 ok:=fun args=>match args with
  | [.agg ⟨[.int .u8 kind,.int .u8 key,.int .u8 val]⟩]=>DJ kind/\DJ key/\DJ val
  | _=>False
 v:=fun args=>match args with
  | [.agg ⟨[.int .u8 kind,.int .u8 key,.int .u8 val]⟩]=>E2 (aK kind) 0 0 (aS kind key) (aV kind val)
  | _=>Bn
def jt:EB:=fun args H K=>match args with
 | [.agg ⟨[.int .u8 kind,.int .u8 key,.int .u8 val]⟩]=>(DJ kind/\DJ key/\DJ val)/\K (.agg ⟨[.int .i64 (aK kind),.int .i64 0,.int .i64 0,.string (aS kind key),.string (aV kind val)]⟩) H
 | _=>False
theorem gH {X:Ctx} {f:FuncId} (hX:X.Ep f=some qOp.F) (args:List Value) (H:AA) (K:Value->AA->Prop) (h:jt args H K):∃v H',Bd X f args .normal H=some (v,H')/\K v H':=by
 unfold jt at h;split at h
 ·exact DF.al (q:=qOp) hX _ H K ⟨h.1,h.2⟩
 ·exact h.elim
theorem eg {val:Int} (h:DJ val):0<=Int.tmod val 17/\Int.tmod val 17 < 17:=by
 obtain⟨h1,_⟩:=h;rw[Int.tmod_eq_emod_of_nonneg h1];exact⟨Int.emod_nonneg _ (by decide),Int.emod_lt_of_pos _ (by decide)⟩
theorem bS {kind key val:Int} (hv:DJ val):Pl (gZ (key.toNat % 5)) kind val (fun v _=>v=E2 (aK kind) 0 0 (aS kind key) (aV kind val)):=by
 obtain⟨h1,h2⟩:=eg hv;have hb:(decide (0<=Int.tmod val 17)&&Nat.ble (Int.toNat (Int.tmod val 17)) (ByteArray.size RR)&&decide ((0:Int)<=0)&&Nat.ble 0 (Int.toNat (Int.tmod val 17)))=true:=by
  have e1:ByteArray.size RR=16:=rfl;rw[e1,decide_eq_true h1,Nat.ble_eq_true_of_le (by omega),Nat.ble_eq_true_of_le (Nat.zero_le _)];rfl
 unfold Pl aV aS aK;rw[hb];cases decide (Int.tmod kind 8 < 4)
 ·cases decide (Int.tmod kind 8 < 6)
  ·cases Int.tmod kind 8==6<;>rfl
  ·rfl
 ·rfl
theorem br {kind key val:Int} (h2:DJ key) (h3:DJ val):BW X0 BE (fun v _=>v=E2 (aK kind) 0 0 (aS kind key) (aV kind val)) (st BE 35 [.agg ⟨[.int .u8 kind,.int .u8 key,.int .u8 val]⟩] (Gi AL 20)):=by
 refine Bt (A6 X0) (ids:=[]) (Q:=fun v _=>v=E2 (aK kind) 0 0 (aS kind key) (aV kind val)) 300 _ ?_;obtain⟨k,rfl⟩:=Int.eq_ofNat_of_zero_le h2.1;have hk:k < 256:=by have:=h2.2;omega
 have h:=List.map_inj_left.1 (gD kind val (fun v _=>v=E2 (aK kind) 0 0 (aS kind (k:Int)) (aV kind val))) k (List.mem_range.2 hk);have h:Ex X0 C4 BE [] (fun v _=>v=E2 (aK kind) 0 0 (aS kind (k:Int)) (aV kind val)) 300 (st BE 35 [.agg ⟨[.int .u8 kind,.int .u8 (k:Int),.int .u8 val]⟩] (Gi AL 20))=Pl (gZ (k % 5)) kind val (fun v _=>v=E2 (aK kind) 0 0 (aS kind (k:Int)) (aV kind val)):=h;rw[h];have:=bS (kind:=kind) (key:=(k:Int)) (val:=val) h3
 rwa [Int.toNat_natCast]at this
theorem Xw:C3 Tryz.prog AL BE qOp.F:=by
 refine Sj (n:=35) (by kernel_rfl) fun args h=>?_
 unfold qOp at h;simp only at h;split at h
 ·rename_i kind key val;refine⟨rfl,by simp,rfl,[],A4.nil _ _,?_⟩;exact(br h.2.1 h.2.2).Fk
 ·exact h.elim
def OE (cfg:List Int) (m y n:Nat):List Value:=
 [.pointer (some ⟨m,0,none⟩),.int .i64 (cfg.getD 0 0),.int .i64 (cfg.getD 1 0),.int .i64 (cfg.getD 2 0),.int .i64 (cfg.getD 3 0),.int .i64 (cfg.getD 4 0),.int .i64 (cfg.getD 5 0),.int .i64 (cfg.getD 6 0),.slice (some ⟨y,0,some 0⟩) n AF]
def Iq (x:Value) (p:EB):EB:=fun args H K=>match args with
 | a::r=>a=x/\p (x::r) H K
 | []=>False
def C9:CP:=⟨fun _ rest=>rest=[],fun m _=> .int .i64 m.cost,fun m _=>m⟩
def ET:CP:=⟨fun _ rest=>rest=[],fun m _=> .int .i64 m.AJ.length,fun m _=>m⟩
theorem X8 (m:AB) (Q:Value->List (Option AK)->Prop):Ex XM VV CH [9,10,11,12] Q 100 (st CH 10 [p9] (BH ⟨.leaf,9⟩ (MS m)))=(
 (Q (.int .i64 (AB.cost m)) [some (.cells [(.int .i64 (List.getD (AB.cfg m) 0 0)),(.int .i64 (List.getD (AB.cfg m) 1 0)),(.int .i64 (List.getD (AB.cfg m) 2 0)),(.int .i64 (List.getD (AB.cfg m) 3 0)),(.int .i64 (List.getD (AB.cfg m) 4 0)),(.int .i64 (List.getD (AB.cfg m) 5 0)),(.int .i64 (List.getD (AB.cfg m) 6 0)),(.int .i64 (AB.AN m)),(.pointer (some ⟨10,0,none⟩)),(.pointer (some ⟨11,0,none⟩)),(.int .i64 (AB.cost m)),(.slice (some ⟨12,0,(some 0)⟩) (List.length (AB.AJ m)) 18446744073709551616),(.pointer none),(.int .i64 (AB.state m)),(.bool (AB.AG m))] 0 false),some (.abs (Ab.pack (Pk.table (AB.base m))) false),some (.abs (Ab.pack (Pk.table (AB.now m))) false),some (.vec BL (AB.AJ m) false)])):=by kernel_rfl
theorem bD (m:AB) (Q:Value->List (Option AK)->Prop):Ex XM VV Bo [9,10,11,12] Q 100 (st Bo 11 [p9] (BH ⟨.leaf,9⟩ (MS m)))=(
 (Q (.int .i64 (Int.ofNat (List.length (AB.AJ m)))) [some (.cells [(.int .i64 (List.getD (AB.cfg m) 0 0)),(.int .i64 (List.getD (AB.cfg m) 1 0)),(.int .i64 (List.getD (AB.cfg m) 2 0)),(.int .i64 (List.getD (AB.cfg m) 3 0)),(.int .i64 (List.getD (AB.cfg m) 4 0)),(.int .i64 (List.getD (AB.cfg m) 5 0)),(.int .i64 (List.getD (AB.cfg m) 6 0)),(.int .i64 (AB.AN m)),(.pointer (some ⟨10,0,none⟩)),(.pointer (some ⟨11,0,none⟩)),(.int .i64 (AB.cost m)),(.slice (some ⟨12,0,(some 0)⟩) (List.length (AB.AJ m)) 18446744073709551616),(.pointer none),(.int .i64 (AB.state m)),(.bool (AB.AG m))] 0 false),some (.abs (Ab.pack (Pk.table (AB.base m))) false),some (.abs (Ab.pack (Pk.table (AB.now m))) false),some (.vec BL (AB.AJ m) false)])):=by kernel_rfl
def Gh (m:AB) (k a b:Int) (key val:ByteArray) (e:Int) (sv:ByteArray):Prop:=m.cfg.length=7/\m.state=0/\m.AG=false/\Fe k a b key val/\A5 m.now/\m.now.length < 900000/\m.AJ.length < 1000000/\((k==7)=true->(e==0&&(ByteArray.toList sv==ByteArray.toList { data:=#[] }&&true))=false)
def ED (m:AB) (k a b:Int) (key val:ByteArray) (e:Int) (sv:ByteArray):AB:=(OV m k a b key val e sv).getD m
def jY (m:AB) (k a b:Int) (key val:ByteArray) (e:Int) (sv:ByteArray):Bool:=(OV m k a b key val e sv).isSome
def IN (m:AB) (k a b:Int) (key val:ByteArray) (e:Int) (sv:ByteArray):Int:=bif jY m k a b key val e sv then 0 else 7
def gN (args:List Value) (objs:List AK):GT:=
 match args,objs with
 | [.pointer (some ⟨9,0,none⟩),.agg ⟨[.int .i64 k,.int .i64 a,.int .i64 b,.string key,.string val]⟩,.agg ⟨[.int .i64 e,.string sv]⟩],[.abs (.pack (.model m)) _]=>
  .ask (Gh m k a b key val e sv) (.ret ⟨.int .i64 (IN m k a b key val e sv),[some (.abs (.pack (.model (ED m k a b key val e sv))) false)],[]⟩)
 | _,_=> .fail
def Z5 (k:Int) (s v:ByteArray):EB:=fun args H K=>match args with
 | [.agg ⟨[.int .u8 kind,.int .u8 key,.int .u8 val]⟩]=>((DJ kind/\DJ key/\DJ val)/\aK kind=k/\aS kind key=s/\aV kind val=v)/\K (E2 k 0 0 s v) H
 | _=>False
def Rj:Stop:=⟨AO,0,3,13,[9,10,11,12],[0,5,8,9,10]⟩
def Cg (s:Int):List Int:=[4+s,100,2,200,8,16,1]
structure Fl (cfg:List Int) (m:AB) (n:Nat) (cur:List (EK.C AR)) (i:Nat):Prop where
 s:∃s:Int,0<=s/\s<=7/\cfg=Cg s/\m.cfg=Cg s/\m.AN=42 * s
 now:m.now=cur
 sorted:A5 cur
 cost:m.cost=BG cur
 AJ:m.AJ.length=n
 st:m.state=0
 pl:m.AG=false
 len:cur.length<=i
 Iu:n<=i
 cI:m.base.length<=i
 small:∀x∈cur,x.1.size<=16/\x.2.size<=16
 le:i<=1000
theorem F5 (x:EK.C AR):16<=Cm x:=by unfold Cm;omega
theorem Gk {k v:ByteArray} (h1:k.size<=16) (h2:v.size<=16):Cm ((k,v):EK.C AR)<=48:=by
 show 16+(k.size:Int)+(v.size:Int)<=48;omega
theorem Pg {k v:ByteArray} (h1:k.size<=16) (h2:v.size<=16):recC k v=Cm ((k,v):EK.C AR):=by
 unfold recC;rw[Gq (x:=16+(k.size:Int)) (by omega) (by omega),Gq (by omega) (by omega)];rfl
theorem LI:∀(l:List (EK.C AR)),(∀x∈l,x.1.size<=16/\x.2.size<=16)->0<=BG l/\BG l<=48 * l.length
 | [],_=>by simp[BG]
 | x::l,h=>by
  have h1:=LI l (fun y hy=>h y (by simp[hy]));have h2:=h x (by simp);have h3:=F5 x;have h4:=Gk (k:=x.1) (v:=x.2) h2.1 h2.2;rw[FR];simp only[List.length_cons];have h5:Cm x<=48:=h4;omega
theorem Ou {l:List (EK.C AR)} (h:∀x∈l,x.1.size<=16/\x.2.size<=16) (hl:l.length<=2000):Dz l:=⟨by omega,fun x hx=>by have:=h x hx;omega⟩
theorem UL {l:List (EK.C AR)} (hs:A5 l) {k o:ByteArray} (h:DZ l k=some o):(k,o)∈l:=by
 cases parts k l hs with
 | has a b v ha hb hr=>
  rw[LL hr]at h;cases h;simp
 | none a b ha hb hr=>rw[JJ hb hr]at h;cases h
section
variable {cfg:List Int} {m:AB} {n i:Nat} {cur:List (EK.C AR)}
theorem Od (h:Fl cfg m n cur i) {s v:ByteArray} (hs:s.size<=16) (hv:v.size<=16):EU m false s v=BG (Ar cur 1 s v):=by
 obtain⟨_,_,_,_,e⟩:=JE h.sorted s v;have hb:=LI cur h.small;have hl:=h.len;have hle:=h.le;have hp:=Gk hs hv;have hp2:=F5 ((s,v):EK.C AR);unfold EU;rw[h.now,h.cost,e,Pg hs hv];cases ha:DZ cur s with
 | none=>
  simp only[Option.isSome_none,cond_false];exact wrap64 (by omega) (by omega)
 | some o=>
  have hm:=h.small _ (UL h.sorted ha);simp only at hm;have hp3:=Gk hm.1 hm.2;have hp4:=F5 ((s,o):EK.C AR);simp only[Option.isSome_some,cond_true,cond_false,Option.getD_some];rw[Pg hm.1 hm.2,wrap64 (x:=BG cur - Cm ((s,o):EK.C AR)) (by omega) (by omega),wrap64 (by omega) (by omega)]
theorem WB (h:Fl cfg m n cur i) {s v:ByteArray}:EU m true s v=BG (Ar cur 3 s v):=by
 obtain⟨_,_,_,_,e⟩:=JP h.sorted s v;have hb:=LI cur h.small;have hl:=h.len;have hle:=h.le;unfold EU;rw[h.now,h.cost,e];cases ha:DZ cur s with
 | none=>rfl
 | some o=>
  have hm:=h.small _ (UL h.sorted ha);simp only at hm;have hp3:=Gk hm.1 hm.2;have hp4:=F5 ((s,o):EK.C AR);simp only[Option.isSome_some,cond_true,Option.getD_some];rw[Pg hm.1 hm.2,wrap64 (by omega) (by omega)]
def Ij (cfg:List Int) (cur:List (EK.C AR)) (s v:ByteArray):Bool:=decide (BG (Ar cur 1 s v) > IntKind.wrap .i64 (Int.tdiv (IntKind.wrap .i64 (IntKind.wrap .i64 (IntKind.wrap .i64 (List.getD cfg 0 0 - List.getD cfg 2 0) - 2) * 84)) 2))
theorem Yc {s:Int} (h0:0<=s) (h7:s<=7):IntKind.wrap .i64 (Int.tdiv (IntKind.wrap .i64 (IntKind.wrap .i64 (IntKind.wrap .i64 (List.getD (Cg s) 0 0 - List.getD (Cg s) 2 0) - 2) * 84)) 2)=42 * s:=by
 have e1:List.getD (Cg s) 0 0=4+s:=rfl;have e2:List.getD (Cg s) 2 0=2:=rfl;rw[e1,e2,wrap64 (x:=4+s - 2) (by omega) (by omega),wrap64 (x:=4+s - 2 - 2) (by omega) (by omega),wrap64 (x:=(4+s - 2 - 2) * 84) (by omega) (by omega),Int.tdiv_eq_ediv_of_nonneg (by omega),wrap64 (by omega) (by omega)];omega
theorem KJ (h:Fl cfg m n cur i) {k:Int} {s v:ByteArray} (hs:s.size<=8) (hv:v.size<=16):CI m k s v=
 bif k==1 then(bif Ij cfg cur s v then(4,e0,false)else(0,e0,true))else bif k==2 then(bif (C5 cur s).isSome then(0,(C5 cur s).getD e0,false)else(5,e0,false))else bif k==3 then(0,e0,(C5 cur s).isSome)else(0,e0,false):=by
 obtain⟨s6,h0,h7,hc,hmc,hml⟩:=h.s;have b1:VA m s=false:=by
  unfold VA;rw[hmc];exact decide_eq_false (by show ¬((s.size:Int) > 8);omega)
 have b2:cv m v=false:=by
  unfold cv;rw[hmc];exact decide_eq_false (by show ¬((v.size:Int) > 16);omega)
 have b3:Uj m s v=Ij cfg cur s v:=by
  unfold Uj Ij;rw[Od h (by omega) hv,hml,hc,Yc h0 h7]
 have b4:Yy m s=(C5 cur s).isSome:=by
  unfold Yy;rw[h.now,Nt h.sorted]
 unfold CI;rw[b1,b2,b3,b4,h.now,Nt h.sorted];simp only[Bool.or_self,cond_false];cases k==1
 ·cases k==2
  ·cases k==3
   ·rfl
   ·cases (DZ cur s).isSome<;>rfl
  ·cases hk:DZ cur s<;>rfl
 ·rfl
theorem MH {k:Int} {s v:ByteArray} (hc:EL k 0 0 s v) (h7:(k==7)=false) {e we:Int} {wv:ByteArray} {u:Bool} (ha:CI m k s v=(we,wv,u)) (he:e≠11) (hne:(!(e==we&&(ByteArray.toList { data:=#[] }==ByteArray.toList wv&&true)))=true):
 IN m k 0 0 s v e { data:=#[] }=7:=by
 have hE:I2 { data:=#[] }=true:=by simp[I2]
 unfold IN jY OV;rw[Em hc,h7,ha,hE];have e11:(e==11)=false:=by simpa using he
 simp only[e11,hne,Bool.true_and,cond_true];cases u<;>cases e==13<;>rfl
theorem MP {k:Int} {s v:ByteArray} (hc:EL k 0 0 s v) (h7:(k==7)=false) {we:Int} {wv:ByteArray} {u:Bool} (ha:CI m k s v=(we,wv,u)):IN m k 0 0 s v 11 { data:=#[] }=bif u then 0 else 7:=by
 have hE:I2 { data:=#[] }=true:=by simp[I2]
 unfold IN jY OV;rw[Em hc,h7,ha,hE];cases u<;>rfl
theorem JI {k:Int} {s v:ByteArray} (hc:EL k 0 0 s v) (h7:(k==7)=false) {we:Int} {wv:ByteArray} {u:Bool} (ha:CI m k s v=(we,wv,u)) (h11:(we==11)=false) (h13:(we==13)=false):
 IN m k 0 0 s v we wv=0/\ED m k 0 0 s v we wv=JW k (bif u then CB m (k==3) s v else m):=by
 unfold IN jY ED OV;rw[Em hc,h7,ha];simp only[h11,h13,Bool.and_false,cond_false,beq_self_eq_true,Bool.and_self,Bool.not_true];cases u<;>exact⟨rfl,rfl⟩
theorem ZJ (h:Fl cfg m n cur i) {j:Nat} (hij:i<=j) (hj:j<=1000):Fl cfg m n cur j:=
 ⟨h.s,h.now,h.sorted,h.cost,h.AJ,h.st,h.pl,Nat.le_trans h.len hij,Nat.le_trans h.Iu hij,Nat.le_trans h.cI hij,h.small,hj⟩
theorem ab (h:Fl cfg m n cur i) {s v:ByteArray} (hs:s.size<=8) (hv:v.size<=16) (hi:i < 1000):Fl cfg (CB m false s v) (n+1) (Ar cur 1 s v) (i+1):=by
 obtain⟨e1,e2,e3,e4,e5⟩:=JE h.sorted s v;have hl:=h.len;have hnl:=h.Iu;have hbl:=h.cI;refine⟨h.s,?_,e2,Od h (by omega) hv,?_,h.st,h.pl,by omega,by omega,by show m.base.length<=i+1;omega,fun x hx=>?_,by omega⟩
 ·show Ez m.now s v=_;rw[h.now,e1]
 ·show(m.AJ++[(false,s,v)]).length=_;rw[List.length_append,h.AJ];rfl
 ·rcases e4 x hx with hx | rfl
  ·exact h.small x hx
  ·exact⟨show s.size<=16 by omega,hv⟩
theorem bH (h:Fl cfg m n cur i) {s v:ByteArray} (hi:i < 1000):Fl cfg (CB m true s v) (n+1) (Ar cur 3 s v) (i+1):=by
 obtain⟨e1,e2,e3,e4,e5⟩:=JP h.sorted s v;have hl:=h.len;have hnl:=h.Iu;have hbl:=h.cI;refine⟨h.s,?_,e2,WB h,?_,h.st,h.pl,by omega,by omega,by show m.base.length<=i+1;omega,fun x hx=>h.small x (e4 x hx),by omega⟩
 ·show E4 m.now s=_;rw[h.now,e1]
 ·show(m.AJ++[(true,s,v)]).length=_;rw[List.length_append,h.AJ];rfl
theorem XJ (h:Fl cfg m n cur i) (hi:i < 1000):Fl cfg (Sy m) 0 cur (i+1):=by
 have hl:=h.len;refine⟨h.s,h.now,h.sorted,h.cost,rfl,h.st,h.pl,by omega,by omega,?_,h.small,by omega⟩;show m.now.length<=i+1;rw[h.now];omega
def Cc (cfg:List Int) (cur:List (EK.C AR)) (k:Int) (s v:ByteArray):Int × ByteArray × Bool:=
 bif k==1 then(bif Ij cfg cur s v then(4,e0,false)else(0,e0,true))else bif k==2 then(bif (C5 cur s).isSome then(0,(C5 cur s).getD e0,false)else(5,e0,false))else bif k==3 then(0,e0,(C5 cur s).isSome)else(0,e0,false)
def Na (cfg:List Int) (m:AB) (cur:List (EK.C AR)) (k:Int) (s v:ByteArray):AB:=JW k (bif (Cc cfg cur k s v).2.2 then CB m (k==3) s v else m)
def Sf (cfg:List Int) (n:Nat) (cur:List (EK.C AR)) (k:Int) (s v:ByteArray):Nat:=bif k==4 then 0 else bif (Cc cfg cur k s v).2.2 then n+1 else n
def NX (cfg:List Int) (cur:List (EK.C AR)) (k:Int) (s v:ByteArray):List (EK.C AR):=bif (Cc cfg cur k s v).2.2 then Ar cur k s v else cur
theorem Zq (h:Fl cfg m n cur i) {k:Int} (hk:k=1∨k=2∨k=3∨k=4) {s v:ByteArray} (hs:s.size<=8) (hv:v.size<=16) (hi:i < 1000):Fl cfg (Na cfg m cur k s v) (Sf cfg n cur k s v) (NX cfg cur k s v) (i+1):=by
 have hm:=ZJ h (Nat.le_succ i) hi;rcases hk with rfl | rfl | rfl | rfl
 ·cases ho:Ij cfg cur s v
  ·have e:Cc cfg cur 1 s v=(0,e0,true):=by unfold Cc;rw[ho];rfl
   unfold Na Sf NX;rw[e];exact ab h hs hv hi
  ·have e:Cc cfg cur 1 s v=(4,e0,false):=by unfold Cc;rw[ho];rfl
   unfold Na Sf NX;rw[e];exact hm
 ·have e:(Cc cfg cur 2 s v).2.2=false:=by unfold Cc;cases (C5 cur s).isSome<;>rfl
  unfold Na Sf NX;rw[e];exact hm
 ·have e:(Cc cfg cur 3 s v).2.2=(C5 cur s).isSome:=rfl;unfold Na Sf NX;rw[e];cases (C5 cur s).isSome
  ·exact hm
  ·exact bH h hi
 ·have e:(Cc cfg cur 4 s v).2.2=false:=rfl;unfold Na Sf NX;rw[e];exact XJ h hi
end
theorem TK {n:Nat} (h:n < 1000000):IntKind.wrap .i64 (Int.ofNat (n+1) - 1)=(n:Int):=by
 have e:Int.ofNat (n+1) - 1=(n:Int):=by show((n+1:Nat):Int) - 1=n;omega
 rw[e,wrap64 (by omega) (by omega)]
theorem Ej {n:Nat} (h:n < 1000000):(decide (0<=IntKind.wrap .i64 (Int.ofNat (n+1) - 1))&&Nat.blt (Int.toNat (IntKind.wrap .i64 (Int.ofNat (n+1) - 1))) (n+1))=true:=by
 rw[TK h,decide_eq_true (by omega),Int.toNat_natCast];exact Nat.ble_eq_true_of_le (by omega)
theorem JV {cfg:List Int} {m:AB} {n i:Nat} {cur:List (EK.C AR)} (h:Fl cfg m n cur i) {k:Int} {s v:ByteArray} (hc:EL k 0 0 s v) (h7:(k==7)=false) (e:Int) (sv:ByteArray):Gh m k 0 0 s v e sv:=by
 obtain⟨s6,_,_,_,hmc,_⟩:=h.s;have h1:=h.len;have h2:=h.Iu;have h3:=h.le;exact⟨by rw[hmc];rfl,h.st,h.pl,hc.ok,by rw[h.now];exact h.sorted,by rw[h.now];omega,by rw[h.AJ];omega,fun h=>by rw[h7]at h;cases h⟩
theorem OQ {cfg:List Int} {m:AB} {n i:Nat} {cur:List (EK.C AR)} (h:Fl cfg m n cur i):List.length (AB.base m) < 1000000/\List.length (AB.now m) < 1000000/\List.length (AB.AJ m) < 1000000:=by
 have h1:=h.len;have h2:=h.Iu;have h3:=h.le;have h4:=h.cI;exact⟨by omega,by rw[h.now];omega,by rw[h.AJ];omega⟩
theorem Hw {laid:List (Nat × List Value)} {N:Nat} {Bj:List Bool} {G G':List Value->List AK->GT} (h:∀args objs x,(G args objs).run=some x->(G' args objs).run=some x) (args:List Value) (H:AA) (r:Value × AA) (hr:Al laid N Bj G args H=some r):Al laid N Bj G' args H=some r:=by
 unfold Al at hr ⊢;generalize DI (FC (OG laid N (Am H N 200 (args.flatMap (Af 4)) []))) args=A at hr ⊢;generalize Pz (OG laid N (Am H N 200 (args.flatMap (Af 4)) [])) H (Am H N 200 (args.flatMap (Af 4)) [])=B at hr ⊢;cases A with
 | none=>cases hr
 | some a=>cases B with
  | none=>cases hr
  | some o=>
   simp only at hr ⊢;cases hm:FD Bj H 0 (Am H N 200 (args.flatMap (Af 4)) [])
   ·simp only[hm,cond_false]at hr;cases hr
   ·simp only[hm,cond_true]at hr ⊢;split at hr
    ·rename_i x hx;rw[h _ _ x hx];exact hr
    ·cases hr
theorem UY:C3 Tryz.prog AL AX (Al AL 9 [true] gN):=by
 refine C3.sub ep (Hw fun args objs x hx=>?_);unfold gN at hx;split at hx
 ·rename_i k a b key val e sv m ro;simp only[GT.run]at hx;split at hx
  ·rename_i hok;cases hx
   obtain⟨h1,h2,h3,h4,h5,h6,h7,h8⟩:=hok;have hq:j9.ok m [E2 k a b key val,IK e sv]:=⟨k,a,b,key,val,e,sv,rfl,h1,h2,h3,h4,h5,h6,h7,h8⟩;show(GT.ask (j9.ok m [E2 k a b key val,IK e sv]) _).run=_;simp only[GT.run];rw[if_pos hq];rfl
  ·cases hx
 ·cases hx
theorem WL:C3 Tryz.prog AL CH (Al AL 9 [true] C9.G):=by
 refine Mc allM (by kernel_rfl) (n:=10) ?_;rintro m rest rfl;refine⟨by simp,rfl,?_⟩;have hE:Ad XM 10 CH (fun v H=>v= .int .i64 m.cost/\([9,10,11,12]++Af 4 v).map H.get=[some (.cells (BN m 10 11 (.slice (some ⟨12,0,some 0⟩) m.AJ.length AF)) 0 false),some (Bi m.base),some (Bi m.now),some (.vec BL m.AJ false)]) (st CH 10 [p9] (BH ⟨.leaf,9⟩ (MS m))):=by
  refine BW.Fk (Bt G0 (ids:=[9,10,11,12]) (Q:=fun v os=>v= .int .i64 m.cost/\os=[some (.cells (BN m 10 11 (.slice (some ⟨12,0,some 0⟩) m.AJ.length AF)) 0 false),some (Bi m.base),some (Bi m.now),some (.vec BL m.AJ false)]) 100 _ ?_);rw[X8];exact⟨rfl,by unfold AF;rfl⟩
 refine hE.mono ?_;rintro v H ⟨rfl,h⟩;have h:[H.get 9,H.get 10,H.get 11,H.get 12]=_:=h;simp only[List.cons.injEq,and_true]at h;exact⟨rfl,10,11,12,by decide,by decide,by decide,by decide,by decide,by decide,h.2.1,h.2.2.1,h.1,h.2.2.2⟩
theorem Ym:C3 Tryz.prog AL Bo (Al AL 9 [true] ET.G):=by
 refine Mc allM (by kernel_rfl) (n:=11) ?_;rintro m rest rfl;refine⟨by simp,rfl,?_⟩;have hE:Ad XM 10 Bo (fun v H=>v= .int .i64 m.AJ.length/\([9,10,11,12]++Af 4 v).map H.get=[some (.cells (BN m 10 11 (.slice (some ⟨12,0,some 0⟩) m.AJ.length AF)) 0 false),some (Bi m.base),some (Bi m.now),some (.vec BL m.AJ false)]) (st Bo 11 [p9] (BH ⟨.leaf,9⟩ (MS m))):=by
  refine BW.Fk (Bt G0 (ids:=[9,10,11,12]) (Q:=fun v os=>v= .int .i64 m.AJ.length/\os=[some (.cells (BN m 10 11 (.slice (some ⟨12,0,some 0⟩) m.AJ.length AF)) 0 false),some (Bi m.base),some (Bi m.now),some (.vec BL m.AJ false)]) 100 _ ?_);rw[bD];exact⟨rfl,by unfold AF;rfl⟩
 refine hE.mono ?_;rintro v H ⟨rfl,h⟩;have h:[H.get 9,H.get 10,H.get 11,H.get 12]=_:=h;simp only[List.cons.injEq,and_true]at h;exact⟨rfl,10,11,12,by decide,by decide,by decide,by decide,by decide,by decide,h.2.1,h.2.2.1,h.1,h.2.2.2⟩
theorem F7 {X:Ctx} {f:FuncId} {x:Value} {p:EB} (h:∀args H (K:Value->AA->Prop),p args H K->∃v H',Bd X f args .normal H=some (v,H')/\K v H') (args:List Value) (H:AA) (K:Value->AA->Prop) (hp:Iq x p args H K):∃v H',Bd X f args .normal H=some (v,H')/\K v H':=by
 unfold Iq at hp;split at hp
 ·obtain⟨rfl,hp⟩:=hp;exact h _ H K hp
 ·exact hp.elim
theorem Ux {X:Ctx} {f:FuncId} {k:Int} {s v:ByteArray} (hX:X.Ep f=some qOp.F) (args:List Value) (H:AA) (K:Value->AA->Prop) (h:Z5 k s v args H K):∃v H',Bd X f args .normal H=some (v,H')/\K v H':=by
 unfold Z5 at h;split at h
 ·obtain⟨⟨h1,rfl,rfl,rfl⟩,h2⟩:=h;exact DF.al (q:=qOp) hX _ H K ⟨h1,h2⟩
 ·exact h.elim
theorem Pu {A B:Prop} (h:A):(bif true then A else B):=h
theorem QK {A B:Prop} (h:B):(bif false then A else B):=h
theorem EW {b:Bool} {A B:Prop} (h:b=false) (h1:B):(bif b then A else B):=by rw[h];exact h1
def ka (cfg:List Int):List Value:=(OE cfg 10 11 0).take 8++[.slice (some ⟨16,0,none⟩) 1 1]
inductive kH (cfg:List Int) (m':AB) (n:Nat) (cur:List (EK.C AR)) (k:Int) (s v:ByteArray):Bool->List (Option AK)->Prop where
 | same (a b c:Option AK) (hk:(k==4)=false):kH cfg m' n cur k s v false [some (.cells (OE cfg 10 11 (n+1)) 0 false),some (.abs (.pack (.model m')) false),some (.vec [.tok] (YU n 12 cur.length) false),some (.vec AR cur false),a,b,c]
 | app (x:Option AK) (hk:(k==4)=false):kH cfg m' n cur k s v true [some (.cells (OE cfg 10 18 (n+1+1)) 0 false),some (.abs (.pack (.model m')) false),none,some (.vec AR cur false),some (.vec AR (Ar cur k s v) false),x,some (.vec [.tok] (List.take (n+1) (List.drop 0 (YU n 12 cur.length))++[Value.slice (some ⟨16,0,some 0⟩) (Ar cur k s v).length AF]) false)]
 | ja (a b:Option AK) (hk:(k==4)=true):kH cfg m' n cur k s v false [some (.cells (ka cfg) 0 false),some (.abs (.pack (.model m')) false),some (.vec [.tok] (YU n 12 cur.length) false),some (.vec AR cur false),some (.cells [.slice (some ⟨12,0,some 0⟩) cur.length AF] 1 false),a,b]
theorem int_ne {a b:Int} (h:a≠b):(a==b)=false:=by simpa using h
section
variable {cfg:List Int} {m:AB} {n i:Nat} {cur:List (EK.C AR)} {s v:ByteArray} {we:Int} {wv:ByteArray}
end
theorem ev {j:Nat} (h:j < 5):Kr (gZ j)/\(gZ j).size<=8:=by
 match j,h with
 | 0,_=>exact⟨.inl rfl,by decide⟩
 | 1,_=>exact⟨.inr (.inl rfl),by decide⟩
 | 2,_=>exact⟨.inr (.inr (.inl rfl)),by decide⟩
 | 3,_=>exact⟨.inr (.inr (.inr (.inl rfl))),by decide⟩
 | 4,_=>exact⟨.inr (.inr (.inr (.inr (.inl rfl)))),by decide⟩
theorem V8 {val:Int}:(Ww val).size<=16:=by
 unfold Ww;rw[ByteArray.size_extract];have:ByteArray.size RR=16:=rfl;omega
theorem Dt (kind key val:Int):EL (aK kind) 0 0 (aS kind key) (aV kind val)/\(aK kind=1∨aK kind=2∨aK kind=3∨aK kind=4)/\(aS kind key).size<=8/\(aV kind val).size<=16:=by
 obtain⟨h1,h2⟩:=ev (j:=key.toNat % 5) (Nat.mod_lt _ (by decide));have h3:=V8 (val:=val);unfold aS aV;have hk:aK kind=1∨aK kind=2∨aK kind=3∨aK kind=4:=by
  unfold aK;cases decide (Int.tmod kind 8 < 4)
  ·cases decide (Int.tmod kind 8 < 6)
   ·cases Int.tmod kind 8==6
    ·exact .inr (.inl rfl)
    ·exact .inr (.inr (.inr rfl))
   ·exact .inr (.inr (.inl rfl))
  ·exact .inl rfl
 rcases hk with e | e | e | e<;>rw[e]
 ·exact⟨.put _ _ h1 (by show(Ww val).size<=512;omega),.inl rfl,h2,h3⟩
 ·exact⟨.get _ h1,.inr (.inl rfl),h2,Nat.zero_le _⟩
 ·exact⟨.del _ h1,.inr (.inr (.inl rfl)),h2,Nat.zero_le _⟩
 ·exact⟨.sync,.inr (.inr (.inr rfl)),Nat.zero_le _,Nat.zero_le _⟩
section
variable {cfg:List Int} {m:AB} {n i:Nat} {cur:List (EK.C AR)}
theorem Yh (h:Fl cfg m n cur i) {k:Int} {s v:ByteArray} (hs:s.size<=8) (hv:v.size<=16):CI m k s v=((Cc cfg cur k s v).1,(Cc cfg cur k s v).2.1,(Cc cfg cur k s v).2.2):=KJ h hs hv
theorem fK (k:Int) (s v:ByteArray):((Cc cfg cur k s v).1==11)=false/\((Cc cfg cur k s v).1==13)=false:=by
 unfold Cc;cases k==1
 ·cases k==2
  ·cases k==3<;>exact⟨rfl,rfl⟩
  ·cases (C5 cur s).isSome<;>exact⟨rfl,rfl⟩
 ·cases Ij cfg cur s v<;>exact⟨rfl,rfl⟩
end
structure ki (cfg:List Int) (m:AB) (n:Nat) (cur:List (EK.C AR)) (y z:Nat) (H:AA):Prop where
 nd:[9,10,y,z].Nodup
 g9:H.get 9=some (.cells (OE cfg 10 y (n+1)) 0 false)
 IB:H.get 10=some (.abs (.pack (.model m)) false)
 gy:H.get y=some (.vec [.tok] (YU n z cur.length) false)
 gz:H.get z=some (.vec AR cur false)
theorem L6 {a b:Nat} (h:a≠b):Nat.beq a b=false:=by
 cases hq:Nat.beq a b
 ·rfl
 ·exact absurd (Nat.eq_of_beq_eq_true hq) h
def Rm (cfg:List Int) (cur:List (EK.C AR)) (kind key val:Int):Bool:= !(aK kind==4)&& !(Cc cfg cur (aK kind) (aS kind key) (aV kind val)).2.2
def dI (cfg:List Int) (m:AB) (cur:List (EK.C AR)) (kind key val:Int):AB:=Na cfg m cur (aK kind) (aS kind key) (aV kind val)
theorem EZ (l:List (EK.C kS)):Bx l l=true:=by unfold Bx;simp
theorem eD (slots:Int) (Q:Value->List (Option AK)->Prop):Ex XM VV Bc [26,27,28,29,30] Q 3000 (st Bc 28 [.int .u8 slots] ⟨.leaf,9⟩)=(
 (((.int .i64 0):Value)=(.int .i64 0))/\(((.agg ⟨[(.int .i64 1),(.int .i64 1),(.int .i64 2)]⟩):Value)=(.agg ⟨[(.int .i64 1),(.int .i64 1),(.int .i64 2)]⟩))/\(((.int .i64 1):Value)=(.int .i64 1))/\(((.pointer (some ⟨14,6,none⟩)):Value)=(.pointer (some ⟨14,6,none⟩)))/\(((.agg ⟨[(.int .i64 (IntKind.wrap .i64 (4+IntKind.wrap .i64 (Int.tmod slots 8)))),(.int .i64 100),(.int .i64 2),(.int .i64 200),(.int .i64 8),(.int .i64 16),(.int .i64 1)]⟩):Value)=(.agg ⟨[(.int .i64 (IntKind.wrap .i64 (4+IntKind.wrap .i64 (Int.tmod slots 8)))),(.int .i64 100),(.int .i64 2),(.int .i64 200),(.int .i64 8),(.int .i64 16),(.int .i64 1)]⟩))/\(((.int .i64 200):Value)=(.int .i64 200))/\(((.pointer (some ⟨14,3,none⟩)):Value)=(.pointer (some ⟨14,3,none⟩)))/\(((.int .i64 100):Value)=(.int .i64 100))/\(((.pointer (some ⟨14,1,none⟩)):Value)=(.pointer (some ⟨14,1,none⟩)))/\(((.agg ⟨[(.int .i64 16),(.int .i64 0),(.int .i64 512)]⟩):Value)=(.agg ⟨[(.int .i64 16),(.int .i64 0),(.int .i64 512)]⟩))/\(((.int .i64 16):Value)=(.int .i64 16))/\(((.pointer (some ⟨14,5,none⟩)):Value)=(.pointer (some ⟨14,5,none⟩)))/\(((.agg ⟨[(.int .i64 8),(.int .i64 1),(.int .i64 32)]⟩):Value)=(.agg ⟨[(.int .i64 8),(.int .i64 1),(.int .i64 32)]⟩))/\(((.int .i64 8):Value)=(.int .i64 8))/\(((.pointer (some ⟨14,4,none⟩)):Value)=(.pointer (some ⟨14,4,none⟩)))/\(((.agg ⟨[(.int .i64 (IntKind.wrap .i64 (4+IntKind.wrap .i64 (Int.tmod slots 8)))),(.int .i64 4),(.int .i64 32)]⟩):Value)=(.agg ⟨[(.int .i64 (IntKind.wrap .i64 (4+IntKind.wrap .i64 (Int.tmod slots 8)))),(.int .i64 4),(.int .i64 32)]⟩))/\(((.int .i64 4):Value)=(.int .i64 4))/\(((.int .i64 2):Value)=(.int .i64 2))/\(((.pointer (some ⟨14,2,none⟩)):Value)=(.pointer (some ⟨14,2,none⟩)))/\(((.int .i64 (IntKind.wrap .i64 (4+IntKind.wrap .i64 (Int.tmod slots 8)))):Value)=(.int .i64 (IntKind.wrap .i64 (4+IntKind.wrap .i64 (Int.tmod slots 8)))))/\(p_ 14=p_ 14)/\(((.agg ⟨[(.int .i64 2),(.int .i64 2),(.int .i64 8)]⟩):Value)=(.agg ⟨[(.int .i64 2),(.int .i64 2),(.int .i64 8)]⟩))/\(((.int .i64 2):Value)=(.int .i64 2))/\(((.pointer (some ⟨14,2,none⟩)):Value)=(.pointer (some ⟨14,2,none⟩)))/\(((.agg ⟨[(.int .i64 100),(.int .i64 56),(.int .i64 8192)]⟩):Value)=(.agg ⟨[(.int .i64 100),(.int .i64 56),(.int .i64 8192)]⟩))/\(((.int .i64 56):Value)=(.int .i64 56))/\(((.int .i64 0):Value)=(.int .i64 0))/\(((.agg ⟨[(.int .i64 1),(.int .i64 1),(.int .i64 2)]⟩):Value)=(.agg ⟨[(.int .i64 1),(.int .i64 1),(.int .i64 2)]⟩))/\(((.int .i64 1):Value)=(.int .i64 1))/\(((.pointer (some ⟨14,6,none⟩)):Value)=(.pointer (some ⟨14,6,none⟩)))/\(((.int .i64 200):Value)=(.int .i64 200))/\(((.pointer (some ⟨14,3,none⟩)):Value)=(.pointer (some ⟨14,3,none⟩)))/\(((.int .i64 100):Value)=(.int .i64 100))/\(((.pointer (some ⟨14,1,none⟩)):Value)=(.pointer (some ⟨14,1,none⟩)))/\(((.agg ⟨[(.int .i64 16),(.int .i64 0),(.int .i64 512)]⟩):Value)=(.agg ⟨[(.int .i64 16),(.int .i64 0),(.int .i64 512)]⟩))/\(((.int .i64 16):Value)=(.int .i64 16))/\
 (((.pointer (some ⟨14,5,none⟩)):Value)=(.pointer (some ⟨14,5,none⟩)))/\(((.agg ⟨[(.int .i64 8),(.int .i64 1),(.int .i64 32)]⟩):Value)=(.agg ⟨[(.int .i64 8),(.int .i64 1),(.int .i64 32)]⟩))/\(((.int .i64 8):Value)=(.int .i64 8))/\(((.pointer (some ⟨14,4,none⟩)):Value)=(.pointer (some ⟨14,4,none⟩)))/\(((.agg ⟨[(.int .i64 (IntKind.wrap .i64 (4+IntKind.wrap .i64 (Int.tmod slots 8)))),(.int .i64 4),(.int .i64 32)]⟩):Value)=(.agg ⟨[(.int .i64 (IntKind.wrap .i64 (4+IntKind.wrap .i64 (Int.tmod slots 8)))),(.int .i64 4),(.int .i64 32)]⟩))/\(((.int .i64 4):Value)=(.int .i64 4))/\(((.int .i64 2):Value)=(.int .i64 2))/\(((.pointer (some ⟨14,2,none⟩)):Value)=(.pointer (some ⟨14,2,none⟩)))/\(((.int .i64 (IntKind.wrap .i64 (4+IntKind.wrap .i64 (Int.tmod slots 8)))):Value)=(.int .i64 (IntKind.wrap .i64 (4+IntKind.wrap .i64 (Int.tmod slots 8)))))/\(p_ 14=p_ 14)/\(((.agg ⟨[(.int .i64 2),(.int .i64 2),(.int .i64 8)]⟩):Value)=(.agg ⟨[(.int .i64 2),(.int .i64 2),(.int .i64 8)]⟩))/\(((.int .i64 2):Value)=(.int .i64 2))/\(((.pointer (some ⟨14,2,none⟩)):Value)=(.pointer (some ⟨14,2,none⟩)))/\(bif decide (IntKind.wrap .i64 (4+IntKind.wrap .i64 (Int.tmod slots 8)) < 4)then(Q (.pointer none) [none,none,none,none,none])else(bif decide (IntKind.wrap .i64 (4+IntKind.wrap .i64 (Int.tmod slots 8)) > 32)then(Q (.pointer none) [none,none,none,none,none])else(((.int .i64 (IntKind.wrap .i64 (IntKind.wrap .i64 (IntKind.wrap .i64 (4+IntKind.wrap .i64 (Int.tmod slots 8)) - 2) - 2))):Value)=(.int .i64 (IntKind.wrap .i64 (IntKind.wrap .i64 (IntKind.wrap .i64 (4+IntKind.wrap .i64 (Int.tmod slots 8)) - 2) - 2))))/\(((.int .i64 (IntKind.wrap .i64 (IntKind.wrap .i64 (4+IntKind.wrap .i64 (Int.tmod slots 8)) - 2))):Value)=(.int .i64 (IntKind.wrap .i64 (IntKind.wrap .i64 (4+IntKind.wrap .i64 (Int.tmod slots 8)) - 2))))/\(((.int .i64 2):Value)=(.int .i64 2))/\(((.pointer (some ⟨12,2,none⟩)):Value)=(.pointer (some ⟨12,2,none⟩)))/\(((.int .i64 (IntKind.wrap .i64 (4+IntKind.wrap .i64 (Int.tmod slots 8)))):Value)=(.int .i64 (IntKind.wrap .i64 (4+IntKind.wrap .i64 (Int.tmod slots 8)))))/\(p_ 12=p_ 12)/\(((.int .i64 (IntKind.wrap .i64 (Int.tdiv (IntKind.wrap .i64 (IntKind.wrap .i64 (IntKind.wrap .i64 (IntKind.wrap .i64 (4+IntKind.wrap .i64 (Int.tmod slots 8)) - 2) - 2) * 84)) 2))):Value)=(.int .i64 (IntKind.wrap .i64 (Int.tdiv (IntKind.wrap .i64 (IntKind.wrap .i64 (IntKind.wrap .i64 (IntKind.wrap .i64 (4+IntKind.wrap .i64 (Int.tmod slots 8)) - 2) - 2) * 84)) 2))))/\(((.agg ⟨[(.int .i64 (IntKind.wrap .i64 (4+IntKind.wrap .i64 (Int.tmod slots 8)))),(.int .i64 100),(.int .i64 2),(.int .i64 200),(.int .i64 8),(.int .i64 16),(.int .i64 1)]⟩):Value)=(.agg ⟨[(.int .i64 (IntKind.wrap .i64 (4+IntKind.wrap .i64 (Int.tmod slots 8)))),(.int .i64 100),(.int .i64 2),(.int .i64 200),(.int .i64 8),(.int .i64 16),(.int .i64 1)]⟩))/\
 (((.int .i64 (IntKind.wrap .i64 (Int.tdiv (IntKind.wrap .i64 (IntKind.wrap .i64 (IntKind.wrap .i64 (IntKind.wrap .i64 (4+IntKind.wrap .i64 (Int.tmod slots 8)) - 2) - 2) * 84)) 2))):Value)=(.int .i64 (IntKind.wrap .i64 (Int.tdiv (IntKind.wrap .i64 (IntKind.wrap .i64 (IntKind.wrap .i64 (IntKind.wrap .i64 (4+IntKind.wrap .i64 (Int.tmod slots 8)) - 2) - 2) * 84)) 2))))/\(((.agg ⟨[(.int .i64 (IntKind.wrap .i64 (4+IntKind.wrap .i64 (Int.tmod slots 8)))),(.int .i64 100),(.int .i64 2),(.int .i64 200),(.int .i64 8),(.int .i64 16),(.int .i64 1)]⟩):Value)=(.agg ⟨[(.int .i64 (IntKind.wrap .i64 (4+IntKind.wrap .i64 (Int.tmod slots 8)))),(.int .i64 100),(.int .i64 2),(.int .i64 200),(.int .i64 8),(.int .i64 16),(.int .i64 1)]⟩))/\(Q (p_ 30) [some (.abs (Ab.pack (Pk.table [])) false),some (.abs (Ab.pack (Pk.table [])) false),some (.cells [(.int .i64 (IntKind.wrap .i64 (4+IntKind.wrap .i64 (Int.tmod slots 8)))),(.int .i64 100),(.int .i64 2),(.int .i64 200),(.int .i64 8),(.int .i64 16),(.int .i64 1),(.int .i64 (IntKind.wrap .i64 (Int.tdiv (IntKind.wrap .i64 (IntKind.wrap .i64 (IntKind.wrap .i64 (IntKind.wrap .i64 (4+IntKind.wrap .i64 (Int.tmod slots 8)) - 2) - 2) * 84)) 2))),(p_ 26),(p_ 27),(.int .i64 0),(.slice none 0 0),(.pointer none),(.int .i64 0),(.bool false)] 0 false),some (.cells [(.slice none 0 0)] 1 false),some (.cells [(p_ 28),(.int .i64 (IntKind.wrap .i64 (4+IntKind.wrap .i64 (Int.tmod slots 8)))),(.int .i64 100),(.int .i64 2),(.int .i64 200),(.int .i64 8),(.int .i64 16),(.int .i64 1),(.slice (some ⟨29,0,none⟩) 1 1)] 0 false),some (.cells [(p_ 28),(.int .i64 (IntKind.wrap .i64 (4+IntKind.wrap .i64 (Int.tmod slots 8)))),(.int .i64 100),(.int .i64 2),(.int .i64 200),(.int .i64 8),(.int .i64 16),(.int .i64 1),(.slice (some ⟨29,0,none⟩) 1 1)] 0 false)])))):=by kernel_rfl
theorem Xc {x:Int} (h:DJ x):0<=Int.tmod x 8/\Int.tmod x 8<=7:=by
 obtain⟨h1,_⟩:=h;rw[Int.tmod_eq_emod_of_nonneg h1];have:=Int.emod_nonneg x (show(8:Int)≠0 by decide);have:=Int.emod_lt_of_pos x (show(0:Int) < 8 by decide);omega
def m0 (s:Int):AB:=⟨Cg s,42 * s,[],[],0,[],0,false⟩
def kY (s:Int):List Value:=(OE (Cg s) 28 29 0).take 8++[.slice (some ⟨29,0,none⟩) 1 1]
theorem ZL {slots:Int} (h:DJ slots):IntKind.wrap .i64 (4+IntKind.wrap .i64 (Int.tmod slots 8))=4+Int.tmod slots 8:=by
 obtain⟨h1,h2⟩:=Xc h;rw[wrap64 (x:=Int.tmod slots 8) (by omega) (by omega),wrap64 (by omega) (by omega)]
theorem ay {s:Int} (h0:0<=s) (h7:s<=7):IntKind.wrap .i64 (Int.tdiv (IntKind.wrap .i64 (IntKind.wrap .i64 (IntKind.wrap .i64 (4+s - 2) - 2) * 84)) 2)=42 * s:=Yc h0 h7
theorem dA {slots:Int} (h:DJ slots):Ad XM 9 Bc (fun v H=>v=DW 30/\[H.get 26,H.get 27,H.get 28,H.get 29,H.get 30]=[some (Bi []),some (Bi []),some (.cells (BN (m0 (Int.tmod slots 8)) 26 27 (.slice none 0 0)) 0 false),some (.cells [.slice none 0 0] 1 false),some (.cells (kY (Int.tmod slots 8)) 0 false)])
 (st Bc 28 [.int .u8 slots] ⟨.leaf,9⟩):=by
 obtain⟨h1,h2⟩:=Xc h;have hw:=ZL h;have hl:=ay h1 h2;refine(BW.Fk (Bt G0 (ids:=[26,27,28,29,30]) (Q:=fun v os=>v=DW 30/\∃x,os=[some (Bi []),some (Bi []),some (.cells (BN (m0 (Int.tmod slots 8)) 26 27 (.slice none 0 0)) 0 false),some (.cells [.slice none 0 0] 1 false),some (.cells (kY (Int.tmod slots 8)) 0 false),x]) 3000 _ ?_)).mono ?_
 ·rw[eD,hw,hl]
  repeat' first
   | refine And.intro rfl ?_
   | refine AU (fun h=>absurd h (by omega)) (fun _=>?_)
  exact⟨_,rfl⟩
 ·rintro v H ⟨rfl,x,hh⟩;have hh:[H.get 26,H.get 27,H.get 28,H.get 29,H.get 30,H.get 30]=_:=hh;refine⟨rfl,?_⟩;simp only[List.cons.injEq,and_true]at hh ⊢;exact⟨hh.1,hh.2.1,hh.2.2.1,hh.2.2.2.1,hh.2.2.2.2.1⟩
theorem js {s:Int} (h0:0<=s) (h7:s<=7):Fl (Cg s) (m0 s) 0 [] 0:=
 ⟨⟨s,h0,h7,rfl,rfl,rfl⟩,rfl,List.Pairwise.nil,rfl,rfl,rfl,rfl,Nat.le_refl _,Nat.le_refl _,Nat.le_refl _,(fun x hx=>by cases hx),by decide⟩
end Go.AI
namespace Go.AI
section
variable {base:Env} {W0:World} {μ:Ai} {H:AA} {W:World}
theorem SG (μ:Ai):Ai.le (fun _=>none) μ:=fun b x e=>by cases e
def AA.MD (H:AA) (a j:Nat) (k:EK) (L:List (Option (List (EK.C k)))) (l:List (EK.C k)):AA:=(H.put a (.abs (.mem k (L.set j none)) false)).alloc (.vec k l false)
theorem GX {H:AA} {a j:Nat} {k:EK} {L:List (Option (List (EK.C k)))} {l:List (EK.C k)} (x:Nat):(H.MD a j k L l).get x=if x=H.next then some (.vec k l false)else if x=a then some (.abs (.mem k (L.set j none)) false)else H.get x:=by
 unfold AA.MD;rw[AA.AW];show(if x=H.next then _ else _)=_;split
 ·rfl
 ·rw[AA.AQ]
theorem AT.MD (h:AT base W0 μ H W) {a j:Nat} {k:EK} {L:List (Option (List (EK.C k)))} {l:List (EK.C k)} {T:B7} (ha:H.get a=some (.abs (.mem k L) false)) (hm:μ a=some T) (hj:L[j]? = some (some l)):
 ∃ts M,T.e=C1 ts/\ts[j]? = some M/\AT base W0 (μ.ext H.next M) (H.MD a j k L l) W:=by
 obtain⟨φ,q⟩:=h.abs;obtain⟨⟨ts,hR⟩,hK⟩:=q.rep a _ false T ha hm;have hlt:=h.lt ha;have hjt:j < ts.length:=by
  rw[hR.len];exact(List.getElem?_eq_some_iff.1 hj).1
 have hM:=List.getElem?_eq_getElem hjt;generalize ts[j]=M at hM;refine⟨ts,M,hR.code,hM,?_⟩;obtain⟨o',ho1,ho2⟩:=hR.row j M l hM hj;have hMs:M.c < W.heap.size:=Gd ho1;have hle:μ.le (μ.ext H.next M):=Ai.DU M (h.fresh _ (Nat.le_refl _)).2;have hφM:¬(AK.vec k l false).void M->φ a M.c:=fun hv=>(hR.own _).2 ⟨j,M,l,hM,hj,hv,rfl⟩
 have key:∀b o T2,(H.MD a j k L l).get b=some o->(μ.ext H.next M) b=some T2->(b=H.next/\o= .vec k l false/\T2=M)∨(b=a/\o= .abs (.mem k (L.set j none)) false/\T2=T)∨(b≠H.next/\b≠a/\H.get b=some o/\μ b=some T2):=by
  intro b o T2 hb hT;rw[GX]at hb
  by_cases e:b=H.next
  ·rw[if_pos e]at hb;cases hb
   subst e;rw[Ai.Av]at hT;cases hT
   exact .inl ⟨rfl,rfl,rfl⟩
  ·rw[if_neg e]at hb;rw[Ai.Bl _ _ e]at hT
   by_cases e2:b=a
   ·rw[if_pos e2]at hb;cases hb
    subst e2;rw[hm]at hT;cases hT
    exact .inr (.inl ⟨rfl,rfl,rfl⟩)
   ·rw[if_neg e2]at hb;exact .inr (.inr ⟨e,e2,hb,hT⟩)
 have ER:∀b o T2,H.get b=some o->μ b=some T2->b≠a->¬o.void T2->¬(AK.vec k l false).void M->T2.c≠M.c:=by
  intro b o T2 hb hT hne hv hvM e;have:=(q.ER a _ false T ha hm b o T2 hb hT hne).1 hv;rw[e]at this;exact this (hφM hvM)
 have hset:∀(i:Nat) (m:List (EK.C k)),(L.set j none)[i]? = some (some m)->i≠j/\L[i]? = some (some m):=by
  intro i m hi;rw[List.getElem?_set]at hi
  by_cases e:j=i
  ·rw[if_pos e]at hi;split at hi<;>cases hi
  ·rw[if_neg e]at hi;exact⟨fun h=>e h.symm,hi⟩
 have hset2:∀(i:Nat) (m:List (EK.C k)),i≠j->L[i]? = some (some m)->(L.set j none)[i]? = some (some m):=by
  intro i m e hi;rw[List.getElem?_set,if_neg (fun h=>e h.symm)];exact hi
 let φ':Nat->Nat->Prop:=fun b x=>if b=a then φ a x/\¬(¬(AK.vec k l false).void M/\x=M.c)else φ b x
 have φa:∀x,φ' a x ↔ (φ a x/\¬(¬(AK.vec k l false).void M/\x=M.c)):=fun x=>by show(if a=a then _ else _) ↔ _;rw[if_pos rfl]
 have φo:∀b,b≠a->φ' b=φ b:=fun b hb=>by funext x;show(if b=a then _ else _)=_;rw[if_neg hb]
 have φs:∀b x,φ' b x->φ b x:=fun b x hx=>by
  by_cases e:b=a
  ·subst e;exact((φa x).1 hx).1
  ·rw[φo b e]at hx;exact hx
 refine⟨?_,?_,?_,?_,?_,h.size,h.below,h.out,h.os,⟨φ',?_,?_⟩,Ai.le_trans h.le hle,h.grow⟩
 ·intro b o hb T2 hT;rcases key b o T2 hb hT with⟨rfl,rfl,rfl⟩ | ⟨rfl,rfl,rfl⟩ | ⟨_,_,hb,hT⟩
  ·exact⟨o',ho1,ho2.mono (SG _)⟩
  ·obtain⟨p,hp,_⟩:=h.obj b _ ha _ hm;exact⟨p,hp,.abs _ _ _ _⟩
  ·obtain⟨p,hp,hp2⟩:=h.obj b o hb T2 hT;exact⟨p,hp,hp2.mono hle⟩
 ·intro b o hb hr T2 hT hv;rcases key b o T2 hb hT with⟨rfl,rfl,rfl⟩ | ⟨rfl,rfl,rfl⟩ | ⟨_,_,hb,hT⟩
  ·exact hK rfl _ (hφM hv)
  ·exact absurd trivial hv
  ·exact h.own b o hb hr T2 hT hv
 ·intro b1 b2 o1 o2 h1 h2 T1 T2 m1 m2 v1 v2 hc hrr;rcases key b1 o1 T1 h1 m1 with⟨rfl,rfl,rfl⟩ | ⟨rfl,rfl,rfl⟩ | ⟨n1,n2,g1,k1⟩<;>rcases key b2 o2 T2 h2 m2 with⟨rfl,rfl,rfl⟩ | ⟨rfl,rfl,rfl⟩ | ⟨n3,n4,g2,k2⟩
  ·rfl
  ·exact absurd trivial v2
  ·exact absurd hc.symm (ER b2 o2 T2 g2 k2 n4 v2 v1)
  ·exact absurd trivial v1
  ·rfl
  ·exact absurd trivial v1
  ·exact absurd hc (ER b1 o1 T1 g1 k1 n2 v1 v2)
  ·exact absurd trivial v2
  ·exact h.inj _ _ o1 o2 g1 g2 T1 T2 k1 k2 v1 v2 hc hrr
 ·intro b hb;have hb:H.next+1<=b:=hb;refine⟨?_,by rw[Ai.Bl _ _ (by omega)];exact(h.fresh b (by omega)).2⟩;rw[GX,if_neg (by omega),if_neg (by omega)];exact(h.fresh b (by omega)).1
 ·intro b T2 hT
  by_cases e:b=H.next
  ·subst e;rw[Ai.Av]at hT;cases hT;exact hMs
  ·rw[Ai.Bl _ _ e]at hT;exact h.bound b T2 hT
 ·intro b c ro T2 hb hT;rcases key b _ T2 hb hT with⟨_,e,_⟩ | ⟨rfl,e,rfl⟩ | ⟨_,n2,hb,hT⟩
  ·cases e
  ·cases e
   refine⟨⟨ts,hR.code,by rw[List.length_set];exact hR.len,hR.gV,fun i N m h1 h2=>?_,fun i1 i2 N1 N2 m1 m2 h1 h2 h3 h4=>?_,fun x=>?_⟩,fun hro i hi=>hK rfl i (φs _ i hi)⟩
   ·exact hR.row i N m h1 (hset i m h2).2
   ·exact hR.inj i1 i2 N1 N2 m1 m2 h1 h2 (hset i1 m1 h3).2 (hset i2 m2 h4).2
   ·rw[φa x,hR.own x];constructor
    ·rintro⟨⟨i,N,m,g1,g2,g3,rfl⟩,h2⟩
     by_cases e:i=j
     ·subst e;rw[hM]at g1;cases g1
      rw[hj]at g2;cases g2
      exact absurd ⟨g3,rfl⟩ h2
     ·exact⟨i,N,m,g1,hset2 i m e g2,g3,rfl⟩
    ·rintro⟨i,N,m,g1,g2,g3,rfl⟩;obtain⟨e,g4⟩:=hset i m g2;exact⟨⟨i,N,m,g1,g4,g3,rfl⟩,fun hh=>e (hR.inj i j N M m l g1 hM g4 hj g3 hh.1 hh.2)⟩
  ·obtain⟨r1,r2⟩:=q.rep b c ro T2 hb hT;rw[φo b n2];exact⟨r1.mono hle,r2⟩
 ·intro b c ro T2 hb hT b2 o2 T3 hb2 hT2 hne;rcases key b _ T2 hb hT with⟨_,e,_⟩ | ⟨rfl,e,rfl⟩ | ⟨_,n2,hb,hT⟩
  ·cases e
  ·rcases key b2 o2 T3 hb2 hT2 with⟨rfl,rfl,rfl⟩ | ⟨rfl,_,_⟩ | ⟨_,n4,g2,k2⟩
   ·exact⟨fun hv2 hh=>((φa _).1 hh).2 ⟨hv2,rfl⟩,fun hh=>by cases hh⟩
   ·exact absurd rfl hne
   ·have:=q.ER b _ false _ ha hm b2 o2 T3 g2 k2 n4;exact⟨fun hv2 hh=>this.1 hv2 (φs _ _ hh),fun h1 i hi hi2=>this.2 h1 i (φs _ _ hi) (φs _ _ hi2)⟩
  ·rw[φo b n2];have hba:=q.ER b c ro T2 hb hT a _ T ha hm (Ne.symm n2);rcases key b2 o2 T3 hb2 hT2 with⟨rfl,rfl,rfl⟩ | ⟨rfl,rfl,rfl⟩ | ⟨_,n4,g2,k2⟩
   ·exact⟨fun hv2 hh=>hba.2 rfl _ hh (hφM hv2),fun hh=>by cases hh⟩
   ·exact⟨fun hv2=>absurd trivial hv2,fun _ i hi hi2=>hba.2 rfl i hi (φs _ _ hi2)⟩
   ·have:=q.ER b c ro T2 hb hT b2 o2 T3 g2 k2 hne;exact⟨this.1,fun h1 i hi hi2=>this.2 h1 i hi (φs _ _ hi2)⟩
theorem WX {ν μ:Ai} {k:EK} (hk:k.all FK=true) {l:List (EK.C k)} {M:B7} {o':Obj} (h:Cs ν M (.vec k l false) o'):Cs μ M (.vec k l false) o':=by
 cases h with
 | vec _ _ _ _ hc=>
  cases hc with
  | cells _ _ _ c t lo hi he hc hr hf=>exact .vec M k l false _ (.cells M _ _ false c t lo hi he (Kp k hk l hc) hr hf)
 | Ei _ _ _ he hr hk0=>exact .Ei M k false _ he hr hk0
theorem AT.Tf (h:AT base W0 μ H W) {a z j:Nat} {k:EK} (hk:k.all FK=true) {L:List (Option (List (EK.C k)))} {l:List (EK.C k)} {T M:B7} {ts:List B7} (ha:H.get a=some (.abs (.mem k (L.set j none)) false)) (hm:μ a=some T)
 (hc:T.e=C1 ts) (hM:ts[j]? = some M) (hz:H.get z=some (.vec k l false)) (hzm:μ z=some M) (hj:j < L.length):AT base W0 μ ((H.del z).put a (.abs (.mem k (L.set j (some l))) false)) W:=by
 obtain⟨φ,q⟩:=h.abs;obtain⟨⟨us,hR⟩,hK⟩:=q.rep a _ false T ha hm;have hut:us=ts:=JC (hR.code.symm.trans hc);subst hut;have hza:z≠a:=by rintro rfl;rw[ha]at hz;cases hz
 obtain⟨o',ho1,ho2⟩:=h.obj z _ hz M hzm;have get:∀x,((H.del z).put a (.abs (.mem k (L.set j (some l))) false)).get x=if x=a then some (.abs (.mem k (L.set j (some l))) false)else if x=z then none else H.get x:=fun x=>by
  rw[AA.AQ];split
  ·rfl
  ·rw[AA.Bb]
 have key:∀b o T2,((H.del z).put a (.abs (.mem k (L.set j (some l))) false)).get b=some o->μ b=some T2->(b=a/\o= .abs (.mem k (L.set j (some l))) false/\T2=T)∨(b≠a/\b≠z/\H.get b=some o):=by
  intro b o T2 hb hT;rw[get]at hb
  by_cases e:b=a
  ·rw[if_pos e]at hb;cases hb
   subst e;rw[hm]at hT;cases hT
   exact .inl ⟨rfl,rfl,rfl⟩
  ·rw[if_neg e]at hb
   by_cases e2:b=z
   ·rw[if_pos e2]at hb;cases hb
   ·rw[if_neg e2]at hb;exact .inr ⟨e,e2,hb⟩
 have Q9:∀(i:Nat) (m:List (EK.C k)),(L.set j (some l))[i]? = some (some m)->(i=j/\m=l)∨(i≠j/\(L.set j none)[i]? = some (some m)):=by
  intro i m hi;rw[List.getElem?_set]at hi
  by_cases e:j=i
  ·rw[if_pos e,if_pos hj]at hi;cases hi
   exact .inl ⟨e.symm,rfl⟩
  ·rw[if_neg e]at hi;refine .inr ⟨fun h=>e h.symm,?_⟩;rw[List.getElem?_set,if_neg e];exact hi
 have dC:∀(i:Nat) (m:List (EK.C k)),(L.set j none)[i]? = some (some m)->i≠j/\(L.set j (some l))[i]? = some (some m):=by
  intro i m hi;rw[List.getElem?_set]at hi
  by_cases e:j=i
  ·rw[if_pos e]at hi;split at hi<;>cases hi
  ·rw[if_neg e]at hi;refine⟨fun h=>e h.symm,?_⟩;rw[List.getElem?_set,if_neg e];exact hi
 have get3:(L.set j (some l))[j]? = some (some l):=by rw[List.getElem?_set,if_pos rfl,if_pos hj]
 have zfar:=(q.ER a _ false T ha hm z _ M hz hzm hza).1;let φ':Nat->Nat->Prop:=fun b x=>if b=a then φ a x∨(¬(AK.vec k l false).void M/\x=M.c)else φ b x
 have φa:∀x,φ' a x ↔ (φ a x∨(¬(AK.vec k l false).void M/\x=M.c)):=fun x=>by show(if a=a then _ else _) ↔ _;rw[if_pos rfl]
 have φo:∀b,b≠a->φ' b=φ b:=fun b hb=>by funext x;show(if b=a then _ else _)=_;rw[if_neg hb]
 refine⟨?_,?_,?_,?_,h.bound,h.size,h.below,h.out,h.os,⟨φ',?_,?_⟩,h.le,h.grow⟩
 ·intro b o hb T2 hT;rcases key b o T2 hb hT with⟨rfl,rfl,rfl⟩ | ⟨_,_,hb⟩
  ·obtain⟨p,hp,_⟩:=h.obj b _ ha _ hm;exact⟨p,hp,.abs _ _ _ _⟩
  ·exact h.obj b o hb T2 hT
 ·intro b o hb hr T2 hT hv;rcases key b o T2 hb hT with⟨rfl,rfl,rfl⟩ | ⟨_,_,hb⟩
  ·exact absurd trivial hv
  ·exact h.own b o hb hr T2 hT hv
 ·intro b1 b2 o1 o2 h1 h2 T1 T2 m1 m2 v1 v2 hcc hrr;rcases key b1 o1 T1 h1 m1 with⟨rfl,rfl,rfl⟩ | ⟨n1,n2,g1⟩<;>rcases key b2 o2 T2 h2 m2 with⟨rfl,rfl,rfl⟩ | ⟨n3,n4,g2⟩
  ·rfl
  ·exact absurd trivial v1
  ·exact absurd trivial v2
  ·exact h.inj _ _ o1 o2 g1 g2 T1 T2 m1 m2 v1 v2 hcc hrr
 ·intro b hb;have hb:H.next<=b:=hb;refine⟨?_,(h.fresh b hb).2⟩;have hlt:=h.lt ha;rw[get,if_neg (by omega)];split
  ·rfl
  ·exact(h.fresh b hb).1
 ·intro b c ro T2 hb hT;rcases key b _ T2 hb hT with⟨rfl,e,rfl⟩ | ⟨n1,n2,hb⟩
  ·cases e
   refine⟨⟨us,hR.code,by rw[List.length_set];have:=hR.len;rw[List.length_set]at this;exact this,hR.gV,fun i N m h1 h2=>?_,fun i1 i2 N1 N2 m1 m2 h1 h2 h3 h4 v1 v2 hcc=>?_,fun x=>?_⟩,fun hro i hi=>?_⟩
   ·rcases Q9 i m h2 with⟨rfl,rfl⟩ | ⟨_,h2⟩
    ·rw[hM]at h1;cases h1
     exact⟨o',ho1,WX hk ho2⟩
    ·exact hR.row i N m h1 h2
   ·rcases Q9 i1 m1 h3 with⟨e1,e2⟩ | ⟨e1,g3⟩<;>rcases Q9 i2 m2 h4 with⟨e3,e4⟩ | ⟨e3,g4⟩
    ·exact e1.trans e3.symm
    ·subst e1 e2;rw[hM]at h1;cases h1
     exact absurd (hcc ▸ (hR.own _).2 ⟨i2,N2,m2,h2,g4,v2,rfl⟩) (zfar v1)
    ·subst e3 e4;rw[hM]at h2;cases h2
     exact absurd (hcc ▸ (hR.own _).2 ⟨i1,N1,m1,h1,g3,v1,rfl⟩) (zfar v2)
    ·exact hR.inj i1 i2 N1 N2 m1 m2 h1 h2 g3 g4 v1 v2 hcc
   ·rw[φa x,hR.own x];constructor
    ·rintro(⟨i,N,m,g1,g2,g3,rfl⟩ | ⟨h1,rfl⟩)
     ·exact⟨i,N,m,g1,(dC i m g2).2,g3,rfl⟩
     ·exact⟨j,M,l,hM,get3,h1,rfl⟩
    ·rintro⟨i,N,m,g1,g2,g3,rfl⟩;rcases Q9 i m g2 with⟨rfl,rfl⟩ | ⟨_,g2⟩
     ·rw[hM]at g1;cases g1
      exact .inr ⟨g3,rfl⟩
     ·exact .inl ⟨i,N,m,g1,g2,g3,rfl⟩
   ·rcases(φa i).1 hi with hi | ⟨hv,rfl⟩
    ·exact hK rfl i hi
    ·exact h.own z _ hz rfl M hzm hv
  ·rw[φo b n1];exact q.rep b c ro T2 hb hT
 ·intro b c ro T2 hb hT b2 o2 T3 hb2 hT2 hne;rcases key b _ T2 hb hT with⟨rfl,e,rfl⟩ | ⟨n1,n2,hb'⟩
  ·rcases key b2 o2 T3 hb2 hT2 with⟨rfl,_,_⟩ | ⟨n3,n4,g2⟩
   ·exact absurd rfl hne
   ·have:=q.ER b _ false _ ha hm b2 o2 T3 g2 hT2 n3;refine⟨fun hv2 hh=>?_,fun h1 i hi hi2=>?_⟩
    ·rcases(φa _).1 hh with hh | ⟨hv,e⟩
     ·exact this.1 hv2 hh
     ·exact n4 (h.inj b2 z o2 _ g2 hz T3 M hT2 hzm hv2 hv e (.inr rfl))
    ·rw[φo b2 n3]at hi2;rcases(φa _).1 hi with hi | ⟨hv,rfl⟩
     ·exact this.2 h1 i hi hi2
     ·cases o2<;>first | (cases h1;done) | skip
      exact(q.ER b2 _ _ T3 g2 hT2 z _ M hz hzm (Ne.symm n4)).1 hv hi2
  ·rw[φo b n1];rcases key b2 o2 T3 hb2 hT2 with⟨rfl,rfl,rfl⟩ | ⟨n3,n4,g2⟩
   ·have:=q.ER b c ro T2 hb' hT b2 _ _ ha hm hne;refine⟨fun hv2=>absurd trivial hv2,fun _ i hi hi2=>?_⟩;rcases(φa _).1 hi2 with hi2 | ⟨hv,rfl⟩
    ·exact this.2 rfl i hi hi2
    ·exact(q.ER b c ro T2 hb' hT z _ M hz hzm (Ne.symm n2)).1 hv hi
   ·have:=q.ER b c ro T2 hb' hT b2 o2 T3 g2 hT2 hne;rw[φo b2 n3];exact this
end
section
variable {base:Env} {W0:World} {μ:Ai} {H:AA} {W:World}
theorem AT.renew (h:AT base W0 μ H W) {a:Nat} {k:EK} {L L2:List (Option (List (EK.C k)))} {T:B7} {ts ts2:List B7} (ha:H.get a=some (.abs (.mem k L) false)) (hm:μ a=some T) (hc:T.e=C1 ts)
 (hlen:ts2.length=L2.length) (hsel:∀(i:Nat) (N:B7) (m:List (EK.C k)),ts2[i]? = some N->L2[i]? = some (some m)->ts[i]? = some N/\L[i]? = some (some m)):
 AT base W0 (μ.ext H.next { T with e:=C1 ts2 }) ((H.del a).alloc (.abs (.mem k L2) false)) W:=by
 obtain⟨φ,q⟩:=h.abs;obtain⟨⟨us,hR⟩,hK⟩:=q.rep a _ false T ha hm;have hut:us=ts:=JC (hR.code.symm.trans hc);subst hut;have hlt:=h.lt ha;generalize hT2:({ T with e:=C1 ts2 }:B7)=T2;have hTc:T2.c=T.c:=by rw[<-hT2]
 have hTe:T2.e=C1 ts2:=by rw[<-hT2]
 have hle:μ.le (μ.ext H.next T2):=Ai.DU T2 (h.fresh _ (Nat.le_refl _)).2;have get:∀x,((H.del a).alloc (.abs (.mem k L2) false)).get x=if x=H.next then some (.abs (.mem k L2) false)else if x=a then none else H.get x:=fun x=>by
  rw[AA.AW];show(if x=H.next then _ else _)=_;split
  ·rfl
  ·rw[AA.Bb]
 have key:∀b o T3,((H.del a).alloc (.abs (.mem k L2) false)).get b=some o->(μ.ext H.next T2) b=some T3->(b=H.next/\o= .abs (.mem k L2) false/\T3=T2)∨(b≠H.next/\b≠a/\H.get b=some o/\μ b=some T3):=by
  intro b o T3 hb hT;rw[get]at hb
  by_cases e:b=H.next
  ·rw[if_pos e]at hb;cases hb
   subst e;rw[Ai.Av]at hT;cases hT
   exact .inl ⟨rfl,rfl,rfl⟩
  ·rw[if_neg e]at hb;rw[Ai.Bl _ _ e]at hT
   by_cases e2:b=a
   ·rw[if_pos e2]at hb;cases hb
   ·rw[if_neg e2]at hb;exact .inr ⟨e,e2,hb,hT⟩
 let F2:Nat->Prop:=fun x=>∃(j:Nat) (M:B7) (l:List (EK.C k)),ts2[j]? = some M/\L2[j]? = some (some l)/\¬(AK.vec k l false).void M/\x=M.c
 have hF:∀x,F2 x->φ a x:=fun x hx=>by
  obtain⟨j,M,l,h1,h2,h3,rfl⟩:=hx;obtain⟨g1,g2⟩:=hsel j M l h1 h2;exact(hR.own _).2 ⟨j,M,l,g1,g2,h3,rfl⟩
 let φ':Nat->Nat->Prop:=fun b x=>if b=H.next then F2 x else φ b x
 have φn:∀x,φ' H.next x ↔ F2 x:=fun x=>by show(if H.next=H.next then _ else _) ↔ _;rw[if_pos rfl]
 have φo:∀b,b≠H.next->φ' b=φ b:=fun b hb=>by funext x;show(if b=H.next then _ else _)=_;rw[if_neg hb]
 refine⟨?_,?_,?_,?_,?_,h.size,h.below,h.out,h.os,⟨φ',?_,?_⟩,Ai.le_trans h.le hle,h.grow⟩
 ·intro b o hb T3 hT;rcases key b o T3 hb hT with⟨rfl,rfl,rfl⟩ | ⟨_,_,hb,hT⟩
  ·obtain⟨p,hp,_⟩:=h.obj a _ ha _ hm;exact⟨p,by rw[hTc];exact hp,.abs _ _ _ _⟩
  ·obtain⟨p,hp,hp2⟩:=h.obj b o hb T3 hT;exact⟨p,hp,hp2.mono hle⟩
 ·intro b o hb hr T3 hT hv;rcases key b o T3 hb hT with⟨rfl,rfl,rfl⟩ | ⟨_,_,hb,hT⟩
  ·exact absurd trivial hv
  ·exact h.own b o hb hr T3 hT hv
 ·intro b1 b2 o1 o2 h1 h2 T3 T4 m1 m2 v1 v2 hcc hrr;rcases key b1 o1 T3 h1 m1 with⟨rfl,rfl,rfl⟩ | ⟨n1,n2,g1,k1⟩<;>rcases key b2 o2 T4 h2 m2 with⟨rfl,rfl,rfl⟩ | ⟨n3,n4,g2,k2⟩
  ·rfl
  ·exact absurd trivial v1
  ·exact absurd trivial v2
  ·exact h.inj _ _ o1 o2 g1 g2 T3 T4 k1 k2 v1 v2 hcc hrr
 ·intro b hb;have hb:H.next+1<=b:=hb;refine⟨?_,by rw[Ai.Bl _ _ (by omega)];exact(h.fresh b (by omega)).2⟩;rw[get,if_neg (by omega),if_neg (by omega)];exact(h.fresh b (by omega)).1
 ·intro b T3 hT
  by_cases e:b=H.next
  ·subst e;rw[Ai.Av]at hT;cases hT
   rw[hTc];exact h.bound a T hm
  ·rw[Ai.Bl _ _ e]at hT;exact h.bound b T3 hT
 ·intro b c ro T3 hb hT;rcases key b _ T3 hb hT with⟨rfl,e,rfl⟩ | ⟨n1,_,hb,hT⟩
  ·cases e
   refine⟨⟨ts2,hTe,hlen,by rw[hTc];exact hR.gV,fun i N m h1 h2=>?_,fun i1 i2 N1 N2 m1 m2 h1 h2 h3 h4=>?_,φn⟩,fun hro i hi=>hK rfl i (hF i ((φn i).1 hi))⟩
   ·obtain⟨g1,g2⟩:=hsel i N m h1 h2;exact hR.row i N m g1 g2
   ·obtain⟨g1,g3⟩:=hsel i1 N1 m1 h1 h3;obtain⟨g2,g4⟩:=hsel i2 N2 m2 h2 h4;exact hR.inj i1 i2 N1 N2 m1 m2 g1 g2 g3 g4
  ·obtain⟨r1,r2⟩:=q.rep b c ro T3 hb hT;rw[φo b n1];exact⟨r1.mono hle,r2⟩
 ·intro b c ro T3 hb hT b2 o2 T4 hb2 hT4 hne;rcases key b _ T3 hb hT with⟨rfl,e,rfl⟩ | ⟨n1,n2,g1,k1⟩
  ·cases e
   rcases key b2 o2 T4 hb2 hT4 with⟨rfl,_,_⟩ | ⟨n3,n4,g2,k2⟩
   ·exact absurd rfl hne
   ·have:=q.ER a _ false _ ha hm b2 o2 T4 g2 k2 n4;rw[φo b2 n3];exact⟨fun hv2 hh=>this.1 hv2 (hF _ ((φn _).1 hh)),fun h1 i hi hi2=>this.2 h1 i (hF _ ((φn _).1 hi)) hi2⟩
  ·rw[φo b n1];rcases key b2 o2 T4 hb2 hT4 with⟨rfl,rfl,rfl⟩ | ⟨n3,n4,g2,k2⟩
   ·have hba:=q.ER b c ro T3 g1 k1 a _ T ha hm (Ne.symm n2);exact⟨fun hv2=>absurd trivial hv2,fun _ i hi hi2=>hba.2 rfl i hi (hF _ ((φn _).1 hi2))⟩
   ·rw[φo b2 n3];exact q.ER b c ro T3 g1 k1 b2 o2 T4 g2 k2 hne
theorem AM.gu {μ ν:Ai} {z n j len cap:Nat} {M T:B7} {v':Value} (hz:μ z=some M) (hn:ν n=some T) (hm:Jc T.e j=some M) (h:AM μ (.slice (some ⟨z,0,some 0⟩) len cap) v'):AM ν (.slice (some ⟨n,1,some j⟩) len cap) v':=by
 cases h with
 | Bw _ _ _ _ cap' o' T' h hc ho hr=>
  rw[hz]at h;cases h
  exact .Cf n j len cap cap' o' T M hn hm (by rw[Nat.zero_mul]at hc;exact hc) (by rw[Nat.zero_mul,Nat.add_zero]at ho;exact ho) hr
 | C8 _ _ _ T' a h hc=>exact .Er n j cap T a hn hc
theorem AM.i7 {μ ν:Ai} {a z j len cap:Nat} {M T:B7} {v':Value} (ha:μ a=some T) (hm:Jc T.e j=some M) (hz:ν z=some M) (h:AM μ (.slice (some ⟨a,1,some j⟩) len cap) v'):AM ν (.slice (some ⟨z,0,some 0⟩) len cap) v':=by
 cases h with
 | Cf _ _ _ _ cap' o' T' M' h hm' hc ho hr=>
  rw[ha]at h;cases h
  rw[hm]at hm';cases hm'
  exact .Bw z 0 len cap cap' o' M hz (by rw[Nat.zero_mul];exact hc) (by rw[Nat.zero_mul,Nat.add_zero];exact ho) hr
 | Er _ _ _ T' x h hc=>exact .C8 z 0 cap M x hz hc
theorem AM.XT {μ ν:Ai} {a n j i len cap:Nat} {T T2:B7} {v':Value} (ha:μ a=some T) (hn:ν n=some T2) (hm:∀M,Jc T.e j=some M->Jc T2.e i=some M) (h:AM μ (.slice (some ⟨a,1,some j⟩) len cap) v'):AM ν (.slice (some ⟨n,1,some i⟩) len cap) v':=by
 cases h with
 | Cf _ _ _ _ cap' o' T' M' h hm' hc ho hr=>
  rw[ha]at h;cases h
  exact .Cf n i len cap cap' o' T2 M' hn (hm M' hm') hc ho hr
 | Er _ _ _ T' x h hc=>exact .Er n i cap T2 x hn hc
def AA.freeze (H:AA) (a z:Nat) (k:EK) (L:List (Option (List (EK.C k)))) (l:List (EK.C k)):AA:=((((H.del a).alloc (.abs (.mem k (L++[none])) false)).del z).put H.next (.abs (.mem k (L++[some l])) false))
theorem AT.freeze (h:AT base W0 μ H W) {a z:Nat} {k:EK} (hk:k.all FK=true) {L:List (Option (List (EK.C k)))} {l:List (EK.C k)} {T M:B7} (ha:H.get a=some (.abs (.mem k L) false)) (hm:μ a=some T)
 (hz:H.get z=some (.vec k l false)) (hzm:μ z=some M):∃ts,T.e=C1 ts/\ts.length=L.length/\AT base W0 (μ.ext H.next { T with e:=C1 (ts++[M]) }) (H.freeze a z k L l) W:=by
 obtain⟨φ,q⟩:=h.abs;obtain⟨⟨ts,hR⟩,_⟩:=q.rep a _ false T ha hm;refine⟨ts,hR.code,hR.len,?_⟩;have hza:z≠a:=by rintro rfl;rw[ha]at hz;cases hz
 have hzl:=h.lt hz;have h1:=h.renew (L2:=L++[none]) (ts2:=ts++[M]) ha hm hR.code (by rw[List.length_append,List.length_append,hR.len];rfl) (fun i N m g1 g2=>by
  rcases Nat.lt_or_ge i L.length with hi | hi
  ·rw[List.getElem?_append_left hi]at g2;rw[List.getElem?_append_left (by rw[hR.len];exact hi)]at g1;exact⟨g1,g2⟩
  ·rw[List.getElem?_append_right hi]at g2;generalize i - L.length=x at g2;cases x with
   | zero=>cases g2
   | succ x=>cases g2)
 have e1:∀v:Option (List (EK.C k)),(L++[none]).set L.length v=L++[v]:=fun v=>by
  rw[List.set_append_right _ _ (Nat.le_refl _),Nat.sub_self];rfl
 have h2:=h1.Tf (a:=H.next) (z:=z) (j:=L.length) hk (L:=L++[none]) (l:=l) (T:={ T with e:=C1 (ts++[M]) }) (M:=M) (ts:=ts++[M]) (by rw[e1,AA.AW];exact if_pos rfl) (Ai.Av _ _ _) rfl
  (by rw[<-hR.len,List.getElem?_append_right (Nat.le_refl _),Nat.sub_self];rfl) (by rw[AA.AW,if_neg (by show z≠H.next;omega),AA.Bb,if_neg hza];exact hz) (by rw[Ai.Bl _ _ (by omega)];exact hzm) (by rw[List.length_append];exact Nat.lt_succ_self _)
 rw[e1]at h2;exact h2
theorem Hp {H:AA} {a z:Nat} {k:EK} {L:List (Option (List (EK.C k)))} {l:List (EK.C k)} (x:Nat):(H.freeze a z k L l).get x=if x=H.next then some (.abs (.mem k (L++[some l])) false)else if x=z then none else if x=a then none else H.get x:=by
 unfold AA.freeze;rw[AA.AQ];split
 ·rfl
 ·rename_i h;rw[AA.Bb];split
  ·rfl
  ·rw[AA.AW,if_neg (by show x≠H.next;exact h),AA.Bb]
end
end Go.AI
namespace Go.AI
open Classical in
def KS (F:Cn):Cn:=fun args H=>match args with
 | .slice (some ⟨a,1,some j⟩) n c::rest=>match H.get a with
  | some (.abs (.mem [.str,.str] L) false)=>match L[j]? with
   | some (some l)=>match F (.slice (some ⟨H.next,0,some 0⟩) n c::rest) (H.MD a j [.str,.str] L l)with
    | some (v,H2)=>if H2.get H.next=some (.vec [.str,.str] l false)/\H2.get a=some (.abs (.mem [.str,.str] (L.set j none)) false)then some (v,(H2.del H.next).put a (.abs (.mem [.str,.str] L) false))else none
    | none=>none
   | _=>none
  | _=>none
 | _=>F args H
theorem I3 {P:Program} {laid:List (Nat × List Value)} {f:FuncId} {F:Cn} (h:C3 P laid f F):C3 P laid f (KS F):=by
 refine⟨h.1,fun base W0 μ H W args args' v H' hW hH hl ha hF=>?_⟩;unfold KS at hF;split at hF
 ·rename_i a j n c rest;split at hF
  ·rename_i L hga;split at hF
   ·rename_i l hLj;split at hF
    ·rename_i v1 H2 hF2;split at hF
     ·rename_i hkeep;cases hF
      obtain⟨k1,k2⟩:=hkeep;obtain⟨args'⟩:=args';cases ha with
      | cons ha0 har=>
       rename_i w rest';obtain⟨T,hT⟩:∃T,μ a=some T:=by
        cases ha0 with
        | Cf _ _ _ _ _ _ T _ h=>exact⟨T,h⟩
        | Er _ _ _ T _ h=>exact⟨T,h⟩
       obtain⟨ts,M,e1,e2,hH2⟩:=hH.MD hga hT hLj;have hlt:=hH.lt hga;have hle:μ.le (μ.ext H.next M):=Ai.DU M (hH.fresh _ (Nat.le_refl _)).2;have ha0':AM (μ.ext H.next M) (.slice (some ⟨H.next,0,some 0⟩) n c) w:=AM.i7 hT (by rw[e1,FF];exact e2) (Ai.Av _ _ _) ha0;refine(h.2 base W0 _ _ W _ _ _ _ hW hH2 (hl.mono hle) (.cons ha0' (har.mono hle)) hF2).mono fun e W' ⟨v',μ',he,r1,r2,r3⟩=>?_
       have ma:μ' a=some T:=r3.le a T (hle a T hT);have mz:μ' H.next=some M:=r3.le _ M (Ai.Av _ _ _);have hLL:L.set j (some l)=L:=by
        obtain⟨hj,hx⟩:=List.getElem?_eq_some_iff.1 hLj;rw[<-hx,List.set_getElem_self]
       have r4:=r1.Tf (a:=a) (z:=H.next) (j:=j) (by rfl) k2 ma e1 e2 k1 mz (List.getElem?_eq_some_iff.1 hLj).1;rw[hLL]at r4;refine⟨v',μ',he,r4,r2,Ai.le_trans hle r3.le,?_,fun b hb hn=>?_⟩
       ·have h1:=r3.next;have h2:H.next+1<=H2.next:=h1;show H.next<=H2.next;omega
       ·have hba:b≠a:=by rintro rfl;rw[hT]at hn;cases hn
        have g:=r3.ghost b (by show b < H.next+1;omega) (by rw[Ai.Bl _ _ (by omega)];exact hn);refine⟨g.1,?_⟩;rw[AA.AQ,if_neg hba,AA.Bb,if_neg (by omega),g.2,GX,if_neg (by omega),if_neg hba]
     ·cases hF
    ·cases hF
   ·cases hF
  ·cases hF
 ·exact h.2 base W0 μ H W args args' v H' hW hH hl ha hF
structure Du (L:List (Option (List (EK.C [.str,.str])))) (j:Nat) (l:List (EK.C [.str,.str])):Prop where
 e:L[j]? = some (some l)
structure Ca (l l2:List (EK.C [.str,.str])) (L L2:List (Option (List (EK.C [.str,.str])))) (j:Nat):Prop where
 e1:l2=l
 e2:L2=L.set j none
def Te (p:EB) (cur:List (EK.C [.str,.str])):EB:=fun args H K=>match args with
 | .slice (some ⟨a,1,some j⟩) n c::rest=>match H.get a with
  | some (.abs (.mem [.str,.str] L) false)=>Du L j cur/\p (.slice (some ⟨H.next,0,some 0⟩) n c::rest) (H.MD a j [.str,.str] L cur) fun v H2=>
   match H2.get H.next with
   | some (.vec [.str,.str] l2 false)=>match H2.get a with
    | some (.abs (.mem [.str,.str] L2) false)=>Ca cur l2 L L2 j/\K v ((H2.del H.next).put a (.abs (.mem [.str,.str] L) false))
    | _=>False
   | _=>False
  | _=>False
 | _=>False
theorem KX {X:Ctx} {f:FuncId} {F:Cn} {p:EB} {cur:List (EK.C [.str,.str])} (hX:X.Ep f=some (KS F)) (hp:∀(args:List Value) (H:AA) (K:Value->AA->Prop),p args H K->∃v H',F args H=some (v,H')/\K v H')
 (args:List Value) (H:AA) (K:Value->AA->Prop) (h:Te p cur args H K):∃v H',Bd X f args .normal H=some (v,H')/\K v H':=by
 unfold Te at h;split at h
 ·rename_i a j n c rest;split at h
  ·rename_i L hga;obtain⟨⟨hL⟩,h⟩:=h;obtain⟨v,H2,h1,h5⟩:=hp _ _ _ h;split at h5
   ·rename_i l2 h2;split at h5
    ·rename_i L2 h3;obtain⟨⟨rfl,rfl⟩,h4⟩:=h5;refine⟨v,_,?_,h4⟩;have e:KS F (.slice (some ⟨a,1,some j⟩) n c::rest) H=some (v,(H2.del H.next).put a (.abs (.mem [.str,.str] L) false)):=by
      unfold KS;simp only[hga,hL,h1];rw[if_pos ⟨h2,h3⟩]
     unfold Bd;rw[hX];exact e
    ·exact h5.elim
   ·exact h5.elim
  ·exact h.elim
 ·exact h.elim
end Go.AI
namespace Go.AI
section
variable {base:Env} {W0:World} {μ:Ai} {H:AA} {W:World}
theorem BD.maps {μ ν:Ai}:∀(x x' l:List Value),x'.length=x.length->(∀(i:Nat) v v',x[i]? = some v->x'[i]? = some v'->∀w,AM μ v w->AM ν v' w)->BD μ x l->BD ν x' l
 | [],[],_,_,_,h=>by cases h;exact .nil
 | [],_::_,_,hl,_,_=>by cases hl
 | _::_,[],_,hl,_,_=>by cases hl
 | _::x,_::x',_,hl,hv,h=>by
  cases h with
  | cons h1 h2=>exact .cons (hv 0 _ _ rfl rfl _ h1) (BD.maps x x' _ (by simpa using hl) (fun i v v' e1 e2=>hv (i+1) v v' e1 e2) h2)
theorem AT.UA (h:AT base W0 μ H W) {b:Nat} {x x':List (EK.C [.tok])} {ro:Bool} (hb:H.get b=some (.vec [.tok] x ro)) (hlen:x'.length=x.length) (hv:∀(i:Nat) (v v':Value),x[i]? = some v->x'[i]? = some v'->∀w,AM μ v w->AM μ v' w):
 AT base W0 μ (H.put b (.vec [.tok] x' ro)) W:=by
 refine h.swap hb (fun T o' _ ho=>?_) rfl rfl rfl (fun T _ hvd=>?_)
 ·cases ho with
  | Ei _ _ _ h1 h2 h3=>
   cases x' with
   | nil=>exact .Ei T _ ro _ h1 h2 h3
   | cons=>cases hlen
  | vec _ _ _ _ hc=>
   refine .vec T [.tok] _ ro o' ?_;rw[HV]at hc ⊢;cases hc with
   | cells _ _ _ c t lo hi he hc hr hf=>
    refine .cells T _ _ ro c t lo hi he ?_ hr hf;have e2:List.length (α:=Value) x'=List.length (α:=Value) x:=hlen;rw[e2];exact BD.maps x x' _ hlen hv hc
 ·obtain⟨h1,h2⟩:=hvd;refine⟨?_,h2⟩;cases x' with
  | nil=>rfl
  | cons=>rw[h1]at hlen;cases hlen
end
theorem Oi (b:Nat):∀(j:Nat) (L:List (List (ByteArray × ByteArray))),(D9 b j L).length=L.length
 | _,[]=>rfl
 | j,l::L=>by show(D9 b (j+1) L).length+1=L.length+1;rw[Oi b (j+1) L]
theorem Oc (b:Nat):∀(j i:Nat) (L:List (List (ByteArray × ByteArray))),(D9 b j L)[i]? = (L[i]?).map fun l=>Value.slice (some ⟨b,1,some (j+i)⟩) l.length AF
 | j,i,[]=>by simp[D9]
 | j,0,l::L=>by simp[D9]
 | j,i+1,l::L=>by
  show(D9 b (j+1) L)[i]? = _;rw[Oc b (j+1) i L,show j+1+i=j+(i+1) by omega];rfl
theorem K0 (b i:Nat) (L:List (List (ByteArray × ByteArray))):(AP b L)[i]? = (L[i]?).map fun l=>Value.slice (some ⟨b,1,some i⟩) l.length AF:=by
 unfold AP;rw[Oc,Nat.zero_add]
theorem Cd (b:Nat) (L:List (List (ByteArray × ByteArray))):(AP b L).length=L.length:=Oi b 0 L
section
variable {base:Env} {W0:World} {μ:Ai} {H:AA} {W:World}
theorem AT.O9 (h:AT base W0 μ H W) {a y z:Nat} {L:List (List (ByteArray × ByteArray))} {l:List (ByteArray × ByteArray)} {r:List (EK.C [.tok])} {T M:B7} (ha:H.get a=some (.abs (.mem [.str,.str] (L.map some)) false)) (hm:μ a=some T)
 (hy:H.get y=some (.vec [.tok] (HE a z L l.length r) false)) (hz:H.get z=some (.vec [.str,.str] l false)) (hzm:μ z=some M):
 ∃T2,AT base W0 (μ.ext H.next T2) ((H.freeze a z [.str,.str] (L.map some) l).put y (.vec [.tok] (AP H.next (L++[l])++r) false)) W:=by
 obtain⟨ts,e1,e2,h1⟩:=h.freeze (k:=[.str,.str]) (by rfl) ha hm hz hzm;refine⟨_,h1.UA (x:=HE a z L l.length r) ?_ ?_ ?_⟩
 ·have hyz:y≠z:=by rintro rfl;rw[hz]at hy;cases hy
  have hya:y≠a:=by rintro rfl;rw[ha]at hy;cases hy
  have hyl:=h.lt hy;rw[Hp,if_neg (by omega),if_neg hyz,if_neg hya];exact hy
 ·unfold HE;rw[List.length_append,List.length_append,Cd,Cd,List.length_append,List.length_cons];show L.length+1+r.length=L.length+(r.length+1);omega
 ·intro i v v' g1 g2 w hw;have hlt:=h.lt ha;have hzl:=h.lt hz;have ma:(μ.ext H.next { T with e:=C1 (ts++[M]) }) a=some T:=by rw[Ai.Bl _ _ (by omega)];exact hm
  have mz:(μ.ext H.next { T with e:=C1 (ts++[M]) }) z=some M:=by rw[Ai.Bl _ _ (by omega)];exact hzm
  have hL:(L.map some).length=L.length:=List.length_map _;have hl1:(AP H.next (L++[l])).length=L.length+1:=by rw[Cd,List.length_append];rfl
  unfold HE at g1;rcases Nat.lt_or_ge i L.length with hi | hi
  ·rw[List.getElem?_append_left (by rw[Cd];exact hi),K0,List.getElem?_eq_getElem hi]at g1;rw[List.getElem?_append_left (by rw[hl1];omega),K0,List.getElem?_append_left hi,List.getElem?_eq_getElem hi]at g2;cases g1;cases g2
   refine AM.XT ma (Ai.Av _ _ _) (fun N hN=>?_) hw;rw[e1,FF]at hN;show Jc (C1 (ts++[M])) i=some N;rw[FF,List.getElem?_append_left (by rw[e2,hL];exact hi)];exact hN
  ·rw[List.getElem?_append_right (by rw[Cd];exact hi),Cd]at g1;rcases Nat.lt_or_ge L.length i with hi2 | hi2
   ·rw[List.getElem?_append_right (by rw[hl1];omega),hl1]at g2;obtain⟨x,hx⟩:∃x,i - L.length=x+1:=⟨i - L.length - 1,by omega⟩
    rw[hx]at g1;rw[show i - (L.length+1)=x by omega]at g2;have g1:r[x]? = some v:=g1;rw[g1]at g2;cases g2
    exact hw
   ·obtain rfl:i=L.length:=by omega
    rw[Nat.sub_self]at g1;rw[List.getElem?_append_left (by rw[hl1];omega),K0,List.getElem?_append_right (Nat.le_refl _),Nat.sub_self]at g2;cases g1;cases g2
    refine AM.gu mz (Ai.Av _ _ _) ?_ hw;show Jc (C1 (ts++[M])) L.length=some M;rw[FF,List.getElem?_append_right (by rw[e2,hL];exact Nat.le_refl _),e2,hL,Nat.sub_self];rfl
end
end Go.AI
namespace Go.AI
open Go.Proofs
abbrev dk:List (FuncId × Cn):=[(BE,qOp.F),(BB,KS (Al AL 9 [] M9)),(An,KS (Al AL 9 [] Jj)),(Au,KS (Al AL 9 [] Jb)),(Aj,Al AL 9 [true] Ia),(AX,Al AL 9 [true] gN)]
def H0:Ctx:=Cx Tryz.prog AL dk
def Sg (p:EB):EB:=fun args H K=>match args with
 | .slice (some ⟨b,0,some i⟩) n c::r=>p (.slice (some ⟨b,0,some i⟩) n c::r) H K
 | _=>False
def KK (x:Value) (cur:List (EK.C AR)) (k:Int) (s v:ByteArray):Pf:=fun g=>bif Nat.beq g BE then some (Z5 k s v)else bif Nat.beq g BB then some (Iq x (Te (BU AL 9 [] M9) cur))else bif Nat.beq g An then some (Iq x (Te (BU AL 9 [] Jj) cur))else
 bif Nat.beq g Au then some (Sg (BU AL 9 [] Jb))else bif Nat.beq g Aj then some (BU AL 9 [true] Ia)else bif Nat.beq g AX then some (BU AL 9 [true] gN)else C4 g
def Q0 (cfg:List Int) (m:AB) (n:Nat) (L:List (List (EK.C AR))) (l:List (EK.C [.tok])):AA:=BH ⟨.leaf,9⟩ [.cells (OE cfg 10 11 (n+1)) 0 false,.abs (.pack (.model m)) false,.vec [.tok] l false,.abs (.mem AR (L.map some)) false]
def FU (n:Nat) (cur:List (EK.C AR)):Value:= .slice (some ⟨12,1,some n⟩) cur.length AF
def DG (cfg:List Int) (m:AB) (n:Nat) (L:List (List (EK.C AR))) (l:List (EK.C [.tok])) (k a b:Int) (key val:ByteArray) (we:Int) (wv:ByteArray) (u:Bool) (e:Int):A8:=
 ⟨⟨AO,Gr [(0,p9),(5,DW 13),(8,DW 14),(9,.bool u),(10,.int .i64 e)],116,[.code (BI Tryz.prog AO [1,1,1,1,1,1,0,1,0,0]),.inLoop (BI Tryz.prog AO [1,1,1,1,1,1,0,1,0,0]),.inBlock 1,.code (BI Tryz.prog AO [1,1,1,1,1,1,1])],[],false,.normal,none⟩,[],
  ((Q0 cfg m n L l).alloc (eJ k a b key val)).alloc (.cells [.int .i64 we,.string wv] 0 false)⟩
def Da (ids:List Nat) (L:List (List (EK.C AR))):List (EK.C [.tok]):=List.map (IM (Gx 13 ids)) (AP 12 L)
theorem bh (cfg:List Int) (m:AB) (n:Nat) (L:List (List (EK.C AR))) (cur:List (EK.C AR)) (kind key val:Int) (s v:ByteArray) (Q:Value->List (Option AK)->Prop) (R:A8->Prop):L1 H0 (KK (FU n cur) cur 1 s v) AO [9,10,11,12] Rj Q R 400 (st AO 116 [p9,.agg ⟨[.int .u8 kind,.int .u8 key,.int .u8 val]⟩] (Q0 cfg m n L (AP 12 L)))=(
 ((DJ kind/\DJ key/\DJ val)/\aK kind=1/\aS kind key=s/\aV kind val=v)/\(bif decide (0<=IntKind.wrap .i64 (Int.ofNat (n+1) - 1))&&Nat.blt (Int.toNat (IntKind.wrap .i64 (Int.ofNat (n+1) - 1))) (n+1)then(bif Nat.blt (0+Int.toNat (IntKind.wrap .i64 (Int.ofNat (n+1) - 1))) (List.length (AP 12 L))&&Ek (SK.enc SK.tok (List.getD (AP 12 L) (0+Int.toNat (IntKind.wrap .i64 (Int.ofNat (n+1) - 1))) (EK.AZ [SK.tok])))then(((.string s):Value)=(.string s))/\(((.pointer (some ⟨14,3,none⟩)):Value)=(.pointer (some ⟨14,3,none⟩)))/\(((.slice (Cz (SK.enc SK.tok (List.getD (AP 12 L) (0+Int.toNat (IntKind.wrap .i64 (Int.ofNat (n+1) - 1))) (EK.AZ [SK.tok])))) (Cy (SK.enc SK.tok (List.getD (AP 12 L) (0+Int.toNat (IntKind.wrap .i64 (Int.ofNat (n+1) - 1))) (EK.AZ [SK.tok])))) (C0 (SK.enc SK.tok (List.getD (AP 12 L) (0+Int.toNat (IntKind.wrap .i64 (Int.ofNat (n+1) - 1))) (EK.AZ [SK.tok]))))):Value)=(.slice (some ⟨12,1,(some n)⟩) (List.length cur) 18446744073709551616))/\(Du (List.map some L) n cur)/\((List.length cur=List.length cur/\AF=AF)/\List.length cur < 1000000)/\(Ca cur cur (List.map some L) (List.set (List.map some L) n none) n)/\(bif Option.isSome (C5 cur s)then(((.bool (Option.isSome (C5 cur s))):Value)=(.bool true))/\(bif decide (0<=IntKind.wrap .i64 (Int.ofNat (n+1) - 1))&&Nat.blt (Int.toNat (IntKind.wrap .i64 (Int.ofNat (n+1) - 1))) (n+1)then(bif Nat.blt (0+Int.toNat (IntKind.wrap .i64 (Int.ofNat (n+1) - 1))) (List.length (AP 12 L))&&Ek (SK.enc SK.tok (List.getD (AP 12 L) (0+Int.toNat (IntKind.wrap .i64 (Int.ofNat (n+1) - 1))) (EK.AZ [SK.tok])))then(p_ 9=p_ 9)/\(((.agg ⟨[(.int .i64 1),(.int .i64 0),(.int .i64 0),(.string s),(.string v)]⟩):Value)=(.agg ⟨[(.int .i64 1),(.int .i64 0),(.int .i64 0),(.string s),(.string v)]⟩))/\(((.slice (Cz (SK.enc SK.tok (List.getD (AP 12 L) (0+Int.toNat (IntKind.wrap .i64 (Int.ofNat (n+1) - 1))) (EK.AZ [SK.tok])))) (Cy (SK.enc SK.tok (List.getD (AP 12 L) (0+Int.toNat (IntKind.wrap .i64 (Int.ofNat (n+1) - 1))) (EK.AZ [SK.tok])))) (C0 (SK.enc SK.tok (List.getD (AP 12 L) (0+Int.toNat (IntKind.wrap .i64 (Int.ofNat (n+1) - 1))) (EK.AZ [SK.tok]))))):Value)=(.slice (some ⟨12,1,(some n)⟩) (List.length cur) 18446744073709551616))/\(Du (List.map some L) n cur)/\((List.length cur=List.length cur/\AF=AF)/\List.length cur < 400000)/\(Ca cur cur (List.map some L) (List.set (List.map some L) n none) n)/\(p_ 9=p_ 9)/\((List.length (Ar cur 1 s v)=List.length (Ar cur 1 s v)/\AF=AF)/\Dz (Ar cur 1 s v))/\(p_ 9=p_ 9)/\(bif decide (BG (Ar cur 1 s v)<=IntKind.wrap .i64 (Int.tdiv (IntKind.wrap .i64 (IntKind.wrap .i64 (IntKind.wrap .i64 (List.getD cfg 0 0 - List.getD cfg 2 0) - 2) * 84)) 2))then(R (DG cfg m n L (Da [14,16] L) 1 0 0 s v 0 e_ true 0))else(R (DG cfg m n L (Da [14,16] L) 1 0 0 s v 4 e_ false 0)))else False)else False)else(((.bool (Option.isSome (C5 cur s))):Value)=(.bool false))/\(bif decide (0<=IntKind.wrap .i64 (Int.ofNat (n+1) - 1))&&Nat.blt (Int.toNat (IntKind.wrap .i64 (Int.ofNat (n+1) - 1))) (n+1)then(bif Nat.blt (0+Int.toNat (IntKind.wrap .i64 (Int.ofNat (n+1) - 1))) (List.length (AP 12 L))&&Ek (SK.enc SK.tok (List.getD (AP 12 L) (0+Int.toNat (IntKind.wrap .i64 (Int.ofNat (n+1) - 1))) (EK.AZ [SK.tok])))then(p_ 9=p_ 9)/\(((.agg ⟨[(.int .i64 1),(.int .i64 0),(.int .i64 0),(.string s),(.string v)]⟩):Value)=(.agg ⟨[(.int .i64 1),(.int .i64 0),(.int .i64 0),(.string s),(.string v)]⟩))/\
 (((.slice (Cz (SK.enc SK.tok (List.getD (AP 12 L) (0+Int.toNat (IntKind.wrap .i64 (Int.ofNat (n+1) - 1))) (EK.AZ [SK.tok])))) (Cy (SK.enc SK.tok (List.getD (AP 12 L) (0+Int.toNat (IntKind.wrap .i64 (Int.ofNat (n+1) - 1))) (EK.AZ [SK.tok])))) (C0 (SK.enc SK.tok (List.getD (AP 12 L) (0+Int.toNat (IntKind.wrap .i64 (Int.ofNat (n+1) - 1))) (EK.AZ [SK.tok]))))):Value)=(.slice (some ⟨12,1,(some n)⟩) (List.length cur) 18446744073709551616))/\(Du (List.map some L) n cur)/\((List.length cur=List.length cur/\AF=AF)/\List.length cur < 400000)/\(Ca cur cur (List.map some L) (List.set (List.map some L) n none) n)/\(p_ 9=p_ 9)/\((List.length (Ar cur 1 s v)=List.length (Ar cur 1 s v)/\AF=AF)/\Dz (Ar cur 1 s v))/\(p_ 9=p_ 9)/\(bif decide (BG (Ar cur 1 s v)<=IntKind.wrap .i64 (Int.tdiv (IntKind.wrap .i64 (IntKind.wrap .i64 (IntKind.wrap .i64 (List.getD cfg 0 0 - List.getD cfg 2 0) - 2) * 84)) 2))then(R (DG cfg m n L (Da [14,16] L) 1 0 0 s v 0 e_ true 0))else(R (DG cfg m n L (Da [14,16] L) 1 0 0 s v 4 e_ false 0)))else False)else False))else False)else False)):=by kernel_rfl
abbrev vc_rc1_0 (cfg:List Int) (n:Nat):AK:=(.cells [(p_ 10),(.int .i64 (List.getD cfg 0 0)),(.int .i64 (List.getD cfg 1 0)),(.int .i64 (List.getD cfg 2 0)),(.int .i64 (List.getD cfg 3 0)),(.int .i64 (List.getD cfg 4 0)),(.int .i64 (List.getD cfg 5 0)),(.int .i64 (List.getD cfg 6 0)),(.slice (some ⟨19,0,(some 0)⟩) (n+1+1) AF)] 0 false)
abbrev vc_rc1_1 (cfg:List Int) (n:Nat):AK:=(.cells [(p_ 10),(.int .i64 (List.getD cfg 0 0)),(.int .i64 (List.getD cfg 1 0)),(.int .i64 (List.getD cfg 2 0)),(.int .i64 (List.getD cfg 3 0)),(.int .i64 (List.getD cfg 4 0)),(.int .i64 (List.getD cfg 5 0)),(.int .i64 (List.getD cfg 6 0)),(.slice (some ⟨11,0,(some 0)⟩) (n+1) AF)] 0 false)
theorem ZH (cfg:List Int) (m:AB) (n:Nat) (L:List (List (EK.C AR))) (cur:List (EK.C AR)) (s v:ByteArray) (we:Int) (wv:ByteArray) (u:Bool) (e:Int) (Q:Value->List (Option AK)->Prop) (R:A8->Prop):L1 H0 (KK (FU n cur) cur 1 s v) AO [9,10,11,12,16,17,19] Rj Q R 600 (DG cfg m n L (AP 12 L) 1 0 0 s v we wv u e)=(
 (bif decide (e<=17)then(bif !(e==we&&(ByteArray.toList e_==ByteArray.toList wv&&true))then(bif e != 11 then(List.length (AB.base m) < 1000000/\List.length (AB.now m) < 1000000/\List.length (AB.AJ m) < 1000000)/\(((.agg ⟨[(.int .i64 e),(.string e_)]⟩):Value)=(.agg ⟨[(.int .i64 e),(.string e_)]⟩))/\(((.agg ⟨[(.int .i64 1),(.int .i64 0),(.int .i64 0),(.string s),(.string v)]⟩):Value)=(.agg ⟨[(.int .i64 1),(.int .i64 0),(.int .i64 0),(.string s),(.string v)]⟩))/\(Gh m 1 0 0 s v e e_)/\(bif IN m 1 0 0 s v e e_ != 7 then(Q (.bool false) [some (vc_rc1_1 cfg n),some (.abs (Ab.pack (Pk.model m)) false),some (.vec [SK.tok] (AP 12 L) false),some (.abs (Ab.mem AR (List.map some L)) false),some (.abs (Ab.pack (Pk.model (ED m 1 0 0 s v e e_))) false),none,none])else(R (DG cfg m n L (Da [13,14] L) 1 0 0 s v we wv u (IntKind.wrap .i64 (e+1)))))else(R (DG cfg m n L (Da [13,14] L) 1 0 0 s v we wv u (IntKind.wrap .i64 (e+1)))))else(R (DG cfg m n L (Da [13,14] L) 1 0 0 s v we wv u (IntKind.wrap .i64 (e+1)))))else(bif u then(List.length (AB.base m) < 1000000/\List.length (AB.now m) < 1000000/\List.length (AB.AJ m) < 1000000)/\(((.bool u):Value)=(.bool true))/\(((.agg ⟨[(.int .i64 11),(.string e_)]⟩):Value)=(.agg ⟨[(.int .i64 11),(.string e_)]⟩))/\(((.agg ⟨[(.int .i64 1),(.int .i64 0),(.int .i64 0),(.string s),(.string v)]⟩):Value)=(.agg ⟨[(.int .i64 1),(.int .i64 0),(.int .i64 0),(.string s),(.string v)]⟩))/\(Gh m 1 0 0 s v 11 e_)/\(((.bool u):Value)=(.bool true))/\(bif IN m 1 0 0 s v 11 e_==0 then(Gh m 1 0 0 s v we wv)/\(bif IN m 1 0 0 s v we wv != 0 then(Q (.bool false) [some (vc_rc1_1 cfg n),some (.abs (Ab.pack (Pk.model (ED m 1 0 0 s v we wv))) false),some (.vec [SK.tok] (AP 12 L) false),some (.abs (Ab.mem AR (List.map some L)) false),none,none,none])else(bif u then(bif decide (0<=IntKind.wrap .i64 (Int.ofNat (n+1) - 1))&&Nat.blt (Int.toNat (IntKind.wrap .i64 (Int.ofNat (n+1) - 1))) (n+1)then(bif Nat.blt (0+Int.toNat (IntKind.wrap .i64 (Int.ofNat (n+1) - 1))) (List.length (AP 12 L))&&Ek (SK.enc SK.tok (List.getD (AP 12 L) (0+Int.toNat (IntKind.wrap .i64 (Int.ofNat (n+1) - 1))) (EK.AZ [SK.tok])))then(((.agg ⟨[(.int .i64 1),(.int .i64 0),(.int .i64 0),(.string s),(.string v)]⟩):Value)=(.agg ⟨[(.int .i64 1),(.int .i64 0),(.int .i64 0),(.string s),(.string v)]⟩))/\(((.slice (some ⟨11,0,(some 0)⟩) (n+1) 18446744073709551616):Value)=(.slice (some ⟨11,0,(some 0)⟩) (n+1) 18446744073709551616))/\(((.pointer (some ⟨9,8,none⟩)):Value)=(.pointer (some ⟨9,8,none⟩)))/\(p_ 9=p_ 9)/\(p_ 9=p_ 9)/\(p_ 9=p_ 9)/\(((.slice (Cz (SK.enc SK.tok (List.getD (AP 12 L) (0+Int.toNat (IntKind.wrap .i64 (Int.ofNat (n+1) - 1))) (EK.AZ [SK.tok])))) (Cy (SK.enc SK.tok (List.getD (AP 12 L) (0+Int.toNat (IntKind.wrap .i64 (Int.ofNat (n+1) - 1))) (EK.AZ [SK.tok])))) (C0 (SK.enc SK.tok (List.getD (AP 12 L) (0+Int.toNat (IntKind.wrap .i64 (Int.ofNat (n+1) - 1))) (EK.AZ [SK.tok]))))):Value)=(.slice (some ⟨12,1,(some n)⟩) (List.length cur) 18446744073709551616))/\(Du (List.map some L) n cur)/\((List.length cur=List.length cur/\AF=AF)/\List.length cur < 400000)/\(Ca cur cur (List.map some L) (List.set (List.map some L) n none) n)/\(((.slice (some ⟨11,0,(some 0)⟩) (n+1) 18446744073709551616):Value)=(.slice (some ⟨11,0,(some 0)⟩) (n+1) 18446744073709551616))/\(((.pointer (some ⟨9,8,none⟩)):Value)=(.pointer (some ⟨9,8,none⟩)))/\(p_ 9=p_ 9)/\(p_ 9=p_ 9)/\(p_ 9=p_ 9)/\
 (bif true&&Nat.ble (0+(n+1)) (List.length (AP 12 L))&&BK 24 (n+1+1)then(p_ 9=p_ 9)/\(Q (.bool true) [some (vc_rc1_0 cfg n),some (.abs (Ab.pack (Pk.model (ED m 1 0 0 s v we wv))) false),none,some (.abs (Ab.mem [SK.str,SK.str] (List.map some L)) false),none,some (.vec ([SK.str,SK.str]) (Ar cur 1 s v) false),some (.vec [SK.tok] ((List.take (n+1) (List.drop 0 (AP 12 L)))++[(.slice (some ⟨17,0,(some 0)⟩) (List.length (Ar cur 1 s v)) 18446744073709551616)]) false)])else False)else False)else False)else(Q (.bool true) [some (vc_rc1_1 cfg n),some (.abs (Ab.pack (Pk.model (ED m 1 0 0 s v we wv))) false),some (.vec [SK.tok] (AP 12 L) false),some (.abs (Ab.mem AR (List.map some L)) false),none,none,none])))else(Q (.bool false) [some (vc_rc1_1 cfg n),some (.abs (Ab.pack (Pk.model m)) false),some (.vec [SK.tok] (AP 12 L) false),some (.abs (Ab.mem AR (List.map some L)) false),none,none,none]))else(List.length (AB.base m) < 1000000/\List.length (AB.now m) < 1000000/\List.length (AB.AJ m) < 1000000)/\(((.bool u):Value)=(.bool false))/\(((.agg ⟨[(.int .i64 11),(.string e_)]⟩):Value)=(.agg ⟨[(.int .i64 11),(.string e_)]⟩))/\(((.agg ⟨[(.int .i64 1),(.int .i64 0),(.int .i64 0),(.string s),(.string v)]⟩):Value)=(.agg ⟨[(.int .i64 1),(.int .i64 0),(.int .i64 0),(.string s),(.string v)]⟩))/\(Gh m 1 0 0 s v 11 e_)/\(((.bool u):Value)=(.bool false))/\(bif IN m 1 0 0 s v 11 e_==0 then(Q (.bool false) [some (vc_rc1_1 cfg n),some (.abs (Ab.pack (Pk.model m)) false),some (.vec [SK.tok] (AP 12 L) false),some (.abs (Ab.mem AR (List.map some L)) false),none,none,none])else(Gh m 1 0 0 s v we wv)/\(bif IN m 1 0 0 s v we wv != 0 then(Q (.bool false) [some (vc_rc1_1 cfg n),some (.abs (Ab.pack (Pk.model (ED m 1 0 0 s v we wv))) false),some (.vec [SK.tok] (AP 12 L) false),some (.abs (Ab.mem AR (List.map some L)) false),none,none,none])else(bif u then(bif decide (0<=IntKind.wrap .i64 (Int.ofNat (n+1) - 1))&&Nat.blt (Int.toNat (IntKind.wrap .i64 (Int.ofNat (n+1) - 1))) (n+1)then(bif Nat.blt (0+Int.toNat (IntKind.wrap .i64 (Int.ofNat (n+1) - 1))) (List.length (AP 12 L))&&Ek (SK.enc SK.tok (List.getD (AP 12 L) (0+Int.toNat (IntKind.wrap .i64 (Int.ofNat (n+1) - 1))) (EK.AZ [SK.tok])))then(((.agg ⟨[(.int .i64 1),(.int .i64 0),(.int .i64 0),(.string s),(.string v)]⟩):Value)=(.agg ⟨[(.int .i64 1),(.int .i64 0),(.int .i64 0),(.string s),(.string v)]⟩))/\(((.slice (some ⟨11,0,(some 0)⟩) (n+1) 18446744073709551616):Value)=(.slice (some ⟨11,0,(some 0)⟩) (n+1) 18446744073709551616))/\(((.pointer (some ⟨9,8,none⟩)):Value)=(.pointer (some ⟨9,8,none⟩)))/\(p_ 9=p_ 9)/\(p_ 9=p_ 9)/\(p_ 9=p_ 9)/\(((.slice (Cz (SK.enc SK.tok (List.getD (AP 12 L) (0+Int.toNat (IntKind.wrap .i64 (Int.ofNat (n+1) - 1))) (EK.AZ [SK.tok])))) (Cy (SK.enc SK.tok (List.getD (AP 12 L) (0+Int.toNat (IntKind.wrap .i64 (Int.ofNat (n+1) - 1))) (EK.AZ [SK.tok])))) (C0 (SK.enc SK.tok (List.getD (AP 12 L) (0+Int.toNat (IntKind.wrap .i64 (Int.ofNat (n+1) - 1))) (EK.AZ [SK.tok]))))):Value)=(.slice (some ⟨12,1,(some n)⟩) (List.length cur) 18446744073709551616))/\(Du (List.map some L) n cur)/\((List.length cur=List.length cur/\AF=AF)/\List.length cur < 400000)/\(Ca cur cur (List.map some L) (List.set (List.map some L) n none) n)/\(((.slice (some ⟨11,0,(some 0)⟩) (n+1) 18446744073709551616):Value)=(.slice (some ⟨11,0,(some 0)⟩) (n+1) 18446744073709551616))/\(((.pointer (some ⟨9,8,none⟩)):Value)=(.pointer (some ⟨9,8,none⟩)))/\(p_ 9=p_ 9)/\(p_ 9=p_ 9)/\(p_ 9=p_ 9)/\(bif true&&Nat.ble (0+(n+1)) (List.length (AP 12 L))&&BK 24 (n+1+1)then
 (p_ 9=p_ 9)/\(Q (.bool true) [some (vc_rc1_0 cfg n),some (.abs (Ab.pack (Pk.model (ED m 1 0 0 s v we wv))) false),none,some (.abs (Ab.mem [SK.str,SK.str] (List.map some L)) false),none,some (.vec ([SK.str,SK.str]) (Ar cur 1 s v) false),some (.vec [SK.tok] ((List.take (n+1) (List.drop 0 (AP 12 L)))++[(.slice (some ⟨17,0,(some 0)⟩) (List.length (Ar cur 1 s v)) 18446744073709551616)]) false)])else False)else False)else False)else(Q (.bool true) [some (vc_rc1_1 cfg n),some (.abs (Ab.pack (Pk.model (ED m 1 0 0 s v we wv))) false),some (.vec [SK.tok] (AP 12 L) false),some (.abs (Ab.mem AR (List.map some L)) false),none,none,none]))))))):=by kernel_rfl
theorem cn (cfg:List Int) (m:AB) (n:Nat) (L:List (List (EK.C AR))) (cur:List (EK.C AR)) (kind key val:Int) (s v:ByteArray) (Q:Value->List (Option AK)->Prop) (R:A8->Prop):L1 H0 (KK (FU n cur) cur 2 s v) AO [9,10,11,12] Rj Q R 400 (st AO 116 [p9,.agg ⟨[.int .u8 kind,.int .u8 key,.int .u8 val]⟩] (Q0 cfg m n L (AP 12 L)))=(
 ((DJ kind/\DJ key/\DJ val)/\aK kind=2/\aS kind key=s/\aV kind val=v)/\(bif decide (0<=IntKind.wrap .i64 (Int.ofNat (n+1) - 1))&&Nat.blt (Int.toNat (IntKind.wrap .i64 (Int.ofNat (n+1) - 1))) (n+1)then(bif Nat.blt (0+Int.toNat (IntKind.wrap .i64 (Int.ofNat (n+1) - 1))) (List.length (AP 12 L))&&Ek (SK.enc SK.tok (List.getD (AP 12 L) (0+Int.toNat (IntKind.wrap .i64 (Int.ofNat (n+1) - 1))) (EK.AZ [SK.tok])))then(((.string s):Value)=(.string s))/\(((.pointer (some ⟨14,3,none⟩)):Value)=(.pointer (some ⟨14,3,none⟩)))/\(((.slice (Cz (SK.enc SK.tok (List.getD (AP 12 L) (0+Int.toNat (IntKind.wrap .i64 (Int.ofNat (n+1) - 1))) (EK.AZ [SK.tok])))) (Cy (SK.enc SK.tok (List.getD (AP 12 L) (0+Int.toNat (IntKind.wrap .i64 (Int.ofNat (n+1) - 1))) (EK.AZ [SK.tok])))) (C0 (SK.enc SK.tok (List.getD (AP 12 L) (0+Int.toNat (IntKind.wrap .i64 (Int.ofNat (n+1) - 1))) (EK.AZ [SK.tok]))))):Value)=(.slice (some ⟨12,1,(some n)⟩) (List.length cur) 18446744073709551616))/\(Du (List.map some L) n cur)/\((List.length cur=List.length cur/\AF=AF)/\List.length cur < 1000000)/\(Ca cur cur (List.map some L) (List.set (List.map some L) n none) n)/\(bif Option.isSome (C5 cur s)then(((.bool (Option.isSome (C5 cur s))):Value)=(.bool true))/\(R (DG cfg m n L (Da [14,16] L) 2 0 0 s v 0 (Option.getD (C5 cur s) e0) false 0))else(((.bool (Option.isSome (C5 cur s))):Value)=(.bool false))/\(R (DG cfg m n L (Da [14,16] L) 2 0 0 s v 5 (Option.getD (C5 cur s) e0) false 0)))else False)else False)):=by kernel_rfl
abbrev vc_rc2_0 (cfg:List Int) (n:Nat):AK:=(.cells [(p_ 10),(.int .i64 (List.getD cfg 0 0)),(.int .i64 (List.getD cfg 1 0)),(.int .i64 (List.getD cfg 2 0)),(.int .i64 (List.getD cfg 3 0)),(.int .i64 (List.getD cfg 4 0)),(.int .i64 (List.getD cfg 5 0)),(.int .i64 (List.getD cfg 6 0)),(.slice (some ⟨11,0,(some 0)⟩) (n+1) AF)] 0 false)
theorem Xb (cfg:List Int) (m:AB) (n:Nat) (L:List (List (EK.C AR))) (cur:List (EK.C AR)) (s v:ByteArray) (we:Int) (wv:ByteArray) (e:Int) (Q:Value->List (Option AK)->Prop) (R:A8->Prop):L1 H0 (KK (FU n cur) cur 2 s v) AO [9,10,11,12,16,17,19] Rj Q R 600 (DG cfg m n L (AP 12 L) 2 0 0 s v we wv false e)=(
 (bif decide (e<=17)then(bif !(e==we&&(ByteArray.toList e_==ByteArray.toList wv&&true))then(bif e != 11 then(List.length (AB.base m) < 1000000/\List.length (AB.now m) < 1000000/\List.length (AB.AJ m) < 1000000)/\(((.agg ⟨[(.int .i64 e),(.string e_)]⟩):Value)=(.agg ⟨[(.int .i64 e),(.string e_)]⟩))/\(((.agg ⟨[(.int .i64 2),(.int .i64 0),(.int .i64 0),(.string s),(.string v)]⟩):Value)=(.agg ⟨[(.int .i64 2),(.int .i64 0),(.int .i64 0),(.string s),(.string v)]⟩))/\(Gh m 2 0 0 s v e e_)/\(bif IN m 2 0 0 s v e e_ != 7 then(Q (.bool false) [some (vc_rc2_0 cfg n),some (.abs (Ab.pack (Pk.model m)) false),some (.vec [SK.tok] (AP 12 L) false),some (.abs (Ab.mem AR (List.map some L)) false),some (.abs (Ab.pack (Pk.model (ED m 2 0 0 s v e e_))) false),none,none])else(R (DG cfg m n L (Da [13,14] L) 2 0 0 s v we wv false (IntKind.wrap .i64 (e+1)))))else(R (DG cfg m n L (Da [13,14] L) 2 0 0 s v we wv false (IntKind.wrap .i64 (e+1)))))else(R (DG cfg m n L (Da [13,14] L) 2 0 0 s v we wv false (IntKind.wrap .i64 (e+1)))))else(List.length (AB.base m) < 1000000/\List.length (AB.now m) < 1000000/\List.length (AB.AJ m) < 1000000)/\(((.bool false):Value)=(.bool false))/\(((.agg ⟨[(.int .i64 11),(.string e_)]⟩):Value)=(.agg ⟨[(.int .i64 11),(.string e_)]⟩))/\(((.agg ⟨[(.int .i64 2),(.int .i64 0),(.int .i64 0),(.string s),(.string v)]⟩):Value)=(.agg ⟨[(.int .i64 2),(.int .i64 0),(.int .i64 0),(.string s),(.string v)]⟩))/\(Gh m 2 0 0 s v 11 e_)/\(((.bool false):Value)=(.bool false))/\(bif IN m 2 0 0 s v 11 e_==0 then(Q (.bool false) [some (vc_rc2_0 cfg n),some (.abs (Ab.pack (Pk.model m)) false),some (.vec [SK.tok] (AP 12 L) false),some (.abs (Ab.mem AR (List.map some L)) false),none,none,none])else(Gh m 2 0 0 s v we wv)/\(bif IN m 2 0 0 s v we wv != 0 then(Q (.bool false) [some (vc_rc2_0 cfg n),some (.abs (Ab.pack (Pk.model (ED m 2 0 0 s v we wv))) false),some (.vec [SK.tok] (AP 12 L) false),some (.abs (Ab.mem AR (List.map some L)) false),none,none,none])else(Q (.bool true) [some (vc_rc2_0 cfg n),some (.abs (Ab.pack (Pk.model (ED m 2 0 0 s v we wv))) false),some (.vec [SK.tok] (AP 12 L) false),some (.abs (Ab.mem AR (List.map some L)) false),none,none,none]))))):=by kernel_rfl
theorem Z6 (cfg:List Int) (m:AB) (n:Nat) (L:List (List (EK.C AR))) (cur:List (EK.C AR)) (kind key val:Int) (s v:ByteArray) (Q:Value->List (Option AK)->Prop) (R:A8->Prop):L1 H0 (KK (FU n cur) cur 3 s v) AO [9,10,11,12] Rj Q R 400 (st AO 116 [p9,.agg ⟨[.int .u8 kind,.int .u8 key,.int .u8 val]⟩] (Q0 cfg m n L (AP 12 L)))=(
 ((DJ kind/\DJ key/\DJ val)/\aK kind=3/\aS kind key=s/\aV kind val=v)/\(bif decide (0<=IntKind.wrap .i64 (Int.ofNat (n+1) - 1))&&Nat.blt (Int.toNat (IntKind.wrap .i64 (Int.ofNat (n+1) - 1))) (n+1)then(bif Nat.blt (0+Int.toNat (IntKind.wrap .i64 (Int.ofNat (n+1) - 1))) (List.length (AP 12 L))&&Ek (SK.enc SK.tok (List.getD (AP 12 L) (0+Int.toNat (IntKind.wrap .i64 (Int.ofNat (n+1) - 1))) (EK.AZ [SK.tok])))then(((.string s):Value)=(.string s))/\(((.pointer (some ⟨14,3,none⟩)):Value)=(.pointer (some ⟨14,3,none⟩)))/\(((.slice (Cz (SK.enc SK.tok (List.getD (AP 12 L) (0+Int.toNat (IntKind.wrap .i64 (Int.ofNat (n+1) - 1))) (EK.AZ [SK.tok])))) (Cy (SK.enc SK.tok (List.getD (AP 12 L) (0+Int.toNat (IntKind.wrap .i64 (Int.ofNat (n+1) - 1))) (EK.AZ [SK.tok])))) (C0 (SK.enc SK.tok (List.getD (AP 12 L) (0+Int.toNat (IntKind.wrap .i64 (Int.ofNat (n+1) - 1))) (EK.AZ [SK.tok]))))):Value)=(.slice (some ⟨12,1,(some n)⟩) (List.length cur) 18446744073709551616))/\(Du (List.map some L) n cur)/\((List.length cur=List.length cur/\AF=AF)/\List.length cur < 1000000)/\(Ca cur cur (List.map some L) (List.set (List.map some L) n none) n)/\(bif Option.isSome (C5 cur s)then(((.bool (Option.isSome (C5 cur s))):Value)=(.bool true))/\(R (DG cfg m n L (Da [14,16] L) 3 0 0 s v 0 e_ true 0))else(((.bool (Option.isSome (C5 cur s))):Value)=(.bool false))/\(R (DG cfg m n L (Da [14,16] L) 3 0 0 s v 0 e_ false 0)))else False)else False)):=by kernel_rfl
abbrev vc_rc3_0 (cfg:List Int) (n:Nat):AK:=(.cells [(p_ 10),(.int .i64 (List.getD cfg 0 0)),(.int .i64 (List.getD cfg 1 0)),(.int .i64 (List.getD cfg 2 0)),(.int .i64 (List.getD cfg 3 0)),(.int .i64 (List.getD cfg 4 0)),(.int .i64 (List.getD cfg 5 0)),(.int .i64 (List.getD cfg 6 0)),(.slice (some ⟨19,0,(some 0)⟩) (n+1+1) AF)] 0 false)
abbrev vc_rc3_1 (cfg:List Int) (n:Nat):AK:=(.cells [(p_ 10),(.int .i64 (List.getD cfg 0 0)),(.int .i64 (List.getD cfg 1 0)),(.int .i64 (List.getD cfg 2 0)),(.int .i64 (List.getD cfg 3 0)),(.int .i64 (List.getD cfg 4 0)),(.int .i64 (List.getD cfg 5 0)),(.int .i64 (List.getD cfg 6 0)),(.slice (some ⟨11,0,(some 0)⟩) (n+1) AF)] 0 false)
theorem ZX (cfg:List Int) (m:AB) (n:Nat) (L:List (List (EK.C AR))) (cur:List (EK.C AR)) (s v:ByteArray) (we:Int) (wv:ByteArray) (u:Bool) (e:Int) (Q:Value->List (Option AK)->Prop) (R:A8->Prop):L1 H0 (KK (FU n cur) cur 3 s v) AO [9,10,11,12,16,17,19] Rj Q R 600 (DG cfg m n L (AP 12 L) 3 0 0 s v we wv u e)=(
 (bif decide (e<=17)then(bif !(e==we&&(ByteArray.toList e_==ByteArray.toList wv&&true))then(bif e != 11 then(List.length (AB.base m) < 1000000/\List.length (AB.now m) < 1000000/\List.length (AB.AJ m) < 1000000)/\(((.agg ⟨[(.int .i64 e),(.string e_)]⟩):Value)=(.agg ⟨[(.int .i64 e),(.string e_)]⟩))/\(((.agg ⟨[(.int .i64 3),(.int .i64 0),(.int .i64 0),(.string s),(.string v)]⟩):Value)=(.agg ⟨[(.int .i64 3),(.int .i64 0),(.int .i64 0),(.string s),(.string v)]⟩))/\(Gh m 3 0 0 s v e e_)/\(bif IN m 3 0 0 s v e e_ != 7 then(Q (.bool false) [some (vc_rc3_1 cfg n),some (.abs (Ab.pack (Pk.model m)) false),some (.vec [SK.tok] (AP 12 L) false),some (.abs (Ab.mem AR (List.map some L)) false),some (.abs (Ab.pack (Pk.model (ED m 3 0 0 s v e e_))) false),none,none])else(R (DG cfg m n L (Da [13,14] L) 3 0 0 s v we wv u (IntKind.wrap .i64 (e+1)))))else(R (DG cfg m n L (Da [13,14] L) 3 0 0 s v we wv u (IntKind.wrap .i64 (e+1)))))else(R (DG cfg m n L (Da [13,14] L) 3 0 0 s v we wv u (IntKind.wrap .i64 (e+1)))))else(bif u then(List.length (AB.base m) < 1000000/\List.length (AB.now m) < 1000000/\List.length (AB.AJ m) < 1000000)/\(((.bool u):Value)=(.bool true))/\(((.agg ⟨[(.int .i64 11),(.string e_)]⟩):Value)=(.agg ⟨[(.int .i64 11),(.string e_)]⟩))/\(((.agg ⟨[(.int .i64 3),(.int .i64 0),(.int .i64 0),(.string s),(.string v)]⟩):Value)=(.agg ⟨[(.int .i64 3),(.int .i64 0),(.int .i64 0),(.string s),(.string v)]⟩))/\(Gh m 3 0 0 s v 11 e_)/\(((.bool u):Value)=(.bool true))/\(bif IN m 3 0 0 s v 11 e_==0 then(Gh m 3 0 0 s v we wv)/\(bif IN m 3 0 0 s v we wv != 0 then(Q (.bool false) [some (vc_rc3_1 cfg n),some (.abs (Ab.pack (Pk.model (ED m 3 0 0 s v we wv))) false),some (.vec [SK.tok] (AP 12 L) false),some (.abs (Ab.mem AR (List.map some L)) false),none,none,none])else(bif u then(bif decide (0<=IntKind.wrap .i64 (Int.ofNat (n+1) - 1))&&Nat.blt (Int.toNat (IntKind.wrap .i64 (Int.ofNat (n+1) - 1))) (n+1)then(bif Nat.blt (0+Int.toNat (IntKind.wrap .i64 (Int.ofNat (n+1) - 1))) (List.length (AP 12 L))&&Ek (SK.enc SK.tok (List.getD (AP 12 L) (0+Int.toNat (IntKind.wrap .i64 (Int.ofNat (n+1) - 1))) (EK.AZ [SK.tok])))then(((.agg ⟨[(.int .i64 3),(.int .i64 0),(.int .i64 0),(.string s),(.string v)]⟩):Value)=(.agg ⟨[(.int .i64 3),(.int .i64 0),(.int .i64 0),(.string s),(.string v)]⟩))/\(((.slice (some ⟨11,0,(some 0)⟩) (n+1) 18446744073709551616):Value)=(.slice (some ⟨11,0,(some 0)⟩) (n+1) 18446744073709551616))/\(((.pointer (some ⟨9,8,none⟩)):Value)=(.pointer (some ⟨9,8,none⟩)))/\(p_ 9=p_ 9)/\(p_ 9=p_ 9)/\(p_ 9=p_ 9)/\(((.slice (Cz (SK.enc SK.tok (List.getD (AP 12 L) (0+Int.toNat (IntKind.wrap .i64 (Int.ofNat (n+1) - 1))) (EK.AZ [SK.tok])))) (Cy (SK.enc SK.tok (List.getD (AP 12 L) (0+Int.toNat (IntKind.wrap .i64 (Int.ofNat (n+1) - 1))) (EK.AZ [SK.tok])))) (C0 (SK.enc SK.tok (List.getD (AP 12 L) (0+Int.toNat (IntKind.wrap .i64 (Int.ofNat (n+1) - 1))) (EK.AZ [SK.tok]))))):Value)=(.slice (some ⟨12,1,(some n)⟩) (List.length cur) 18446744073709551616))/\(Du (List.map some L) n cur)/\((List.length cur=List.length cur/\AF=AF)/\List.length cur < 400000)/\(Ca cur cur (List.map some L) (List.set (List.map some L) n none) n)/\(((.slice (some ⟨11,0,(some 0)⟩) (n+1) 18446744073709551616):Value)=(.slice (some ⟨11,0,(some 0)⟩) (n+1) 18446744073709551616))/\(((.pointer (some ⟨9,8,none⟩)):Value)=(.pointer (some ⟨9,8,none⟩)))/\(p_ 9=p_ 9)/\(p_ 9=p_ 9)/\(p_ 9=p_ 9)/\
 (bif true&&Nat.ble (0+(n+1)) (List.length (AP 12 L))&&BK 24 (n+1+1)then(p_ 9=p_ 9)/\(Q (.bool true) [some (vc_rc3_0 cfg n),some (.abs (Ab.pack (Pk.model (ED m 3 0 0 s v we wv))) false),none,some (.abs (Ab.mem [SK.str,SK.str] (List.map some L)) false),none,some (.vec ([SK.str,SK.str]) (Ar cur 3 s v) false),some (.vec [SK.tok] ((List.take (n+1) (List.drop 0 (AP 12 L)))++[(.slice (some ⟨17,0,(some 0)⟩) (List.length (Ar cur 3 s v)) 18446744073709551616)]) false)])else False)else False)else False)else(Q (.bool true) [some (vc_rc3_1 cfg n),some (.abs (Ab.pack (Pk.model (ED m 3 0 0 s v we wv))) false),some (.vec [SK.tok] (AP 12 L) false),some (.abs (Ab.mem AR (List.map some L)) false),none,none,none])))else(Q (.bool false) [some (vc_rc3_1 cfg n),some (.abs (Ab.pack (Pk.model m)) false),some (.vec [SK.tok] (AP 12 L) false),some (.abs (Ab.mem AR (List.map some L)) false),none,none,none]))else(List.length (AB.base m) < 1000000/\List.length (AB.now m) < 1000000/\List.length (AB.AJ m) < 1000000)/\(((.bool u):Value)=(.bool false))/\(((.agg ⟨[(.int .i64 11),(.string e_)]⟩):Value)=(.agg ⟨[(.int .i64 11),(.string e_)]⟩))/\(((.agg ⟨[(.int .i64 3),(.int .i64 0),(.int .i64 0),(.string s),(.string v)]⟩):Value)=(.agg ⟨[(.int .i64 3),(.int .i64 0),(.int .i64 0),(.string s),(.string v)]⟩))/\(Gh m 3 0 0 s v 11 e_)/\(((.bool u):Value)=(.bool false))/\(bif IN m 3 0 0 s v 11 e_==0 then(Q (.bool false) [some (vc_rc3_1 cfg n),some (.abs (Ab.pack (Pk.model m)) false),some (.vec [SK.tok] (AP 12 L) false),some (.abs (Ab.mem AR (List.map some L)) false),none,none,none])else(Gh m 3 0 0 s v we wv)/\(bif IN m 3 0 0 s v we wv != 0 then(Q (.bool false) [some (vc_rc3_1 cfg n),some (.abs (Ab.pack (Pk.model (ED m 3 0 0 s v we wv))) false),some (.vec [SK.tok] (AP 12 L) false),some (.abs (Ab.mem AR (List.map some L)) false),none,none,none])else(bif u then(bif decide (0<=IntKind.wrap .i64 (Int.ofNat (n+1) - 1))&&Nat.blt (Int.toNat (IntKind.wrap .i64 (Int.ofNat (n+1) - 1))) (n+1)then(bif Nat.blt (0+Int.toNat (IntKind.wrap .i64 (Int.ofNat (n+1) - 1))) (List.length (AP 12 L))&&Ek (SK.enc SK.tok (List.getD (AP 12 L) (0+Int.toNat (IntKind.wrap .i64 (Int.ofNat (n+1) - 1))) (EK.AZ [SK.tok])))then(((.agg ⟨[(.int .i64 3),(.int .i64 0),(.int .i64 0),(.string s),(.string v)]⟩):Value)=(.agg ⟨[(.int .i64 3),(.int .i64 0),(.int .i64 0),(.string s),(.string v)]⟩))/\(((.slice (some ⟨11,0,(some 0)⟩) (n+1) 18446744073709551616):Value)=(.slice (some ⟨11,0,(some 0)⟩) (n+1) 18446744073709551616))/\(((.pointer (some ⟨9,8,none⟩)):Value)=(.pointer (some ⟨9,8,none⟩)))/\(p_ 9=p_ 9)/\(p_ 9=p_ 9)/\(p_ 9=p_ 9)/\(((.slice (Cz (SK.enc SK.tok (List.getD (AP 12 L) (0+Int.toNat (IntKind.wrap .i64 (Int.ofNat (n+1) - 1))) (EK.AZ [SK.tok])))) (Cy (SK.enc SK.tok (List.getD (AP 12 L) (0+Int.toNat (IntKind.wrap .i64 (Int.ofNat (n+1) - 1))) (EK.AZ [SK.tok])))) (C0 (SK.enc SK.tok (List.getD (AP 12 L) (0+Int.toNat (IntKind.wrap .i64 (Int.ofNat (n+1) - 1))) (EK.AZ [SK.tok]))))):Value)=(.slice (some ⟨12,1,(some n)⟩) (List.length cur) 18446744073709551616))/\(Du (List.map some L) n cur)/\((List.length cur=List.length cur/\AF=AF)/\List.length cur < 400000)/\(Ca cur cur (List.map some L) (List.set (List.map some L) n none) n)/\(((.slice (some ⟨11,0,(some 0)⟩) (n+1) 18446744073709551616):Value)=(.slice (some ⟨11,0,(some 0)⟩) (n+1) 18446744073709551616))/\(((.pointer (some ⟨9,8,none⟩)):Value)=(.pointer (some ⟨9,8,none⟩)))/\(p_ 9=p_ 9)/\(p_ 9=p_ 9)/\(p_ 9=p_ 9)/\(bif true&&Nat.ble (0+(n+1)) (List.length (AP 12 L))&&BK 24 (n+1+1)then
 (p_ 9=p_ 9)/\(Q (.bool true) [some (vc_rc3_0 cfg n),some (.abs (Ab.pack (Pk.model (ED m 3 0 0 s v we wv))) false),none,some (.abs (Ab.mem [SK.str,SK.str] (List.map some L)) false),none,some (.vec ([SK.str,SK.str]) (Ar cur 3 s v) false),some (.vec [SK.tok] ((List.take (n+1) (List.drop 0 (AP 12 L)))++[(.slice (some ⟨17,0,(some 0)⟩) (List.length (Ar cur 3 s v)) 18446744073709551616)]) false)])else False)else False)else False)else(Q (.bool true) [some (vc_rc3_1 cfg n),some (.abs (Ab.pack (Pk.model (ED m 3 0 0 s v we wv))) false),some (.vec [SK.tok] (AP 12 L) false),some (.abs (Ab.mem AR (List.map some L)) false),none,none,none]))))))):=by kernel_rfl
theorem aw (cfg:List Int) (m:AB) (n:Nat) (L:List (List (EK.C AR))) (cur:List (EK.C AR)) (kind key val:Int) (s v:ByteArray) (Q:Value->List (Option AK)->Prop) (R:A8->Prop):L1 H0 (KK (FU n cur) cur 4 s v) AO [9,10,11,12] Rj Q R 400 (st AO 116 [p9,.agg ⟨[.int .u8 kind,.int .u8 key,.int .u8 val]⟩] (Q0 cfg m n L (AP 12 L)))=(
 ((DJ kind/\DJ key/\DJ val)/\aK kind=4/\aS kind key=s/\aV kind val=v)/\(bif decide (0<=IntKind.wrap .i64 (Int.ofNat (n+1) - 1))&&Nat.blt (Int.toNat (IntKind.wrap .i64 (Int.ofNat (n+1) - 1))) (n+1)then(bif Nat.blt (0+Int.toNat (IntKind.wrap .i64 (Int.ofNat (n+1) - 1))) (List.length (AP 12 L))&&Ek (SK.enc SK.tok (List.getD (AP 12 L) (0+Int.toNat (IntKind.wrap .i64 (Int.ofNat (n+1) - 1))) (EK.AZ [SK.tok])))then(((.string s):Value)=(.string s))/\(((.pointer (some ⟨14,3,none⟩)):Value)=(.pointer (some ⟨14,3,none⟩)))/\(((.slice (Cz (SK.enc SK.tok (List.getD (AP 12 L) (0+Int.toNat (IntKind.wrap .i64 (Int.ofNat (n+1) - 1))) (EK.AZ [SK.tok])))) (Cy (SK.enc SK.tok (List.getD (AP 12 L) (0+Int.toNat (IntKind.wrap .i64 (Int.ofNat (n+1) - 1))) (EK.AZ [SK.tok])))) (C0 (SK.enc SK.tok (List.getD (AP 12 L) (0+Int.toNat (IntKind.wrap .i64 (Int.ofNat (n+1) - 1))) (EK.AZ [SK.tok]))))):Value)=(.slice (some ⟨12,1,(some n)⟩) (List.length cur) 18446744073709551616))/\(Du (List.map some L) n cur)/\((List.length cur=List.length cur/\AF=AF)/\List.length cur < 1000000)/\(Ca cur cur (List.map some L) (List.set (List.map some L) n none) n)/\(bif Option.isSome (C5 cur s)then(((.bool (Option.isSome (C5 cur s))):Value)=(.bool true))/\(R (DG cfg m n L (Da [14,16] L) 4 0 0 s v 0 e_ false 0))else(((.bool (Option.isSome (C5 cur s))):Value)=(.bool false))/\(R (DG cfg m n L (Da [14,16] L) 4 0 0 s v 0 e_ false 0)))else False)else False)):=by kernel_rfl
abbrev vc_rc4_0 (cfg:List Int) (n:Nat):AK:=(.cells [(p_ 10),(.int .i64 (List.getD cfg 0 0)),(.int .i64 (List.getD cfg 1 0)),(.int .i64 (List.getD cfg 2 0)),(.int .i64 (List.getD cfg 3 0)),(.int .i64 (List.getD cfg 4 0)),(.int .i64 (List.getD cfg 5 0)),(.int .i64 (List.getD cfg 6 0)),(.slice (some ⟨11,0,(some 0)⟩) (n+1) AF)] 0 false)
theorem YV (cfg:List Int) (m:AB) (n:Nat) (L:List (List (EK.C AR))) (cur:List (EK.C AR)) (s v:ByteArray) (we:Int) (wv:ByteArray) (e:Int) (Q:Value->List (Option AK)->Prop) (R:A8->Prop):L1 H0 (KK (FU n cur) cur 4 s v) AO [9,10,11,12,16,17,19] Rj Q R 600 (DG cfg m n L (AP 12 L) 4 0 0 s v we wv false e)=(
 (bif decide (e<=17)then(bif !(e==we&&(ByteArray.toList e_==ByteArray.toList wv&&true))then(bif e != 11 then(List.length (AB.base m) < 1000000/\List.length (AB.now m) < 1000000/\List.length (AB.AJ m) < 1000000)/\(((.agg ⟨[(.int .i64 e),(.string e_)]⟩):Value)=(.agg ⟨[(.int .i64 e),(.string e_)]⟩))/\(((.agg ⟨[(.int .i64 4),(.int .i64 0),(.int .i64 0),(.string s),(.string v)]⟩):Value)=(.agg ⟨[(.int .i64 4),(.int .i64 0),(.int .i64 0),(.string s),(.string v)]⟩))/\(Gh m 4 0 0 s v e e_)/\(bif IN m 4 0 0 s v e e_ != 7 then(Q (.bool false) [some (vc_rc4_0 cfg n),some (.abs (Ab.pack (Pk.model m)) false),some (.vec [SK.tok] (AP 12 L) false),some (.abs (Ab.mem AR (List.map some L)) false),some (.abs (Ab.pack (Pk.model (ED m 4 0 0 s v e e_))) false),none,none])else(R (DG cfg m n L (Da [13,14] L) 4 0 0 s v we wv false (IntKind.wrap .i64 (e+1)))))else(R (DG cfg m n L (Da [13,14] L) 4 0 0 s v we wv false (IntKind.wrap .i64 (e+1)))))else(R (DG cfg m n L (Da [13,14] L) 4 0 0 s v we wv false (IntKind.wrap .i64 (e+1)))))else(List.length (AB.base m) < 1000000/\List.length (AB.now m) < 1000000/\List.length (AB.AJ m) < 1000000)/\(((.bool false):Value)=(.bool false))/\(((.agg ⟨[(.int .i64 11),(.string e_)]⟩):Value)=(.agg ⟨[(.int .i64 11),(.string e_)]⟩))/\(((.agg ⟨[(.int .i64 4),(.int .i64 0),(.int .i64 0),(.string s),(.string v)]⟩):Value)=(.agg ⟨[(.int .i64 4),(.int .i64 0),(.int .i64 0),(.string s),(.string v)]⟩))/\(Gh m 4 0 0 s v 11 e_)/\(((.bool false):Value)=(.bool false))/\(bif IN m 4 0 0 s v 11 e_==0 then(Q (.bool false) [some (vc_rc4_0 cfg n),some (.abs (Ab.pack (Pk.model m)) false),some (.vec [SK.tok] (AP 12 L) false),some (.abs (Ab.mem AR (List.map some L)) false),none,none,none])else(Gh m 4 0 0 s v we wv)/\(bif IN m 4 0 0 s v we wv != 0 then(Q (.bool false) [some (vc_rc4_0 cfg n),some (.abs (Ab.pack (Pk.model (ED m 4 0 0 s v we wv))) false),some (.vec [SK.tok] (AP 12 L) false),some (.abs (Ab.mem AR (List.map some L)) false),none,none,none])else(bif decide (0<=IntKind.wrap .i64 (Int.ofNat (n+1) - 1))&&Nat.blt (Int.toNat (IntKind.wrap .i64 (Int.ofNat (n+1) - 1))) (n+1)then(bif Nat.blt (0+Int.toNat (IntKind.wrap .i64 (Int.ofNat (n+1) - 1))) (List.length (AP 12 L))&&Ek (SK.enc SK.tok (List.getD (AP 12 L) (0+Int.toNat (IntKind.wrap .i64 (Int.ofNat (n+1) - 1))) (EK.AZ [SK.tok])))then(Q (.bool true) [some (.cells [(p_ 10),(.int .i64 (List.getD cfg 0 0)),(.int .i64 (List.getD cfg 1 0)),(.int .i64 (List.getD cfg 2 0)),(.int .i64 (List.getD cfg 3 0)),(.int .i64 (List.getD cfg 4 0)),(.int .i64 (List.getD cfg 5 0)),(.int .i64 (List.getD cfg 6 0)),(.slice (some ⟨16,0,none⟩) 1 1)] 0 false),some (.abs (Ab.pack (Pk.model (ED m 4 0 0 s v we wv))) false),some (.vec [SK.tok] (AP 12 L) false),some (.abs (Ab.mem AR (List.map some L)) false),some (.cells [(.slice (Cz (SK.enc SK.tok (List.getD (AP 12 L) (0+Int.toNat (IntKind.wrap .i64 (Int.ofNat (n+1) - 1))) (EK.AZ [SK.tok])))) (Cy (SK.enc SK.tok (List.getD (AP 12 L) (0+Int.toNat (IntKind.wrap .i64 (Int.ofNat (n+1) - 1))) (EK.AZ [SK.tok])))) (C0 (SK.enc SK.tok (List.getD (AP 12 L) (0+Int.toNat (IntKind.wrap .i64 (Int.ofNat (n+1) - 1))) (EK.AZ [SK.tok])))))] 1 false),none,none])else False)else False))))):=by kernel_rfl
end Go.AI
namespace Go.AI
section
variable {base:Env} {W0:World} {μ:Ai} {H:AA} {W:World}
def AA.only (H:AA) (a j y:Nat) (L:List (List (ByteArray × ByteArray))) (l:List (ByteArray × ByteArray)) (n c:Nat):AA:=
 ((((((H.MD a j [.str,.str] (L.map some) l).del a).alloc (.abs (.mem [.str,.str] [none]) false)).del H.next).put (H.next+1) (.abs (.mem [.str,.str] [some l]) false)).put y (.vec [.tok] [Value.slice (some ⟨H.next+1,1,some 0⟩) n c] false))
theorem KU {a j y:Nat} {L:List (List (ByteArray × ByteArray))} {l:List (ByteArray × ByteArray)} {n c:Nat} (x:Nat):(H.only a j y L l n c).get x=
 if x=y then some (.vec [.tok] [Value.slice (some ⟨H.next+1,1,some 0⟩) n c] false)else if x=H.next+1 then some (.abs (.mem [.str,.str] [some l]) false)else if x=H.next then none else if x=a then none else H.get x:=by
 unfold AA.only;rw[AA.AQ];split
 ·rfl
 ·rw[AA.AQ];split
  ·rfl
  ·rename_i h1 h2;rw[AA.Bb];split
   ·rfl
   ·rename_i h3;rw[AA.AW,if_neg (by show x≠H.next+1;exact h2),AA.Bb];split
    ·rfl
    ·rename_i h4;rw[GX,if_neg h3,if_neg h4]
theorem AT.only (h:AT base W0 μ H W) {a j y n c:Nat} {L:List (List (ByteArray × ByteArray))} {l:List (ByteArray × ByteArray)} {T:B7} (ha:H.get a=some (.abs (.mem [.str,.str] (L.map some)) false)) (hm:μ a=some T) (hj:L[j]? = some l)
 (hy:H.get y=some (.vec [.tok] [Value.slice (some ⟨a,1,some j⟩) n c] false)):∃μ2,μ.le μ2/\AT base W0 μ2 (H.only a j y L l n c) W:=by
 have hlt:=h.lt ha;have hyl:=h.lt hy;have hya:y≠a:=by rintro rfl;rw[ha]at hy;cases hy
 have hj2:(L.map some)[j]? = some (some l):=by rw[List.getElem?_map,hj];rfl
 obtain⟨ts,M,e1,e2,h1⟩:=h.MD ha hm hj2;have hle1:μ.le (μ.ext H.next M):=Ai.DU M (h.fresh _ (Nat.le_refl _)).2;have ga:(H.MD a j [.str,.str] (L.map some) l).get a=some (.abs (.mem [.str,.str] ((L.map some).set j none)) false):=by rw[GX,if_neg (by omega),if_pos rfl]
 have h2:=h1.renew (L2:=[none]) (ts2:=[M]) ga (hle1 a T hm) e1 rfl (fun i N m g1 g2=>by
  cases i with
  | zero=>cases g2
  | succ i=>cases g2)
 have hn1:(H.MD a j [.str,.str] (L.map some) l).next=H.next+1:=rfl;rw[hn1]at h2;have hle2:(μ.ext H.next M).le ((μ.ext H.next M).ext (H.next+1) { T with e:=C1 [M] }):=Ai.DU _ (by rw[Ai.Bl _ _ (by omega)];exact(h.fresh _ (by omega)).2);have mz:((μ.ext H.next M).ext (H.next+1) { T with e:=C1 [M] }) H.next=some M:=hle2 _ _ (Ai.Av _ _ _);have ma:((μ.ext H.next M).ext (H.next+1) { T with e:=C1 [M] }) a=some T:=hle2 _ _ (hle1 a T hm);have h3:=h2.Tf (a:=H.next+1) (z:=H.next) (j:=0) (k:=[.str,.str]) (by rfl) (L:=[none]) (l:=l) (T:={ T with e:=C1 [M] }) (M:=M) (ts:=[M])
  (by rw[AA.AW];exact if_pos rfl) (Ai.Av _ _ _) rfl rfl (by rw[AA.AW,if_neg (by show H.next≠H.next+1;omega),AA.Bb,if_neg (by omega),GX,if_pos rfl]) mz (by decide)
 refine⟨_,Ai.le_trans hle1 hle2,h3.UA (x:=[Value.slice (some ⟨a,1,some j⟩) n c]) ?_ rfl ?_⟩
 ·rw[AA.AQ,if_neg (by omega),AA.Bb,if_neg (by omega),AA.AW,if_neg (by show y≠H.next+1;omega),AA.Bb,if_neg hya,GX,if_neg (by omega),if_neg hya];exact hy
 ·intro i v v' g1 g2 w hw;cases i with
  | succ i=>cases g1
  | zero=>
   cases g1;cases g2
   refine AM.XT ma (Ai.Av _ _ _) (fun N hN=>?_) hw;rw[e1,FF,e2]at hN;cases hN
   show Jc (C1 [M]) 0=some M;rw[FF];rfl
theorem AT.ji (h:AT base W0 μ H W) {g:Nat} {T:B7} (k:EK) (hk:k.length≠0) (hm:μ g=some T):
 AT base W0 (μ.ext H.next ⟨T.c,0,0,C1 [⟨T.c,0,0,k.length⟩]⟩) (H.alloc (.abs (.mem k [some []]) false)) W:=by
 obtain⟨φ,q⟩:=h.abs;have hb:=h.bound g T hm;generalize hT2:(⟨T.c,0,0,C1 [⟨T.c,0,0,k.length⟩]⟩:B7)=T2;have hTc:T2.c=T.c:=by rw[<-hT2]
 have hTe:T2.e=C1 [⟨T.c,0,0,k.length⟩]:=by rw[<-hT2]
 have hle:μ.le (μ.ext H.next T2):=Ai.DU T2 (h.fresh _ (Nat.le_refl _)).2;have get:∀x,(H.alloc (.abs (.mem k [some []]) false)).get x=if x=H.next then some (.abs (.mem k [some []]) false)else H.get x:=fun x=>AA.AW ..
 have key:∀b o' T3,(H.alloc (.abs (.mem k [some []]) false)).get b=some o'->(μ.ext H.next T2) b=some T3->(b=H.next/\o'= .abs (.mem k [some []]) false/\T3=T2)∨(b≠H.next/\H.get b=some o'/\μ b=some T3):=by
  intro b o' T3 hb hT;rw[get]at hb
  by_cases e:b=H.next
  ·rw[if_pos e]at hb;cases hb
   subst e;rw[Ai.Av]at hT;cases hT
   exact .inl ⟨rfl,rfl,rfl⟩
  ·rw[if_neg e]at hb;rw[Ai.Bl _ _ e]at hT;exact .inr ⟨e,hb,hT⟩
 let φ':Nat->Nat->Prop:=fun b x=>if b=H.next then False else φ b x
 have φn:∀x,φ' H.next x ↔ False:=fun x=>by show(if H.next=H.next then _ else _) ↔ _;rw[if_pos rfl]
 have φo:∀b,b≠H.next->φ' b=φ b:=fun b hb=>by funext x;show(if b=H.next then _ else _)=_;rw[if_neg hb]
 have hvd:(AK.vec k [] false).void ⟨T.c,0,0,k.length⟩:=⟨rfl,rfl,hk⟩;have one:∀(j:Nat) (M:B7),([⟨T.c,0,0,k.length⟩]:List B7)[j]? = some M->j=0/\M=⟨T.c,0,0,k.length⟩:=fun j M h1=>by
  cases j with
  | zero=>cases h1;exact⟨rfl,rfl⟩
  | succ j=>cases h1
 have hnil:∀(j:Nat) (l:List (EK.C k)),([some []]:List (Option (List (EK.C k))))[j]? = some (some l)->l=[]:=fun j l h1=>by
  cases j with
  | zero=>cases h1;rfl
  | succ j=>cases h1
 refine⟨?_,?_,?_,?_,?_,h.size,h.below,h.out,h.os,⟨φ',?_,?_⟩,Ai.le_trans h.le hle,h.grow⟩
 ·intro b o' hb' T3 hT;rcases key b o' T3 hb' hT with⟨rfl,rfl,rfl⟩ | ⟨_,hb',hT⟩
  ·exact⟨W.heap[T.c],by rw[hTc];exact Array.getElem?_eq_getElem hb,.abs _ _ _ _⟩
  ·obtain⟨p,hp,hp2⟩:=h.obj b o' hb' T3 hT;exact⟨p,hp,hp2.mono hle⟩
 ·intro b o' hb' hr T3 hT hv3;rcases key b o' T3 hb' hT with⟨rfl,rfl,rfl⟩ | ⟨_,hb',hT⟩
  ·exact absurd trivial hv3
  ·exact h.own b o' hb' hr T3 hT hv3
 ·intro b1 b2 o3 o4 h1 h2 T3 T4 m1 m2 v1 v2 hcc hrr;rcases key b1 o3 T3 h1 m1 with⟨rfl,rfl,rfl⟩ | ⟨n1,g1,k1⟩<;>rcases key b2 o4 T4 h2 m2 with⟨rfl,rfl,rfl⟩ | ⟨n3,g2,k2⟩
  ·rfl
  ·exact absurd trivial v1
  ·exact absurd trivial v2
  ·exact h.inj _ _ o3 o4 g1 g2 T3 T4 k1 k2 v1 v2 hcc hrr
 ·intro b hb';have hb':H.next+1<=b:=hb';refine⟨?_,by rw[Ai.Bl _ _ (by omega)];exact(h.fresh b (by omega)).2⟩;rw[get,if_neg (by omega)];exact(h.fresh b (by omega)).1
 ·intro b T3 hT
  by_cases e:b=H.next
  ·subst e;rw[Ai.Av]at hT;cases hT
   rw[hTc];exact hb
  ·rw[Ai.Bl _ _ e]at hT;exact h.bound b T3 hT
 ·intro b c ro T3 hb' hT;rcases key b _ T3 hb' hT with⟨rfl,e,rfl⟩ | ⟨n1,hb',hT⟩
  ·cases e
   refine⟨⟨_,hTe,rfl,by rw[hTc];exact hb,fun j M l h1 h2=>?_,fun i j M N l m h1 h2 _ _ _ _ _=>by rw[(one i M h1).1,(one j N h2).1],fun x=>⟨fun hx=>((φn x).1 hx).elim,?_⟩⟩,fun _ i hi=>((φn i).1 hi).elim⟩
   ·obtain⟨rfl,rfl⟩:=one j M h1;have:=hnil _ l h2;subst this
    exact⟨W.heap[T.c],Array.getElem?_eq_getElem hb,.Ei _ _ _ _ rfl rfl hk⟩
   ·rintro⟨j,M,l,h1,h2,h3,_⟩;obtain⟨rfl,rfl⟩:=one j M h1;have:=hnil _ l h2;subst this
    exact absurd hvd h3
  ·obtain⟨r1,r2⟩:=q.rep b c ro T3 hb' hT;rw[φo b n1];exact⟨r1.mono hle,r2⟩
 ·intro b c ro T3 hb' hT b2 o2 T4 hb2 hT4 hne;rcases key b _ T3 hb' hT with⟨rfl,e,rfl⟩ | ⟨n1,g1,k1⟩
  ·exact⟨fun _ hh=>(φn _).1 hh,fun _ i hi=>((φn i).1 hi).elim⟩
  ·rw[φo b n1];rcases key b2 o2 T4 hb2 hT4 with⟨rfl,rfl,rfl⟩ | ⟨n3,g2,k2⟩
   ·exact⟨fun hv2=>absurd trivial hv2,fun _ i _ hi2=>(φn i).1 hi2⟩
   ·rw[φo b2 n3];exact q.ER b c ro T3 g1 k1 b2 o2 T4 g2 k2 hne
end
end Go.AI
namespace Go.AI
open Go.Proofs
theorem GF {z n:Nat} {L:List (List (EK.C AR))} {cur:List (EK.C AR)} (hn:L[n]? = some cur):List.getD (AP z L) (0+Int.toNat (n:Int)) (EK.AZ [SK.tok])= .slice (some ⟨z,1,some n⟩) cur.length AF:=by
 rw[Int.toNat_natCast,Nat.zero_add,List.getD_eq_getElem?_getD];have h:(AP z L)[n]? = some (Value.slice (some ⟨z,1,some n⟩) cur.length AF):=by rw[K0];rw[show L[n]? = some cur from hn];rfl
 exact congrArg (fun o=>Option.getD o (EK.AZ [SK.tok])) h
theorem Di {n z:Nat} {L:List (List (EK.C AR))} {cur:List (EK.C AR)} (h:n < 1000000) (hL:L.length=n+1) (hn:L[n]? = some cur):(Nat.blt (0+Int.toNat (IntKind.wrap .i64 (Int.ofNat (n+1) - 1))) (List.length (AP z L))&&Ek (SK.enc SK.tok (List.getD (AP z L) (0+Int.toNat (IntKind.wrap .i64 (Int.ofNat (n+1) - 1))) (EK.AZ [SK.tok]))))=true:=by
 rw[TK h,GF hn,Cd,hL,Int.toNat_natCast,Nat.zero_add];have:Nat.blt n (n+1)=true:=Nat.ble_eq_true_of_le (by omega);rw[this];rfl
theorem En {n z:Nat} {L:List (List (EK.C AR))} {cur:List (EK.C AR)} (h:n < 1000000) (hn:L[n]? = some cur):Value.slice (Cz (SK.enc SK.tok (List.getD (AP z L) (0+Int.toNat (IntKind.wrap .i64 (Int.ofNat (n+1) - 1))) (EK.AZ [SK.tok])))) (Cy (SK.enc SK.tok (List.getD (AP z L) (0+Int.toNat (IntKind.wrap .i64 (Int.ofNat (n+1) - 1))) (EK.AZ [SK.tok])))) (C0 (SK.enc SK.tok (List.getD (AP z L) (0+Int.toNat (IntKind.wrap .i64 (Int.ofNat (n+1) - 1))) (EK.AZ [SK.tok]))))= .slice (some ⟨z,1,some n⟩) cur.length 18446744073709551616:=by
 rw[TK h,GF hn,EH];rfl
theorem Ih {ρ:Rn} {b:Nat} (hb:∀j n,IM ρ (.slice (some ⟨b,1,some j⟩) n AF)= .slice (some ⟨b,1,some j⟩) n AF):∀(j:Nat) (L:List (List (EK.C AR))),List.map (IM ρ) (D9 b j L)=D9 b j L
 | _,[]=>rfl
 | j,l::L=>by
  show IM ρ (.slice (some ⟨b,1,some j⟩) l.length AF)::List.map (IM ρ) (D9 b (j+1) L)=_;rw[hb,Ih hb (j+1) L];rfl
theorem CO (ids:List Nat) (L:List (List (EK.C AR))):Da ids L=AP 12 L:=Ih (fun _ _=>rfl) 0 L
theorem CK {L:List (List (EK.C AR))} {n:Nat} {cur:List (EK.C AR)} (h:L[n]? = some cur):Du (L.map some) n cur:=⟨by rw[List.getElem?_map,h];rfl⟩
theorem KW {X:Ctx} {f:FuncId} {F:Cn} {p:EB} (hX:X.Ep f=some (KS F)) (hp:∀(args:List Value) (H:AA) (K:Value->AA->Prop),p args H K->∃v H',F args H=some (v,H')/\K v H') (args:List Value) (H:AA) (K:Value->AA->Prop) (h:Sg p args H K):
 ∃v H',Bd X f args .normal H=some (v,H')/\K v H':=by
 unfold Sg at h;split at h
 ·rename_i b i n c r;obtain⟨v,H2,h1,h2⟩:=hp _ _ _ h;refine⟨v,H2,?_,h2⟩;have e:KS F (.slice (some ⟨b,0,some i⟩) n c::r) H=some (v,H2):=by
   unfold KS;exact h1
  unfold Bd;rw[hX];exact e
 ·exact h.elim
end Go.AI
