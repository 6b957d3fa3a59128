/-
  Part of the proof: the machine that runs a program by fixed orders, and that each of its runs is a run of the model; or a run of it in parts. No conditions.
-/
import Derived.Test.YtbojbpalkegahaaGreatDoorAbr
import Derived.Test.YtbojbpalkegahaaGreatDoorWrkD
set_option maxRecDepth 1000000
namespace Go.AD
open Go.Proofs
abbrev BT:EK:=[.int .u8,.int .u8,.int .u8]
noncomputable abbrev eY:List (FuncId × Ci):=[(Hv,RK VA),(BR,Ay AM 9 [] TJ),(AK,Ay AM 9 [true,true,true] Sx),(A7,qOp.F),(Ag,Ay AM 9 [true] Zr),(By,Ay AM 9 [true] GZ.G),
 (BC,Ay AM 9 [true] Kb),(AI,Ay AM 9 [true] ev),(Am,KX (Ay AM 9 [] JI)),(AZ,Ay AM 9 [true] ZB),(Ao,Ay AM 9 [] TX),(Ar,KX (Ay AM 9 [] Kl)),(CA,Ay AM 9 [true] Ky.G),(Ba,Ay AM 9 [true] Zm.G)]
noncomputable def LG:Ctx:=Cf Tryz.prog AM eY
noncomputable def V0:Pf:=fun g=>bif Nat.beq g BR then some (Bh AM 9 [] TJ)else bif Nat.beq g AK then some (Bh AM 9 [true,true,true] Sx)else bif Nat.beq g A7 then some fg else bif Nat.beq g Ag then some (Bh AM 9 [true] Zr)else bif Nat.beq g By then some (Bh AM 9 [true] GZ.G)else
 bif Nat.beq g Am then some (fun _ _ _=>False)else bif Nat.beq g DN then some (fun _ _ _=>False)else Cp g
noncomputable def ae (x:Value) (cur:List (EK.C AT)):Pf:=fun g=>bif Nat.beq g Am then some (I5 x (SV (Bh AM 9 [] JI) cur))else bif Nat.beq g BC then some (Bh AM 9 [true] Kb)else bif Nat.beq g AI then some (Bh AM 9 [true] ev)else bif Nat.beq g DN then some (fun _ _ _=>False)else Cp g
noncomputable def aQ (x:Value) (cur:List (EK.C AT)):Pf:=fun g=>bif Nat.beq g Am then some (I5 x (SV (Bh AM 9 [] JI) cur))else bif Nat.beq g BC then some (fun _ _ _=>False)else bif Nat.beq g AZ then some (Bh AM 9 [true] ZB)else bif Nat.beq g Ao then some (Bh AM 9 [] TX)else
 bif Nat.beq g Ar then some (I5 x (SV (Bh AM 9 [] Kl) cur))else bif Nat.beq g CA then some (Bh AM 9 [true] Ky.G)else bif Nat.beq g Ba then some (Bh AM 9 [true] Zm.G)else Cp g
noncomputable def dL (l more:List (EK.C BT)):AA:=((⟨.leaf,9⟩:AA).alloc (.vec BT l true)).alloc (.vec BT more true)
def X9:ByteArray:={ data:=#[48,44,55] }
noncomputable def Zb (t:Tr Value) (p:List Nat) (q:List Nat) (b:Nat) (H:AA):A5:=
 ⟨⟨AL,t,210,[.code (BH Tryz.prog AL p),.inLoop (BH Tryz.prog AL p),.inBlock b,.code (BH Tryz.prog AL q)],[],false,.normal,none⟩,[],H⟩
noncomputable def Sk (l more:List (EK.C BT)) (times:Int) (cfg:List Int) (mk tk:Pk) (len:Nat) (i:Int):A5:=
 Zb (HQ [(1,PM l.length),(2,DW 10 more.length),(3,.int .u8 times),(9,De 11),(10,.int .i64 i)]) [1,1,1,1,0,1,0,0] [1,1,1,1,1] 0 (Dp (dL l more) [.cells (LZ cfg 12 13 len) 0 false,.abs (.pack mk) false,.abs (.pack tk) false])
noncomputable def Pv (l more:List (EK.C BT)) (times:Int) (cfg:List Int) (mk tk:Pk) (len:Nat) (i:Int):A5:=
 Zb (HQ [(2,DW 10 more.length),(3,.int .u8 times),(9,De 11),(11,De 12),(12,De 13),(13,De 14),(14,.int .i64 i)]) [1,1,1,1,1,1,1,1,1,0,1,0,0] [1,1,1,1,1,1,1,1,1,1] 2
  (Dp (dL l more) [.cells (LZ cfg 15 16 len) 0 false,RL 7 0 0 { data:=#[] } X9,RL 8 0 0 { data:=#[] } { data:=#[] },.cells [.int .i64 13,.string { data:=#[] }] 0 false,.abs (.pack mk) false,.abs (.pack tk) false])
noncomputable def PO (l more:List (EK.C BT)) (times:Int) (cfg:List Int) (mk tk:Pk) (len:Nat) (i:Int):A5:=
 Zb (HQ [(3,.int .u8 times),(9,De 11),(11,De 12),(12,De 13),(13,De 14),(15,.int .i64 i)]) [1,1,1,1,1,1,1,1,1,1,1,1,0,1,0,0] [1,1,1,1,1,1,1,1,1,1,1,1,1] 4
  (Dp (dL l more) [.cells (LZ cfg 15 16 len) 0 false,RL 7 9 0 { data:=#[] } X9,RL 8 0 0 { data:=#[] } { data:=#[] },.cells [.int .i64 13,.string { data:=#[] }] 0 false,.abs (.pack mk) false,.abs (.pack tk) false])
noncomputable def dU (l more:List (EK.C BT)) (cfg:List Int) (len:Nat) (i:Int) (os:List AJ):A5:=
 Zb (HQ [(9,De 11),(16,.int .i64 i)]) [1,1,1,1,1,1,1,1,1,1,1,1,1,1,0,1,0,0] [1,1,1,1,1,1,1,1,1,1,1,1,1,1,1] 6 (Dp (dL l more) (.cells (LZ cfg 12 13 len) 0 false::os))
noncomputable def PW (l more:List (EK.C BT)) (cfg:List Int) (mk tk:Pk) (len:Nat) (i:Int):A5:=dU l more cfg len i [.abs (.pack mk) false,.abs (.pack tk) false]
noncomputable def QN (l more:List (EK.C BT)) (cfg:List Int) (mk:Pk) (L:List (List (EK.C AT))) (row:List (EK.C [.tok])) (len:Nat) (i:Int):A5:=dU l more cfg len i [.abs (.pack mk) false,.vec [.tok] row false,.abs (.mem AT (L.map some)) false]
noncomputable def V9 (ids:List Nat) (L:List (List (EK.C AT))):List (EK.C [.tok]):=List.map (Na (O3 15 ids)) (Ae 14 L)
noncomputable def PJ (n:Nat) (cur:List (EK.C AT)):Value:= .slice (some ⟨14,1,some n⟩) cur.length AE
def Wf:Stop:=⟨AL,0,3,11,[9,10],[1,2,3,9,10]⟩
def Rr:Stop:=⟨AL,0,3,11,[9,10],[2,3,9,11,12,13,14]⟩
def Y9:Stop:=⟨AL,0,3,11,[9,10],[3,9,11,12,13,15]⟩
def eP:Stop:=⟨AL,0,3,11,[9,10],[9,16]⟩
def YR:Stop:=⟨AL,0,3,15,[9,10,11,12,13,14],[9,16]⟩
theorem cI (l more:List (EK.C BT)) (slots times:Int) (Q:Value→List (Option AJ)→Prop) (R R2:A5→Prop):dC LG V0 AL [] Wf 0 Rr 2 [] Q R R2 400 (st AL 210 [.int .u8 slots,PM l.length,DW 10 more.length,.int .u8 times] (dL l more))=(
 (bif decide (Int.ofNat (List.length l) > 40)then(Q (.bool true) [])else(bif decide (Int.ofNat (List.length more) > 20)then(Q (.bool true) [])else(Eg slots)∧(R (Sk l more times (Dt (Int.tmod slots 8)) (Pk.model (m0 (Int.tmod slots 8))) (Pk.Bd [[]]) 1 0))))):=by kernel_rfl
theorem Wc (l more:List (EK.C BT)) (times:Int) (cfg:List Int) (m:AB) (L:List (List (EK.C AT))) (i:Int) (Q:Value→List (Option AJ)→Prop) (R R2:A5→Prop):dC LG V0 AL [] Wf 0 Rr 2 [] Q R R2 600 (Sk l more times cfg (.model m) (.Bd L) L.length i)=(
 (bif decide (i < Int.ofNat (List.length l))then(bif decide (0≤i)&&Nat.blt (Int.toNat i) (List.length l)then(bif Nat.blt (0+Int.toNat i) (List.length l)then((List.length L=List.length L∧AE=AE)∧Rj [List.getD cfg 0 0,List.getD cfg 1 0,List.getD cfg 2 0,List.getD cfg 3 0,List.getD cfg 4 0,List.getD cfg 5 0,List.getD cfg 6 0] m L (Prod.fst (List.getD l (0+Int.toNat i) (EK.AU BT))) (Prod.fst (Prod.snd (List.getD l (0+Int.toNat i) (EK.AU BT)))) (Prod.snd (Prod.snd (List.getD l (0+Int.toNat i) (EK.AU BT)))))∧(bif Qv [List.getD cfg 0 0,List.getD cfg 1 0,List.getD cfg 2 0,List.getD cfg 3 0,List.getD cfg 4 0,List.getD cfg 5 0,List.getD cfg 6 0] (Bi L) (Prod.fst (List.getD l (0+Int.toNat i) (EK.AU BT))) (Prod.fst (Prod.snd (List.getD l (0+Int.toNat i) (EK.AU BT)))) (Prod.snd (Prod.snd (List.getD l (0+Int.toNat i) (EK.AU BT))))then(R (Sk l more times cfg (Pk.model (cM [List.getD cfg 0 0,List.getD cfg 1 0,List.getD cfg 2 0,List.getD cfg 3 0,List.getD cfg 4 0,List.getD cfg 5 0,List.getD cfg 6 0] m (Bi L) (Prod.fst (List.getD l (0+Int.toNat i) (EK.AU BT))) (Prod.fst (Prod.snd (List.getD l (0+Int.toNat i) (EK.AU BT)))) (Prod.snd (Prod.snd (List.getD l (0+Int.toNat i) (EK.AU BT)))))) (Pk.Bd L) (List.length L) (IntKind.wrap .i64 (i+1))))else(R (Sk l more times cfg (Pk.model (cM [List.getD cfg 0 0,List.getD cfg 1 0,List.getD cfg 2 0,List.getD cfg 3 0,List.getD cfg 4 0,List.getD cfg 5 0,List.getD cfg 6 0] m (Bi L) (Prod.fst (List.getD l (0+Int.toNat i) (EK.AU BT))) (Prod.fst (Prod.snd (List.getD l (0+Int.toNat i) (EK.AU BT)))) (Prod.snd (Prod.snd (List.getD l (0+Int.toNat i) (EK.AU BT)))))) (Pk.Bd (Gg [List.getD cfg 0 0,List.getD cfg 1 0,List.getD cfg 2 0,List.getD cfg 3 0,List.getD cfg 4 0,List.getD cfg 5 0,List.getD cfg 6 0] L (Prod.fst (List.getD l (0+Int.toNat i) (EK.AU BT))) (Prod.fst (Prod.snd (List.getD l (0+Int.toNat i) (EK.AU BT)))) (Prod.snd (Prod.snd (List.getD l (0+Int.toNat i) (EK.AU BT)))))) (List.length (Gg [List.getD cfg 0 0,List.getD cfg 1 0,List.getD cfg 2 0,List.getD cfg 3 0,List.getD cfg 4 0,List.getD cfg 5 0,List.getD cfg 6 0] L (Prod.fst (List.getD l (0+Int.toNat i) (EK.AU BT))) (Prod.fst (Prod.snd (List.getD l (0+Int.toNat i) (EK.AU BT)))) (Prod.snd (Prod.snd (List.getD l (0+Int.toNat i) (EK.AU BT)))))) (IntKind.wrap .i64 (i+1)))))else False)else False)else(Lx m 7 0 0 { data:=#[] } { data:=#[48,44,55] })∧(bif NH m 7 0 0 { data:=#[] } { data:=#[48,44,55] } 0 { data:=#[] } != 0 then(Q (.bool false) [])else(R2 (Pv l more times cfg (Pk.model (H5 m 7 0 0 { data:=#[] } { data:=#[48,44,55] } 0 { data:=#[] })) (Pk.Bd L) (List.length L) 0))))):=by kernel_rfl
theorem bG (l more:List (EK.C BT)) (times:Int) (cfg:List Int) (m:AB) (L:List (List (EK.C AT))) (i:Int) (Q:Value→List (Option AJ)→Prop) (R R2:A5→Prop):dC LG V0 AL [] Rr 2 Y9 4 [] Q R R2 600 (Pv l more times cfg (.model m) (.Bd L) L.length i)=(
 (bif decide (i < Int.ofNat (List.length more))then(bif decide (0≤i)&&Nat.blt (Int.toNat i) (List.length more)then(bif Nat.blt (0+Int.toNat i) (List.length more)then(Eg (Prod.fst (List.getD more (0+Int.toNat i) (EK.AU BT)))∧Eg (Prod.fst (Prod.snd (List.getD more (0+Int.toNat i) (EK.AU BT))))∧Eg (Prod.snd (Prod.snd (List.getD more (0+Int.toNat i) (EK.AU BT)))))∧(((.agg ⟨[(.int .i64 0),(.string ({ data:=#[] }))]⟩):Value)=(.agg ⟨[(.int .i64 0),(.string ({ data:=#[] }))]⟩))∧(((.pointer (some ⟨15,0,none⟩)):Value)=(.pointer (some ⟨15,0,none⟩)))∧(((.pointer (some ⟨11,0,none⟩)):Value)=(.pointer (some ⟨11,0,none⟩)))∧(((.pointer (some ⟨11,0,none⟩)):Value)=(.pointer (some ⟨11,0,none⟩)))∧(((.pointer (some ⟨11,0,none⟩)):Value)=(.pointer (some ⟨11,0,none⟩)))∧(Lx m (aK (Prod.fst (List.getD more (0+Int.toNat i) (EK.AU BT)))) 0 0 (aS (Prod.fst (List.getD more (0+Int.toNat i) (EK.AU BT))) (Prod.fst (Prod.snd (List.getD more (0+Int.toNat i) (EK.AU BT))))) (aV (Prod.fst (List.getD more (0+Int.toNat i) (EK.AU BT))) (Prod.snd (Prod.snd (List.getD more (0+Int.toNat i) (EK.AU BT))))))∧(bif NH m (aK (Prod.fst (List.getD more (0+Int.toNat i) (EK.AU BT)))) 0 0 (aS (Prod.fst (List.getD more (0+Int.toNat i) (EK.AU BT))) (Prod.fst (Prod.snd (List.getD more (0+Int.toNat i) (EK.AU BT))))) (aV (Prod.fst (List.getD more (0+Int.toNat i) (EK.AU BT))) (Prod.snd (Prod.snd (List.getD more (0+Int.toNat i) (EK.AU BT))))) 0 { data:=#[] } != 7 then(Q (.bool false) [])else(bif decide (0≤i)&&Nat.blt (Int.toNat i) (List.length more)then(bif Nat.blt (0+Int.toNat i) (List.length more)then(Eg (Prod.fst (List.getD more (0+Int.toNat i) (EK.AU BT)))∧Eg (Prod.fst (Prod.snd (List.getD more (0+Int.toNat i) (EK.AU BT))))∧Eg (Prod.snd (Prod.snd (List.getD more (0+Int.toNat i) (EK.AU BT)))))∧(((.agg ⟨[(.int .i64 13),(.string ({ data:=#[] }))]⟩):Value)=(.agg ⟨[(.int .i64 13),(.string ({ data:=#[] }))]⟩))∧(((.pointer (some ⟨15,0,none⟩)):Value)=(.pointer (some ⟨15,0,none⟩)))∧(((.pointer (some ⟨11,0,none⟩)):Value)=(.pointer (some ⟨11,0,none⟩)))∧(((.pointer (some ⟨11,0,none⟩)):Value)=(.pointer (some ⟨11,0,none⟩)))∧(((.pointer (some ⟨11,0,none⟩)):Value)=(.pointer (some ⟨11,0,none⟩)))∧(Lx (H5 m (aK (Prod.fst (List.getD more (0+Int.toNat i) (EK.AU BT)))) 0 0 (aS (Prod.fst (List.getD more (0+Int.toNat i) (EK.AU BT))) (Prod.fst (Prod.snd (List.getD more (0+Int.toNat i) (EK.AU BT))))) (aV (Prod.fst (List.getD more (0+Int.toNat i) (EK.AU BT))) (Prod.snd (Prod.snd (List.getD more (0+Int.toNat i) (EK.AU BT))))) 0 { data:=#[] }) (aK (Prod.fst (List.getD more (0+Int.toNat i) (EK.AU BT)))) 0 0 (aS (Prod.fst (List.getD more (0+Int.toNat i) (EK.AU BT))) (Prod.fst (Prod.snd (List.getD more (0+Int.toNat i) (EK.AU BT))))) (aV (Prod.fst (List.getD more (0+Int.toNat i) (EK.AU BT))) (Prod.snd (Prod.snd (List.getD more (0+Int.toNat i) (EK.AU BT))))))∧(bif NH (H5 m (aK (Prod.fst (List.getD more (0+Int.toNat i) (EK.AU BT)))) 0 0 (aS (Prod.fst (List.getD more (0+Int.toNat i) (EK.AU BT))) (Prod.fst (Prod.snd (List.getD more (0+Int.toNat i) (EK.AU BT))))) (aV (Prod.fst (List.getD more (0+Int.toNat i) (EK.AU BT))) (Prod.snd (Prod.snd (List.getD more (0+Int.toNat i) (EK.AU BT))))) 0 { data:=#[] }) (aK (Prod.fst (List.getD more (0+Int.toNat i) (EK.AU BT)))) 0 0 (aS (Prod.fst (List.getD more (0+Int.toNat i) (EK.AU BT))) (Prod.fst (Prod.snd (List.getD more (0+Int.toNat i) (EK.AU BT))))) (aV (Prod.fst (List.getD more (0+Int.toNat i) (EK.AU BT))) (Prod.snd (Prod.snd (List.getD more (0+Int.toNat i) (EK.AU BT))))) 13 { data:=#[] } != 0 then(Q (.bool false) [])else
 (R (Pv l more times cfg (Pk.model (H5 (H5 m (aK (Prod.fst (List.getD more (0+Int.toNat i) (EK.AU BT)))) 0 0 (aS (Prod.fst (List.getD more (0+Int.toNat i) (EK.AU BT))) (Prod.fst (Prod.snd (List.getD more (0+Int.toNat i) (EK.AU BT))))) (aV (Prod.fst (List.getD more (0+Int.toNat i) (EK.AU BT))) (Prod.snd (Prod.snd (List.getD more (0+Int.toNat i) (EK.AU BT))))) 0 { data:=#[] }) (aK (Prod.fst (List.getD more (0+Int.toNat i) (EK.AU BT)))) 0 0 (aS (Prod.fst (List.getD more (0+Int.toNat i) (EK.AU BT))) (Prod.fst (Prod.snd (List.getD more (0+Int.toNat i) (EK.AU BT))))) (aV (Prod.fst (List.getD more (0+Int.toNat i) (EK.AU BT))) (Prod.snd (Prod.snd (List.getD more (0+Int.toNat i) (EK.AU BT))))) 13 { data:=#[] })) (Pk.Bd L) (List.length L) (IntKind.wrap .i64 (i+1)))))else False)else False))else False)else False)else(Lx m 8 0 0 { data:=#[] } { data:=#[] })∧(bif NH m 8 0 0 { data:=#[] } { data:=#[] } 13 { data:=#[] } != 7 then(Q (.bool false) [])else(R2 (PO l more times cfg (Pk.model (H5 m 8 0 0 { data:=#[] } { data:=#[] } 13 { data:=#[] })) (Pk.Bd L) (List.length L) 0))))):=by kernel_rfl
theorem bE (l more:List (EK.C BT)) (times:Int) (cfg:List Int) (m:AB) (L:List (List (EK.C AT))) (i:Int) (Q:Value→List (Option AJ)→Prop) (R R2:A5→Prop):dC LG V0 AL [] Y9 4 eP 6 [] Q R R2 600 (PO l more times cfg (.model m) (.Bd L) L.length i)=(
 (bif decide (i < IntKind.wrap .i64 (Int.tmod times 6))then(Lx m 7 9 0 { data:=#[] } X9)∧(bif NH m 7 9 0 { data:=#[] } X9 0 { data:=#[] } != 0 then(Q (.bool false) [])else(Lx (H5 m 7 9 0 { data:=#[] } X9 0 { data:=#[] }) 8 0 0 { data:=#[] } { data:=#[] })∧(bif NH (H5 m 7 9 0 { data:=#[] } X9 0 { data:=#[] }) 8 0 0 { data:=#[] } { data:=#[] } 13 { data:=#[] } != 0 then(Q (.bool false) [])else(Fg.ok GZ (H5 (H5 m 7 9 0 { data:=#[] } X9 0 { data:=#[] }) 8 0 0 { data:=#[] } { data:=#[] } 13 { data:=#[] }) [])∧(bif AB.state (H5 (H5 m 7 9 0 { data:=#[] } X9 0 { data:=#[] }) 8 0 0 { data:=#[] } { data:=#[] } 13 { data:=#[] })==2 then(Q (.bool false) [])else(R (PO l more times cfg (Pk.model (Fg.nx GZ (H5 (H5 m 7 9 0 { data:=#[] } X9 0 { data:=#[] }) 8 0 0 { data:=#[] } { data:=#[] } 13 { data:=#[] }) [])) (Pk.Bd L) (List.length L) (IntKind.wrap .i64 (i+1)))))))else(Lx m 8 0 0 { data:=#[] } { data:=#[] })∧(bif NH m 8 0 0 { data:=#[] } { data:=#[] } 0 { data:=#[] } != 0 then(Q (.bool false) [])else(Fg.ok GZ (H5 m 8 0 0 { data:=#[] } { data:=#[] } 0 { data:=#[] }) [])∧(bif AB.state (H5 m 8 0 0 { data:=#[] } { data:=#[] } 0 { data:=#[] })==2 then(Lx (Fg.nx GZ (H5 m 8 0 0 { data:=#[] } { data:=#[] } 0 { data:=#[] }) []) 8 0 0 { data:=#[] } { data:=#[] })∧(bif NH (Fg.nx GZ (H5 m 8 0 0 { data:=#[] } { data:=#[] } 0 { data:=#[] }) []) 8 0 0 { data:=#[] } { data:=#[] } 0 { data:=#[] } != 7 then(Q (.bool false) [])else(R2 (PW l more cfg (Pk.model (H5 (Fg.nx GZ (H5 m 8 0 0 { data:=#[] } { data:=#[] } 0 { data:=#[] }) []) 8 0 0 { data:=#[] } { data:=#[] } 0 { data:=#[] })) (Pk.Bd L) (List.length L) 0)))else(Q (.bool false) []))))):=by kernel_rfl
theorem cY (l more:List (EK.C BT)) (cfg:List Int) (m:AB) (L:List (List (EK.C AT))) (n:Nat) (cur:List (EK.C AT)) (i:Int) (Q:Value→List (Option AJ)→Prop) (R R2:A5→Prop):dC LG (ae (PJ n cur) cur) AL [] YR 6 YR 6 [] Q R R2 900 (QN l more cfg (.model m) L (Ae 14 L) L.length i)=(
 (bif decide (i < Int.ofNat (List.length L))then(bif decide (0≤i)&&Nat.blt (Int.toNat i) (List.length L)then(bif Nat.blt (0+Int.toNat i) (List.length (Ae 14 L))&&G5 (SK.enc SK.tok (List.getD (Ae 14 L) (0+Int.toNat i) (EK.AU [SK.tok])))then(((.slice (EF (SK.enc SK.tok (List.getD (Ae 14 L) (0+Int.toNat i) (EK.AU [SK.tok])))) (EN (SK.enc SK.tok (List.getD (Ae 14 L) (0+Int.toNat i) (EK.AU [SK.tok])))) (EP (SK.enc SK.tok (List.getD (Ae 14 L) (0+Int.toNat i) (EK.AU [SK.tok]))))):Value)=(.slice (some ⟨14,1,(some n)⟩) (List.length cur) 18446744073709551616))∧(FJ (List.map some L) n cur)∧((List.length cur=List.length cur∧AE=AE)∧List.length cur < 1000000)∧(C5 cur cur (List.map some L) (List.set (List.map some L) n none) n)∧(List.length (AB.base m) < 1000000∧List.length (AB.now m) < 1000000∧List.length (AB.AG m) < 1000000)∧(((.slice (some ⟨17,0,(some 0)⟩) (List.length cur) 18446744073709551616):Value)=(.slice (some ⟨17,0,(some 0)⟩) (List.length cur) 18446744073709551616))∧(((.slice (some ⟨16,0,(some 0)⟩) (List.length cur) 18446744073709551616):Value)=(.slice (some ⟨16,0,(some 0)⟩) (List.length cur) 18446744073709551616))∧((List.length cur=List.length (B2 cur)∧AE=AE)∧(List.length cur=List.length (B9 cur)∧AE=AE)∧aD m (B2 cur) (B9 cur))∧(bif dO m (B2 cur) (B9 cur) != 0 then(Q (.bool false) [])else(bif decide (Int.ofNat (List.length cur) > 0)then(bif decide (0≤Int.ofNat (List.length cur))&&Nat.ble (Int.toNat (Int.ofNat (List.length cur))) (List.length cur)&&decide (0≤1)&&Nat.ble 1 (Int.toNat (Int.ofNat (List.length cur)))then(List.length (AB.base m) < 1000000∧List.length (AB.now m) < 1000000∧List.length (AB.AG m) < 1000000)∧(bif decide (0≤Int.ofNat (List.length cur))&&Nat.ble (Int.toNat (Int.ofNat (List.length cur))) (List.length cur)&&decide (0≤1)&&Nat.ble 1 (Int.toNat (Int.ofNat (List.length cur)))then(((.slice (some ⟨17,0,(some 1)⟩) (Int.toNat (Int.ofNat (List.length cur)) - 1) 18446744073709551616):Value)=(.slice (some ⟨17,0,(some 1)⟩) (Int.toNat (Int.ofNat (List.length cur)) - 1) 18446744073709551616))∧(((.slice (some ⟨17,0,(some 0)⟩) (List.length cur) 18446744073709551616):Value)=(.slice (some ⟨17,0,(some 0)⟩) (List.length cur) 18446744073709551616))∧(((.slice (some ⟨16,0,(some 0)⟩) (List.length cur) 18446744073709551616):Value)=(.slice (some ⟨16,0,(some 0)⟩) (List.length cur) 18446744073709551616))∧(dy m (List.length cur) (Int.toNat (Int.ofNat (List.length cur)) - 1))∧(R (QN l more cfg (Pk.model m) L (V9 [] L) (List.length L) (IntKind.wrap .i64 (i+1))))else False)else False)else(R (QN l more cfg (Pk.model m) L (V9 [] L) (List.length L) (IntKind.wrap .i64 (i+1))))))else False)else False)else False)):=by kernel_rfl
theorem cx (l more:List (EK.C BT)) (cfg:List Int) (m:AB) (L:List (List (EK.C AT))) (n:Nat) (cur:List (EK.C AT)) (i:Int) (Q:Value→List (Option AJ)→Prop):FD LG (aQ (PJ n cur) cur) AL [] Q 900 (QN l more cfg (.model m) L (Ae 14 L) L.length i)=(
 (bif decide (i < Int.ofNat (List.length L))then(bif decide (0≤i)&&Nat.blt (Int.toNat i) (List.length L)then(bif Nat.blt (0+Int.toNat i) (List.length (Ae 14 L))&&G5 (SK.enc SK.tok (List.getD (Ae 14 L) (0+Int.toNat i) (EK.AU [SK.tok])))then(((.slice (EF (SK.enc SK.tok (List.getD (Ae 14 L) (0+Int.toNat i) (EK.AU [SK.tok])))) (EN (SK.enc SK.tok (List.getD (Ae 14 L) (0+Int.toNat i) (EK.AU [SK.tok])))) (EP (SK.enc SK.tok (List.getD (Ae 14 L) (0+Int.toNat i) (EK.AU [SK.tok]))))):Value)=(.slice (some ⟨14,1,(some n)⟩) (List.length cur) 18446744073709551616))∧(FJ (List.map some L) n cur)∧((List.length cur=List.length cur∧AE=AE)∧List.length cur < 1000000)∧(C5 cur cur (List.map some L) (List.set (List.map some L) n none) n)∧False else False)else False)else(List.length (AB.now m) < 1000000)∧(bif decide (0≤IntKind.wrap .i64 (Int.ofNat (List.length L) - 1))&&Nat.blt (Int.toNat (IntKind.wrap .i64 (Int.ofNat (List.length L) - 1))) (List.length L)then(bif Nat.blt (0+Int.toNat (IntKind.wrap .i64 (Int.ofNat (List.length L) - 1))) (List.length (Ae 14 L))&&G5 (SK.enc SK.tok (List.getD (Ae 14 L) (0+Int.toNat (IntKind.wrap .i64 (Int.ofNat (List.length L) - 1))) (EK.AU [SK.tok])))then(((.slice (EF (SK.enc SK.tok (List.getD (Ae 14 L) (0+Int.toNat (IntKind.wrap .i64 (Int.ofNat (List.length L) - 1))) (EK.AU [SK.tok])))) (EN (SK.enc SK.tok (List.getD (Ae 14 L) (0+Int.toNat (IntKind.wrap .i64 (Int.ofNat (List.length L) - 1))) (EK.AU [SK.tok])))) (EP (SK.enc SK.tok (List.getD (Ae 14 L) (0+Int.toNat (IntKind.wrap .i64 (Int.ofNat (List.length L) - 1))) (EK.AU [SK.tok]))))):Value)=(.slice (some ⟨14,1,(some n)⟩) (List.length cur) 18446744073709551616))∧(FJ (List.map some L) n cur)∧((List.length cur=List.length cur∧AE=AE)∧List.length cur < 1000000)∧(C5 cur cur (List.map some L) (List.set (List.map some L) n none) n)∧((List.length (AB.now m)=List.length (B2 (AB.now m))∧AE=AE)∧(List.length cur=List.length (B2 cur)∧AE=AE)∧List.length (B2 (AB.now m)) < 1000000∧List.length (B2 cur) < 1000000)∧(bif Cn (B2 (AB.now m)) (B2 cur)then((List.length (AB.now m)=List.length (B9 (AB.now m))∧AE=AE)∧(List.length cur=List.length (B9 cur)∧AE=AE)∧List.length (B9 (AB.now m)) < 1000000∧List.length (B9 cur) < 1000000)∧(bif Cn (B9 (AB.now m)) (B9 cur)then(Fg.ok Ky m [])∧(((.pointer (some ⟨11,0,none⟩)):Value)=(.pointer (some ⟨11,0,none⟩)))∧(bif decide (0≤IntKind.wrap .i64 (Int.ofNat (List.length L) - 1))&&Nat.blt (Int.toNat (IntKind.wrap .i64 (Int.ofNat (List.length L) - 1))) (List.length L)then(bif Nat.blt (0+Int.toNat (IntKind.wrap .i64 (Int.ofNat (List.length L) - 1))) (List.length (Ae 14 L))&&G5 (SK.enc SK.tok (List.getD (Ae 14 L) (0+Int.toNat (IntKind.wrap .i64 (Int.ofNat (List.length L) - 1))) (EK.AU [SK.tok])))then(((.slice (EF (SK.enc SK.tok (List.getD (Ae 14 L) (0+Int.toNat (IntKind.wrap .i64 (Int.ofNat (List.length L) - 1))) (EK.AU [SK.tok])))) (EN (SK.enc SK.tok (List.getD (Ae 14 L) (0+Int.toNat (IntKind.wrap .i64 (Int.ofNat (List.length L) - 1))) (EK.AU [SK.tok])))) (EP (SK.enc SK.tok (List.getD (Ae 14 L) (0+Int.toNat (IntKind.wrap .i64 (Int.ofNat (List.length L) - 1))) (EK.AU [SK.tok]))))):Value)=(.slice (some ⟨14,1,(some n)⟩) (List.length cur) 18446744073709551616))∧(FJ (List.map some L) n cur)∧((List.length cur=List.length cur∧AE=AE)∧Fu cur)∧(C5 cur cur (List.map some L) (List.set (List.map some L) n none) n)∧(bif AB.cost m==BA cur then(Fg.ok Zm (Fg.nx Ky m []) [])∧
 (((.int .i64 (IntKind.wrap .i64 (Int.ofNat (List.length L) - 1))):Value)=(.int .i64 (IntKind.wrap .i64 (Int.ofNat (List.length L) - 1))))∧(((.int .i64 (Int.ofNat (List.length L))):Value)=(.int .i64 (Int.ofNat (List.length L))))∧(((.slice (some ⟨13,0,(some 0)⟩) (List.length L) 18446744073709551616):Value)=(.slice (some ⟨13,0,(some 0)⟩) (List.length L) 18446744073709551616))∧(((.pointer (some ⟨11,8,none⟩)):Value)=(.pointer (some ⟨11,8,none⟩)))∧(((.pointer (some ⟨11,0,none⟩)):Value)=(.pointer (some ⟨11,0,none⟩)))∧(((.pointer (some ⟨11,0,none⟩)):Value)=(.pointer (some ⟨11,0,none⟩)))∧(bif ((List.length (AB.AG (Fg.nx Ky m []))):Int)==IntKind.wrap .i64 (Int.ofNat (List.length L) - 1)then(Q (.bool true) [])else(Q (.bool false) []))else(Q (.bool false) []))else False)else False)else(Q (.bool false) []))else(Q (.bool false) []))else False)else False))):=by kernel_rfl
end Go.AD

set_option maxRecDepth 1000000
namespace Go.AD
open Go.Proofs
theorem T8:∀(us:List (EK.C Bn)) (b:List (EK.C AT)),(CN b us).length=us.length+1
 | [],_=>rfl
 | u::us,b=>by
  rw[CN,List.length_cons,T8 us,List.length_cons]
theorem ML (u:EK.C Bn):∀(us:List (EK.C Bn)) (b:List (EK.C AT)),∃l,(CN b us)[us.length]? = some l∧CN b (us++[u])=CN b us++[VP l u.1 u.2.1 u.2.2]
 | [],b=>⟨b,rfl,rfl⟩
 | x::us,b=>by
  obtain⟨l,h1,h2⟩:=ML u us (VP b x.1 x.2.1 x.2.2)
  refine⟨l,?_,?_⟩
  ·rw[CN,List.length_cons,List.getElem?_cons_succ];exact h1
  ·rw[List.cons_append,CN,CN,h2];rfl
structure Hk (cfg:List Int) (m:AB) (L:List (List (EK.C AT))) (i:Nat):Prop where
 ne:L≠[]
 inv:FE cfg m (L.length - 1) (Bi L) i
 pre:CN m.base m.AG=L
 sm:∀l∈L,A8 l∧l.length≤i∧∀x∈l,x.1.size≤16∧x.2.size≤16
section
variable {cfg:List Int} {m:AB} {L:List (List (EK.C AT))} {i:Nat}
theorem Hk.Sq (h:Hk cfg m L i):P4 L:=fun l hl=>by
 obtain⟨h1,h2,h3⟩:=h.sm l hl
 exact⟨h1,Nu h3 (by have:=h.inv.le;omega)⟩
theorem Lk (h:L≠[]):L[L.length - 1]? = some (Bi L):=by
 have:=List.length_pos_iff.2 h
 unfold Bi
 rw[List.getElem?_eq_getElem (by omega)];rfl
theorem Ni (h:L≠[]):Bi L∈L:=List.mem_of_getElem? (Lk h)
theorem SS (x:List (EK.C AT)):Bi (L++[x])=x:=by
 unfold Bi
 rw[List.length_append,List.length_singleton,Nat.add_sub_cancel,List.getElem?_append_right (Nat.le_refl _),Nat.sub_self];rfl
theorem Hk.act (h:Hk cfg m L i) {kind key val:Int} (hi:i < 1000):Hk cfg (cM cfg m (Bi L) kind key val) (Gg cfg L kind key val) (i+1):=by
 obtain⟨_,hk,hs,hv⟩:=MC kind key val
 have hn:=YW h.inv hk hs hv hi
 obtain⟨hne2,hlen⟩:=Qo (cfg:=cfg) (kind:=kind) (key:=key) (val:=val) h.ne
 have hpos:=List.length_pos_iff.2 h.ne
 unfold cM
 have hlast:Bi (Gg cfg L kind key val)=L0 cfg (Bi L) (aK kind) (aS kind key) (aV kind val):=by
  unfold Gg JM L0
  cases h4:aK kind==4
  ·cases (CV cfg (Bi L) (aK kind) (aS kind key) (aV kind val)).2.2
   ·rfl
   ·exact SS _
  ·have e4:aK kind=4:=by simpa using h4
   rw[e4];rfl
 have hnum:(Gg cfg L kind key val).length - 1=Rh cfg (L.length - 1) (Bi L) (aK kind) (aS kind key) (aV kind val):=by
  rw[hlen,Nat.add_sub_cancel];rfl
 refine⟨hne2,by rw[hlast,hnum];exact hn,?_,?_⟩
 ·unfold Gg JM NT
  have hnow:=h.inv.now
  cases h4:aK kind==4
  ·have hf:∀x:AB,Ji (aK kind) x=x:=fun x=>by
    have h8:(aK kind==8)=false:=by rcases hk with e | e | e | e<;>rw[e]<;>rfl
    unfold Ji;rw[h4,h8];rfl
   rw[hf]
   cases hu:(CV cfg (Bi L) (aK kind) (aS kind key) (aV kind val)).2.2
   ·exact h.pre
   ·obtain⟨l,q1,q2⟩:=ML ((aK kind==3),aS kind key,aV kind val) m.AG m.base
    show CN m.base (m.AG++[((aK kind==3),aS kind key,aV kind val)])=_
    rw[q2,h.pre]
    have hl:l=Bi L:=by
     rw[h.pre,h.inv.AG,Lk h.ne]at q1
     cases q1;rfl
    subst hl
    show L++[VP (Bi L) (aK kind==3) (aS kind key) (aV kind val)]=L++[BS (Bi L) (aK kind) (aS kind key) (aV kind val)]
    congr 2
    rcases hk with e | e | e | e
    ·rw[e];exact(LY h.inv.sorted _ _).1
    ·exfalso
     rw[e]at hu
     unfold CV at hu
     cases h2:(C6 (Bi L) (aS kind key)).isSome<;>rw[h2]at hu<;>cases hu
    ·rw[e];exact(Og h.inv.sorted _ _).1
    ·rw[e]at h4;cases h4
  ·have e4:aK kind=4:=by simpa using h4
   rw[e4]
   show CN (Rp m).base (Rp m).AG=[Bi L]
   show [m.now]=_
   rw[hnow]
 ·intro l hl
  have hup:∀l∈L,A8 l∧l.length≤i+1∧∀x∈l,x.1.size≤16∧x.2.size≤16:=fun l hl=>by
   obtain⟨h1,h2,h3⟩:=h.sm l hl
   exact⟨h1,by omega,h3⟩
  have hnew:A8 (L0 cfg (Bi L) (aK kind) (aS kind key) (aV kind val))∧_∧_:=⟨hn.sorted,hn.len,hn.small⟩
  unfold Gg JM at hl
  cases h4:aK kind==4
  ·rw[h4]at hl
   cases hu:(CV cfg (Bi L) (aK kind) (aS kind key) (aV kind val)).2.2
   ·rw[hu]at hl;exact hup l hl
   ·rw[hu]at hl
    have hl:l∈L++[BS (Bi L) (aK kind) (aS kind key) (aV kind val)]:=hl
    rcases List.mem_append.1 hl with hl | hl
    ·exact hup l hl
    ·rw[List.mem_singleton]at hl
     subst hl
     have e:L0 cfg (Bi L) (aK kind) (aS kind key) (aV kind val)=BS (Bi L) (aK kind) (aS kind key) (aV kind val):=by unfold L0;rw[hu];rfl
     rw[e]at hnew;exact hnew
  ·rw[h4]at hl
   have hl:l∈[Bi L]:=hl
   rw[List.mem_singleton]at hl
   subst hl
   exact hup _ (Ni h.ne)
theorem eG {s:Int} (h0:0≤s) (h7:s≤7):Hk (Dt s) (m0 s) [[]] 0:=
 ⟨by simp,fc h0 h7,rfl,fun l hl=>by
  rw[List.mem_singleton]at hl
  subst hl
  exact⟨List.Pairwise.nil,Nat.le_refl _,fun x hx=>by cases hx⟩⟩
theorem Hk.da (h:Hk cfg m L i) (hi:i≤140) {kind key val:Int} (hb:Eg kind∧Eg key∧Eg val):Rj cfg m L kind key val:=⟨⟨i,hi,h.inv⟩,h.ne,hb⟩
theorem Yz {l:List (EK.C AT)} (hl:l∈L):(ET L (B2 l) (B9 l)).isSome=true:=by
 unfold ET
 rw[List.find?_isSome]
 refine⟨l,hl,?_⟩
 unfold Fp
 rw[GL,GL];rfl
end
def He (m:AB) (st:Int) (pl:Bool):AB:={ m with state:=st,AS:=pl }
section
variable {m:AB}
theorem bU (a:Int) (h:a=0∨a=9):EO 7 a 0 { data:=#[] } { data:=#[48,44,55] }:=by
 rcases h with rfl | rfl
 ·exact .OL
 ·exact .O7
theorem bN:IF { data:=#[] }=true:=by simp[IF]
theorem Q9 (h:m.state=0∨m.state=1) (a:Int) (ha:a=0∨a=9):NH m 7 a 0 { data:=#[] } { data:=#[48,44,55] } 0 { data:=#[] }=0∧H5 m 7 a 0 { data:=#[] } { data:=#[48,44,55] } 0 { data:=#[] }=He m (bif a==0 then 1 else m.state) (decide (a > 0)):=by
 have h2:(m.state==2)=false:=by rcases h with e | e<;>rw[e]<;>rfl
 have hd:Il m 7 a 0 { data:=#[] } { data:=#[48,44,55] } 0 { data:=#[] }=some (He m (bif a==0 then 1 else m.state) (decide (a > 0))):=by
  unfold Il
  rw[h2,FM (bU a ha),bN];rfl
 unfold NH H5
 rw[hd];exact⟨rfl,rfl⟩
theorem dS (h:m.state=1) {k:Int} {s v:ByteArray} (hg:EO k 0 0 s v) (h7:k≠7) (h8:k≠8):NH m k 0 0 s v 0 { data:=#[] }=7∧H5 m k 0 0 s v 0 { data:=#[] }=m∧NH m k 0 0 s v 13 { data:=#[] }=0∧H5 m k 0 0 s v 13 { data:=#[] }=m:=by
 have b7:(k==7)=false:=by simpa using h7
 have b8:(k != 8)=true:=by simpa using h8
 have hd:Il m k 0 0 s v 0 { data:=#[] }=none:=by
  unfold Il
  rw[h,FM hg,b7,b8];rfl
 have hd2:Il m k 0 0 s v 13 { data:=#[] }=some m:=by
  unfold Il
  rw[h,FM hg,b7,b8,bN];rfl
 unfold NH H5
 rw[hd,hd2];exact⟨rfl,rfl,rfl,rfl⟩
theorem WO (h:m.state=1) (e:Int):Il m 8 0 0 { data:=#[] } { data:=#[] } e { data:=#[] }=bif e==0 then some { m with state:=2 } else bif m.AS then(bif !(e==13)then none else some { m with AS:=false })else none:=by
 unfold Il
 have hc:LI 8 0 0 { data:=#[] } { data:=#[] }=0:=FM .KZ
 rw[h,hc,bN]
 simp only[Bool.and_true]
 rfl
theorem fD (h:m.state=2) (k a b:Int) (s v:ByteArray) (e:Int) (sv:ByteArray):NH m k a b s v e sv=7∧H5 m k a b s v e sv=m:=by
 have hd:Il m k a b s v e sv=none:=by unfold Il;rw[h];rfl
 unfold NH H5
 rw[hd];exact⟨rfl,rfl⟩
end
end Go.AD
