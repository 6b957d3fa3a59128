/-
  Part of the proof: the machine that runs a program by fixed orders, and that each of its runs is a run of the model; or a run of it in parts. No conditions.
-/
import Derived.Test.YtbojbpalkegahaaGreatDoorAbr
import Derived.Test.YtbojbpalkegahaaGreatDoorWrkD
set_option maxRecDepth 1000000
namespace Go.AD
open Go.Proofs
abbrev Cx:EK:=[.int .u8,.int .u8,.int .u8]
noncomputable def dP (l:List (EK.C Cx)):AA:=(⟨.leaf,9⟩:AA).alloc (.vec Cx l true)
end Go.AD

set_option maxRecDepth 1000000
namespace Go.AD
open Go.Proofs
def bG (x:EK.C Cx):Prop:=Gk x.1∧Gk x.2.1∧Gk x.2.2
end Go.AD

set_option maxRecDepth 1000000
namespace Go.AD
open Go.Proofs
noncomputable abbrev eI:List (FuncId × Cn):=[(HX,SQ UZ),(BM,A3 AL 9 [] ZU),(AI,A3 AL 9 [true,true,true] aG),(BN,A3 AL 9 [true] ZB),(E0,Q0.F),(BC,A3 AL 9 [true] Zw),
 (Aa,A3 AL 9 [true] Yz),(Ap,A3 AL 9 [] O3),(Ai,A3 AL 9 [] Sh),(Am,A3 AL 9 [] Nd),(B1,A3 AL 9 [true] Jm.G),(BZ,A3 AL 9 [true] WT.G)]
noncomputable def NY:Ctx:=Cp Tryz.prog AL eI
noncomputable def Yd:Pf:=fun g=>bif Nat.beq g BM then some (B0 AL 9 [] ZU)else bif Nat.beq g AI then some (B0 AL 9 [true,true,true] aG)else bif Nat.beq g GH then some (fun _ _ _=>False)else Cv g
noncomputable def cR (x:Value):Pf:=fun g=>bif Nat.beq g AI then some (fun _ _ _=>False)else bif Nat.beq g BN then some (B0 AL 9 [true] ZB)else bif Nat.beq g E0 then some YI else bif Nat.beq g BC then some (B0 AL 9 [true] Zw)else
 bif Nat.beq g Aa then some (B0 AL 9 [true] Yz)else bif Nat.beq g Ap then some (KP x (B0 AL 9 [] O3))else bif Nat.beq g Ai then some (B0 AL 9 [] Sh)else
 bif Nat.beq g Am then some (KP x (B0 AL 9 [] Nd))else bif Nat.beq g B1 then some (B0 AL 9 [true] Jm.G)else bif Nat.beq g BZ then some (B0 AL 9 [true] WT.G)else Cv g
noncomputable def cG (l:List (EK.C Cx)) (sl:Value) (Be k a b:Int) (key val:ByteArray) (cfg:List Int) (len:Nat) (i:Int) (os:List AJ):Ay:=
 ⟨⟨AO,Ib [(1,sl),(3,.int .u16 Be),(6,JH 10),(9,JH 11),(10,.int .i64 i)],198,[.code (Bb Tryz.prog AO [1,1,1,1,0,1,0,0]),.inLoop (Bb Tryz.prog AO [1,1,1,1,0,1,0,0]),.inBlock 0,.code (Bb Tryz.prog AO [1,1,1,1,1])],[],false,.normal,none⟩,[],
  EI (((dP l).alloc (ZN k a b key val)).alloc (.cells (Pe cfg 12 13 len) 0 false)) os⟩
noncomputable def Rc (l:List (EK.C Cx)) (sl:Value) (Be k a b:Int) (key val:ByteArray) (cfg:List Int) (mk:Pk) (tk:Pk) (len:Nat) (i:Int):Ay:=
 cG l sl Be k a b key val cfg len i [.abs (.pack mk) false,.abs (.pack tk) false]
def dU:Stop:=⟨AO,0,3,10,[9],[1,3,6,9,10]⟩
noncomputable def PB (cur:List (EK.C Ab)):Value:= .slice (some ⟨14,0,some 0⟩) cur.length AF
theorem cS (l:List (EK.C Cx)) (slots Be k a b:Int) (key val:ByteArray) (Q:Value→List (Option AJ)→Prop) (R:Ay→Prop):JI NY Yd AO [] dU Q R 400 (st AO 198 [.int .u8 slots,L4 l.length,IX k a b key val,.int .u16 Be] (dP l))=(
 (bif decide (Int.ofNat (List.length l) > 40)then(Q (.bool true) [])else(bif decide (Int.ofNat (ByteArray.size key) > 600)then(Q (.bool true) [])else(bif decide (Int.ofNat (ByteArray.size val) > 600)then(Q (.bool true) [])else(Gk slots)∧(R (Rc l (.slice (some ⟨9,0,(some 0)⟩) (List.length l) 18446744073709551616) Be k a b key val (B9 (Int.tmod slots 8)) (Pk.model (m0 (Int.tmod slots 8))) (Pk.maps 0 []) 1 0)))))):=by kernel_rfl
theorem Z7 (l:List (EK.C Cx)) (slots Be k a b:Int) (key val:ByteArray) (Q:Value→List (Option AJ)→Prop) (R:Ay→Prop):JI NY Yd AO [] dU Q R 400 (st AO 198 [.int .u8 slots,.slice none 0 0,IX k a b key val,.int .u16 Be] (dP l))=(
 (bif decide (Int.ofNat (ByteArray.size key) > 600)then(Q (.bool true) [])else(bif decide (Int.ofNat (ByteArray.size val) > 600)then(Q (.bool true) [])else(Gk slots)∧(R (Rc l (.slice none 0 0) Be k a b key val (B9 (Int.tmod slots 8)) (Pk.model (m0 (Int.tmod slots 8))) (Pk.maps 0 []) 1 0))))):=by kernel_rfl
theorem eU (l:List (EK.C Cx)) (Be k a b:Int) (key val:ByteArray) (cfg:List Int) (m:AB) (n:Nat) (cur:List (EK.C Ab)) (i:Int) (Q:Value→List (Option AJ)→Prop) (R:Ay→Prop):JI NY Yd AO [] dU Q R 400 (Rc l (L4 l.length) Be k a b key val cfg (.model m) (.maps n cur) (n+1) i)=(
 (bif decide (i < Int.ofNat (List.length l))then(bif decide (0≤i)&&Nat.blt (Int.toNat i) (List.length l)then(bif Nat.blt (0+Int.toNat i) (List.length l)then((n+1=n+1∧AF=AF)∧bK [List.getD cfg 0 0,List.getD cfg 1 0,List.getD cfg 2 0,List.getD cfg 3 0,List.getD cfg 4 0,List.getD cfg 5 0,List.getD cfg 6 0] m n cur (Prod.fst (List.getD l (0+Int.toNat i) (EK.AQ Cx))) (Prod.fst (Prod.snd (List.getD l (0+Int.toNat i) (EK.AQ Cx)))) (Prod.snd (Prod.snd (List.getD l (0+Int.toNat i) (EK.AQ Cx)))))∧(bif NC [List.getD cfg 0 0,List.getD cfg 1 0,List.getD cfg 2 0,List.getD cfg 3 0,List.getD cfg 4 0,List.getD cfg 5 0,List.getD cfg 6 0] cur (Prod.fst (List.getD l (0+Int.toNat i) (EK.AQ Cx))) (Prod.fst (Prod.snd (List.getD l (0+Int.toNat i) (EK.AQ Cx)))) (Prod.snd (Prod.snd (List.getD l (0+Int.toNat i) (EK.AQ Cx))))then(R (Rc l (.slice (some ⟨9,0,(some 0)⟩) (List.length l) 18446744073709551616) Be k a b key val cfg (Pk.model (cn [List.getD cfg 0 0,List.getD cfg 1 0,List.getD cfg 2 0,List.getD cfg 3 0,List.getD cfg 4 0,List.getD cfg 5 0,List.getD cfg 6 0] m cur (Prod.fst (List.getD l (0+Int.toNat i) (EK.AQ Cx))) (Prod.fst (Prod.snd (List.getD l (0+Int.toNat i) (EK.AQ Cx)))) (Prod.snd (Prod.snd (List.getD l (0+Int.toNat i) (EK.AQ Cx)))))) (Pk.maps n cur) (n+1) (IntKind.wrap .i64 (i+1))))else(R (Rc l (.slice (some ⟨9,0,(some 0)⟩) (List.length l) 18446744073709551616) Be k a b key val cfg (Pk.model (cn [List.getD cfg 0 0,List.getD cfg 1 0,List.getD cfg 2 0,List.getD cfg 3 0,List.getD cfg 4 0,List.getD cfg 5 0,List.getD cfg 6 0] m cur (Prod.fst (List.getD l (0+Int.toNat i) (EK.AQ Cx))) (Prod.fst (Prod.snd (List.getD l (0+Int.toNat i) (EK.AQ Cx)))) (Prod.snd (Prod.snd (List.getD l (0+Int.toNat i) (EK.AQ Cx)))))) (Pk.maps (VS [List.getD cfg 0 0,List.getD cfg 1 0,List.getD cfg 2 0,List.getD cfg 3 0,List.getD cfg 4 0,List.getD cfg 5 0,List.getD cfg 6 0] n cur (Prod.fst (List.getD l (0+Int.toNat i) (EK.AQ Cx))) (Prod.fst (Prod.snd (List.getD l (0+Int.toNat i) (EK.AQ Cx)))) (Prod.snd (Prod.snd (List.getD l (0+Int.toNat i) (EK.AQ Cx))))) (YX [List.getD cfg 0 0,List.getD cfg 1 0,List.getD cfg 2 0,List.getD cfg 3 0,List.getD cfg 4 0,List.getD cfg 5 0,List.getD cfg 6 0] cur (Prod.fst (List.getD l (0+Int.toNat i) (EK.AQ Cx))) (Prod.fst (Prod.snd (List.getD l (0+Int.toNat i) (EK.AQ Cx)))) (Prod.snd (Prod.snd (List.getD l (0+Int.toNat i) (EK.AQ Cx)))))) (VS [List.getD cfg 0 0,List.getD cfg 1 0,List.getD cfg 2 0,List.getD cfg 3 0,List.getD cfg 4 0,List.getD cfg 5 0,List.getD cfg 6 0] n cur (Prod.fst (List.getD l (0+Int.toNat i) (EK.AQ Cx))) (Prod.fst (Prod.snd (List.getD l (0+Int.toNat i) (EK.AQ Cx)))) (Prod.snd (Prod.snd (List.getD l (0+Int.toNat i) (EK.AQ Cx))))+1) (IntKind.wrap .i64 (i+1)))))else False)else False)else False)):=by kernel_rfl
theorem cE (l:List (EK.C Cx)) (Be k a b:Int) (key val:ByteArray) (s:Int) (m:AB) (n:Nat) (cur:List (EK.C Ab)) (i:Int) (Q:Value→List (Option AJ)→Prop):Gv NY (cR (PB cur)) AO [] Q 3000 (cG l (L4 l.length) Be k a b key val (B9 s) (n+1) i [.abs (.pack (.model m)) false,.vec [.tok] (Ad n 14 cur.length) false,.vec Ab cur false])=(
 (bif decide (i < Int.ofNat (List.length l))then(bif decide (0≤i)&&Nat.blt (Int.toNat i) (List.length l)then(bif Nat.blt (0+Int.toNat i) (List.length l)then False else False)else False)else(bif decide (0≤IntKind.wrap .i64 (Int.ofNat (n+1) - 1))&&Nat.blt (Int.toNat (IntKind.wrap .i64 (Int.ofNat (n+1) - 1))) (n+1)then(bif Nat.blt (0+Int.toNat (IntKind.wrap .i64 (Int.ofNat (n+1) - 1))) (List.length (Ad n 14 (List.length cur)))&&GO (SK.enc SK.tok (List.getD (Ad n 14 (List.length cur)) (0+Int.toNat (IntKind.wrap .i64 (Int.ofNat (n+1) - 1))) (EK.AQ [SK.tok])))then(((.slice (Dn (SK.enc SK.tok (List.getD (Ad n 14 (List.length cur)) (0+Int.toNat (IntKind.wrap .i64 (Int.ofNat (n+1) - 1))) (EK.AQ [SK.tok])))) (Dq (SK.enc SK.tok (List.getD (Ad n 14 (List.length cur)) (0+Int.toNat (IntKind.wrap .i64 (Int.ofNat (n+1) - 1))) (EK.AQ [SK.tok])))) (Ds (SK.enc SK.tok (List.getD (Ad n 14 (List.length cur)) (0+Int.toNat (IntKind.wrap .i64 (Int.ofNat (n+1) - 1))) (EK.AQ [SK.tok]))))):Value)=(.slice (some ⟨14,0,(some 0)⟩) (List.length cur) 18446744073709551616))∧((List.length cur=List.length cur∧AF=AF)∧List.length cur < 1000000)∧(OG (IntKind.wrap .i64 (33+IntKind.wrap .i64 Be)) (List.getD (B9 s) 1 0) (List.getD (B9 s) 2 0) (List.getD (B9 s) 3 0) (List.getD (B9 s) 4 0) (List.getD (B9 s) 5 0) (List.getD (B9 s) 6 0))∧(fO m)∧(D2 m 2 0 0 { data:=#[49,50,51,52,53,54,55,56,57] } { data:=#[] } 5 { data:=#[] })∧(bif Dj m 2 0 0 { data:=#[49,50,51,52,53,54,55,56,57] } { data:=#[] } 5 { data:=#[] } != 7 then(Q (.bool false) [])else(D2 m 2 0 0 { data:=#[49,50,51,52,53,54,55,56,57] } { data:=#[] } 12 { data:=#[] })∧(bif Dj m 2 0 0 { data:=#[49,50,51,52,53,54,55,56,57] } { data:=#[] } 12 { data:=#[] } != 0 then(Q (.bool false) [])else(D2 m 3 0 0 { data:=#[49,50,51,52,53,54,55,56,57] } { data:=#[] } 12 { data:=#[] })∧(bif Dj m 3 0 0 { data:=#[49,50,51,52,53,54,55,56,57] } { data:=#[] } 12 { data:=#[] } != 0 then(Q (.bool false) [])else(D2 m 1 0 0 { data:=#[49,50,51,52,53,54,55,56,57] } { data:=#[] } 12 { data:=#[] })∧(bif Dj m 1 0 0 { data:=#[49,50,51,52,53,54,55,56,57] } { data:=#[] } 12 { data:=#[] } != 0 then(Q (.bool false) [])else(D2 m 1 0 0 { data:=#[97] } { data:=#[48,49,50,51,52,53,54,55,56,57,97,98,99,100,101,102,103] } 12 { data:=#[] })∧(bif Dj m 1 0 0 { data:=#[97] } { data:=#[48,49,50,51,52,53,54,55,56,57,97,98,99,100,101,102,103] } 12 { data:=#[] } != 0 then(Q (.bool false) [])else(D2 m (IntKind.wrap .i64 (9+IntKind.wrap .i64 Be)) 0 0 { data:=#[] } { data:=#[] } 0 { data:=#[] })∧(bif Dj m (IntKind.wrap .i64 (9+IntKind.wrap .i64 Be)) 0 0 { data:=#[] } { data:=#[] } 0 { data:=#[] } != 7 then(Q (.bool false) [])else(D2 m (IntKind.wrap .i64 (9+IntKind.wrap .i64 Be)) 0 0 { data:=#[] } { data:=#[] } 2 { data:=#[] })∧(bif Dj m (IntKind.wrap .i64 (9+IntKind.wrap .i64 Be)) 0 0 { data:=#[] } { data:=#[] } 2 { data:=#[] } != 0 then(Q (.bool false) [])else(D2 m k a b key val (IntKind.wrap .i64 (17+IntKind.wrap .i64 Be)) { data:=#[] })∧(bif Dj m k a b key val (IntKind.wrap .i64 (17+IntKind.wrap .i64 Be)) { data:=#[] } != 7 then(Q (.bool false) [])else(D2 m k a b key val (IntKind.wrap .i64 (-1 - IntKind.wrap .i64 Be)) { data:=#[] })∧(bif Dj m k a b key val (IntKind.wrap .i64 (-1 - IntKind.wrap .i64 Be)) { data:=#[] } != 7 then(Q (.bool false) [])else(D2 m k a b key val 2 { data:=#[120] })∧(bif Dj m k a b key val 2 { data:=#[120] } != 7 then(Q (.bool false) [])else
 (List.length (AB.now m) < 1000000)∧(bif decide (0≤IntKind.wrap .i64 (Int.ofNat (n+1) - 1))&&Nat.blt (Int.toNat (IntKind.wrap .i64 (Int.ofNat (n+1) - 1))) (n+1)then(bif Nat.blt (0+Int.toNat (IntKind.wrap .i64 (Int.ofNat (n+1) - 1))) (List.length (Ad n 14 (List.length cur)))&&GO (SK.enc SK.tok (List.getD (Ad n 14 (List.length cur)) (0+Int.toNat (IntKind.wrap .i64 (Int.ofNat (n+1) - 1))) (EK.AQ [SK.tok])))then(((.slice (Dn (SK.enc SK.tok (List.getD (Ad n 14 (List.length cur)) (0+Int.toNat (IntKind.wrap .i64 (Int.ofNat (n+1) - 1))) (EK.AQ [SK.tok])))) (Dq (SK.enc SK.tok (List.getD (Ad n 14 (List.length cur)) (0+Int.toNat (IntKind.wrap .i64 (Int.ofNat (n+1) - 1))) (EK.AQ [SK.tok])))) (Ds (SK.enc SK.tok (List.getD (Ad n 14 (List.length cur)) (0+Int.toNat (IntKind.wrap .i64 (Int.ofNat (n+1) - 1))) (EK.AQ [SK.tok]))))):Value)=(.slice (some ⟨14,0,(some 0)⟩) (List.length cur) 18446744073709551616))∧((List.length cur=List.length cur∧AF=AF)∧List.length cur < 1000000)∧((List.length (AB.now m)=List.length (CJ (AB.now m))∧AF=AF)∧(List.length cur=List.length (CJ cur)∧AF=AF)∧List.length (CJ (AB.now m)) < 1000000∧List.length (CJ cur) < 1000000)∧(bif DG (CJ (AB.now m)) (CJ cur)then((List.length (AB.now m)=List.length (CG (AB.now m))∧AF=AF)∧(List.length cur=List.length (CG cur)∧AF=AF)∧List.length (CG (AB.now m)) < 1000000∧List.length (CG cur) < 1000000)∧(bif DG (CG (AB.now m)) (CG cur)then(IV.ok Jm m [])∧(((.pointer (some ⟨11,0,none⟩)):Value)=(.pointer (some ⟨11,0,none⟩)))∧(bif decide (0≤IntKind.wrap .i64 (Int.ofNat (n+1) - 1))&&Nat.blt (Int.toNat (IntKind.wrap .i64 (Int.ofNat (n+1) - 1))) (n+1)then(bif Nat.blt (0+Int.toNat (IntKind.wrap .i64 (Int.ofNat (n+1) - 1))) (List.length (Ad n 14 (List.length cur)))&&GO (SK.enc SK.tok (List.getD (Ad n 14 (List.length cur)) (0+Int.toNat (IntKind.wrap .i64 (Int.ofNat (n+1) - 1))) (EK.AQ [SK.tok])))then(((.slice (Dn (SK.enc SK.tok (List.getD (Ad n 14 (List.length cur)) (0+Int.toNat (IntKind.wrap .i64 (Int.ofNat (n+1) - 1))) (EK.AQ [SK.tok])))) (Dq (SK.enc SK.tok (List.getD (Ad n 14 (List.length cur)) (0+Int.toNat (IntKind.wrap .i64 (Int.ofNat (n+1) - 1))) (EK.AQ [SK.tok])))) (Ds (SK.enc SK.tok (List.getD (Ad n 14 (List.length cur)) (0+Int.toNat (IntKind.wrap .i64 (Int.ofNat (n+1) - 1))) (EK.AQ [SK.tok]))))):Value)=(.slice (some ⟨14,0,(some 0)⟩) (List.length cur) 18446744073709551616))∧((List.length cur=List.length cur∧AF=AF)∧Gz cur)∧(bif AB.cost m==BF cur then(IV.ok WT (IV.nx Jm m []) [])∧(((.int .i64 (IntKind.wrap .i64 (Int.ofNat (n+1) - 1))):Value)=(.int .i64 (IntKind.wrap .i64 (Int.ofNat (n+1) - 1))))∧(((.int .i64 (Int.ofNat (n+1))):Value)=(.int .i64 (Int.ofNat (n+1))))∧(((.slice (some ⟨13,0,(some 0)⟩) (n+1) 18446744073709551616):Value)=(.slice (some ⟨13,0,(some 0)⟩) (n+1) 18446744073709551616))∧(((.pointer (some ⟨11,8,none⟩)):Value)=(.pointer (some ⟨11,8,none⟩)))∧(((.pointer (some ⟨11,0,none⟩)):Value)=(.pointer (some ⟨11,0,none⟩)))∧(((.pointer (some ⟨11,0,none⟩)):Value)=(.pointer (some ⟨11,0,none⟩)))∧(bif ((List.length (AB.AG (IV.nx Jm m []))):Int)==IntKind.wrap .i64 (Int.ofNat (n+1) - 1)then(Q (.bool true) [])else(Q (.bool false) []))else(Q (.bool false) []))else False)else False)else(Q (.bool false) []))else(Q (.bool false) []))else False)else False)))))))))))else False)else False))):=by kernel_rfl
theorem Z1 (l:List (EK.C Cx)) (Be k a b:Int) (key val:ByteArray) (s:Int) (m:AB) (n:Nat) (cur:List (EK.C Ab)) (Q:Value→List (Option AJ)→Prop):Gv NY (cR (PB cur)) AO [] Q 3000 (cG l (.slice none 0 0) Be k a b key val (B9 s) (n+1) 0 [.abs (.pack (.model m)) false,.vec [.tok] (Ad n 14 cur.length) false,.vec Ab cur false])=(
 (bif decide (0≤IntKind.wrap .i64 (Int.ofNat (n+1) - 1))&&Nat.blt (Int.toNat (IntKind.wrap .i64 (Int.ofNat (n+1) - 1))) (n+1)then(bif Nat.blt (0+Int.toNat (IntKind.wrap .i64 (Int.ofNat (n+1) - 1))) (List.length (Ad n 14 (List.length cur)))&&GO (SK.enc SK.tok (List.getD (Ad n 14 (List.length cur)) (0+Int.toNat (IntKind.wrap .i64 (Int.ofNat (n+1) - 1))) (EK.AQ [SK.tok])))then(((.slice (Dn (SK.enc SK.tok (List.getD (Ad n 14 (List.length cur)) (0+Int.toNat (IntKind.wrap .i64 (Int.ofNat (n+1) - 1))) (EK.AQ [SK.tok])))) (Dq (SK.enc SK.tok (List.getD (Ad n 14 (List.length cur)) (0+Int.toNat (IntKind.wrap .i64 (Int.ofNat (n+1) - 1))) (EK.AQ [SK.tok])))) (Ds (SK.enc SK.tok (List.getD (Ad n 14 (List.length cur)) (0+Int.toNat (IntKind.wrap .i64 (Int.ofNat (n+1) - 1))) (EK.AQ [SK.tok]))))):Value)=(.slice (some ⟨14,0,(some 0)⟩) (List.length cur) 18446744073709551616))∧((List.length cur=List.length cur∧AF=AF)∧List.length cur < 1000000)∧(OG (IntKind.wrap .i64 (33+IntKind.wrap .i64 Be)) (List.getD (B9 s) 1 0) (List.getD (B9 s) 2 0) (List.getD (B9 s) 3 0) (List.getD (B9 s) 4 0) (List.getD (B9 s) 5 0) (List.getD (B9 s) 6 0))∧(fO m)∧(D2 m 2 0 0 { data:=#[49,50,51,52,53,54,55,56,57] } { data:=#[] } 5 { data:=#[] })∧(bif Dj m 2 0 0 { data:=#[49,50,51,52,53,54,55,56,57] } { data:=#[] } 5 { data:=#[] } != 7 then(Q (.bool false) [])else(D2 m 2 0 0 { data:=#[49,50,51,52,53,54,55,56,57] } { data:=#[] } 12 { data:=#[] })∧(bif Dj m 2 0 0 { data:=#[49,50,51,52,53,54,55,56,57] } { data:=#[] } 12 { data:=#[] } != 0 then(Q (.bool false) [])else(D2 m 3 0 0 { data:=#[49,50,51,52,53,54,55,56,57] } { data:=#[] } 12 { data:=#[] })∧(bif Dj m 3 0 0 { data:=#[49,50,51,52,53,54,55,56,57] } { data:=#[] } 12 { data:=#[] } != 0 then(Q (.bool false) [])else(D2 m 1 0 0 { data:=#[49,50,51,52,53,54,55,56,57] } { data:=#[] } 12 { data:=#[] })∧(bif Dj m 1 0 0 { data:=#[49,50,51,52,53,54,55,56,57] } { data:=#[] } 12 { data:=#[] } != 0 then(Q (.bool false) [])else(D2 m 1 0 0 { data:=#[97] } { data:=#[48,49,50,51,52,53,54,55,56,57,97,98,99,100,101,102,103] } 12 { data:=#[] })∧(bif Dj m 1 0 0 { data:=#[97] } { data:=#[48,49,50,51,52,53,54,55,56,57,97,98,99,100,101,102,103] } 12 { data:=#[] } != 0 then(Q (.bool false) [])else(D2 m (IntKind.wrap .i64 (9+IntKind.wrap .i64 Be)) 0 0 { data:=#[] } { data:=#[] } 0 { data:=#[] })∧(bif Dj m (IntKind.wrap .i64 (9+IntKind.wrap .i64 Be)) 0 0 { data:=#[] } { data:=#[] } 0 { data:=#[] } != 7 then(Q (.bool false) [])else(D2 m (IntKind.wrap .i64 (9+IntKind.wrap .i64 Be)) 0 0 { data:=#[] } { data:=#[] } 2 { data:=#[] })∧(bif Dj m (IntKind.wrap .i64 (9+IntKind.wrap .i64 Be)) 0 0 { data:=#[] } { data:=#[] } 2 { data:=#[] } != 0 then(Q (.bool false) [])else(D2 m k a b key val (IntKind.wrap .i64 (17+IntKind.wrap .i64 Be)) { data:=#[] })∧(bif Dj m k a b key val (IntKind.wrap .i64 (17+IntKind.wrap .i64 Be)) { data:=#[] } != 7 then(Q (.bool false) [])else(D2 m k a b key val (IntKind.wrap .i64 (-1 - IntKind.wrap .i64 Be)) { data:=#[] })∧(bif Dj m k a b key val (IntKind.wrap .i64 (-1 - IntKind.wrap .i64 Be)) { data:=#[] } != 7 then(Q (.bool false) [])else(D2 m k a b key val 2 { data:=#[120] })∧(bif Dj m k a b key val 2 { data:=#[120] } != 7 then(Q (.bool false) [])else(List.length (AB.now m) < 1000000)∧(bif decide (0≤IntKind.wrap .i64 (Int.ofNat (n+1) - 1))&&Nat.blt (Int.toNat (IntKind.wrap .i64 (Int.ofNat (n+1) - 1))) (n+1)then
 (bif Nat.blt (0+Int.toNat (IntKind.wrap .i64 (Int.ofNat (n+1) - 1))) (List.length (Ad n 14 (List.length cur)))&&GO (SK.enc SK.tok (List.getD (Ad n 14 (List.length cur)) (0+Int.toNat (IntKind.wrap .i64 (Int.ofNat (n+1) - 1))) (EK.AQ [SK.tok])))then(((.slice (Dn (SK.enc SK.tok (List.getD (Ad n 14 (List.length cur)) (0+Int.toNat (IntKind.wrap .i64 (Int.ofNat (n+1) - 1))) (EK.AQ [SK.tok])))) (Dq (SK.enc SK.tok (List.getD (Ad n 14 (List.length cur)) (0+Int.toNat (IntKind.wrap .i64 (Int.ofNat (n+1) - 1))) (EK.AQ [SK.tok])))) (Ds (SK.enc SK.tok (List.getD (Ad n 14 (List.length cur)) (0+Int.toNat (IntKind.wrap .i64 (Int.ofNat (n+1) - 1))) (EK.AQ [SK.tok]))))):Value)=(.slice (some ⟨14,0,(some 0)⟩) (List.length cur) 18446744073709551616))∧((List.length cur=List.length cur∧AF=AF)∧List.length cur < 1000000)∧((List.length (AB.now m)=List.length (CJ (AB.now m))∧AF=AF)∧(List.length cur=List.length (CJ cur)∧AF=AF)∧List.length (CJ (AB.now m)) < 1000000∧List.length (CJ cur) < 1000000)∧(bif DG (CJ (AB.now m)) (CJ cur)then((List.length (AB.now m)=List.length (CG (AB.now m))∧AF=AF)∧(List.length cur=List.length (CG cur)∧AF=AF)∧List.length (CG (AB.now m)) < 1000000∧List.length (CG cur) < 1000000)∧(bif DG (CG (AB.now m)) (CG cur)then(IV.ok Jm m [])∧(((.pointer (some ⟨11,0,none⟩)):Value)=(.pointer (some ⟨11,0,none⟩)))∧(bif decide (0≤IntKind.wrap .i64 (Int.ofNat (n+1) - 1))&&Nat.blt (Int.toNat (IntKind.wrap .i64 (Int.ofNat (n+1) - 1))) (n+1)then(bif Nat.blt (0+Int.toNat (IntKind.wrap .i64 (Int.ofNat (n+1) - 1))) (List.length (Ad n 14 (List.length cur)))&&GO (SK.enc SK.tok (List.getD (Ad n 14 (List.length cur)) (0+Int.toNat (IntKind.wrap .i64 (Int.ofNat (n+1) - 1))) (EK.AQ [SK.tok])))then(((.slice (Dn (SK.enc SK.tok (List.getD (Ad n 14 (List.length cur)) (0+Int.toNat (IntKind.wrap .i64 (Int.ofNat (n+1) - 1))) (EK.AQ [SK.tok])))) (Dq (SK.enc SK.tok (List.getD (Ad n 14 (List.length cur)) (0+Int.toNat (IntKind.wrap .i64 (Int.ofNat (n+1) - 1))) (EK.AQ [SK.tok])))) (Ds (SK.enc SK.tok (List.getD (Ad n 14 (List.length cur)) (0+Int.toNat (IntKind.wrap .i64 (Int.ofNat (n+1) - 1))) (EK.AQ [SK.tok]))))):Value)=(.slice (some ⟨14,0,(some 0)⟩) (List.length cur) 18446744073709551616))∧((List.length cur=List.length cur∧AF=AF)∧Gz cur)∧(bif AB.cost m==BF cur then(IV.ok WT (IV.nx Jm m []) [])∧(((.int .i64 (IntKind.wrap .i64 (Int.ofNat (n+1) - 1))):Value)=(.int .i64 (IntKind.wrap .i64 (Int.ofNat (n+1) - 1))))∧(((.int .i64 (Int.ofNat (n+1))):Value)=(.int .i64 (Int.ofNat (n+1))))∧(((.slice (some ⟨13,0,(some 0)⟩) (n+1) 18446744073709551616):Value)=(.slice (some ⟨13,0,(some 0)⟩) (n+1) 18446744073709551616))∧(((.pointer (some ⟨11,8,none⟩)):Value)=(.pointer (some ⟨11,8,none⟩)))∧(((.pointer (some ⟨11,0,none⟩)):Value)=(.pointer (some ⟨11,0,none⟩)))∧(((.pointer (some ⟨11,0,none⟩)):Value)=(.pointer (some ⟨11,0,none⟩)))∧(bif ((List.length (AB.AG (IV.nx Jm m []))):Int)==IntKind.wrap .i64 (Int.ofNat (n+1) - 1)then(Q (.bool true) [])else(Q (.bool false) []))else(Q (.bool false) []))else False)else False)else(Q (.bool false) []))else(Q (.bool false) []))else False)else False)))))))))))else False)else False)):=by kernel_rfl
end Go.AD

set_option maxRecDepth 1000000
namespace Go.AD
open Go.Proofs
theorem N5:FD NY Yd:=An (fun _ _ _ h=>Ak (by kernel_rfl) h) (An (fun _ _ _ h=>Ak (by kernel_rfl) h) (An (fun _ _ _ h=>h.elim) (Av _)))
theorem TE (x:Value):FD NY (cR x):=An (fun _ _ _ h=>h.elim) (An (fun _ _ _ h=>Ak (by kernel_rfl) h) (An (fun _ _ _ h=>XX (by kernel_rfl) _ _ _ h) (An (fun _ _ _ h=>Ak (by kernel_rfl) h)
 (An (fun _ _ _ h=>Ak (by kernel_rfl) h) (An (II fun _ _ _ h=>Ak (by kernel_rfl) h) (An (fun _ _ _ h=>Ak (by kernel_rfl) h) (An (II fun _ _ _ h=>Ak (by kernel_rfl) h)
 (An (fun _ _ _ h=>Ak (by kernel_rfl) h) (An (fun _ _ _ h=>Ak (by kernel_rfl) h) (Av _))))))))))
theorem au (hw:IH Tryz.prog AL UZ):Aw Tryz.prog AL eI:=Aw.cons (VB hw) (Aw.cons aL (Aw.cons YW (Aw.cons Zq (Aw.cons XU (Aw.cons Yw
 (Aw.cons Y7 (Aw.cons Uf (Aw.cons WK (Aw.cons Q2 (Aw.cons Ui (Aw.cons Vm (Aw.nil _ _))))))))))))
theorem bh:Mp { data:=#[] }=true:=by simp[Mp]
theorem UY (m:AB) (k:Int) (key val:ByteArray):(BD m k key val).1=0∨(BD m k key val).1=4∨(BD m k key val).1=5∨(BD m k key val).1=12:=by
 unfold BD
 generalize (Mu m key||Sc m val)=x1
 cases k==1<;>cases k==2<;>cases k==3<;>cases x1<;>cases QI m key val<;>cases Mu m key<;>cases Tw m key<;>simp[cond]
theorem PA {m:AB} {k a b:Int} {key val:ByteArray} {e:Int} {sv:ByteArray} (he:(e=2∧Mp sv=false)∨e < 0∨16 < e):I3 m k a b key val e sv=none:=by
 have hr:=UY m k key val
 have h1:(e==(BD m k key val).1)=false:=beq_false (by omega)
 have h2:(e==2&&(Mp sv&&true))=false:=by
  rcases he with⟨_,h⟩ | h
  ·rw[h];simp
  ·rw[beq_false (show e≠2 by omega)];rfl
 have h3:(e==13)=false:=beq_false (by omega)
 have h4:(e==11)=false:=beq_false (by omega)
 unfold I3
 rw[h1,h2,h3,h4]
 simp only[Bool.and_false,Bool.false_and,cond_false,Bool.not_false,cond_true]
 cases Lj k a b key val != 0<;>cases k==7<;>cases (BD m k key val).2.2<;>rfl
theorem Fo {m:AB} {k a b:Int} {key val:ByteArray} {e:Int} {sv:ByteArray} (h:I3 m k a b key val e sv=none):Dj m k a b key val e sv=7∧DH m k a b key val e sv=m:=by
 unfold Dj dV DH
 rw[h];exact⟨rfl,rfl⟩
theorem Dw {m:AB} {k a b:Int} {key val:ByteArray} {e:Int} {sv:ByteArray} (h:I3 m k a b key val e sv=some m):Dj m k a b key val e sv=0∧DH m k a b key val e sv=m:=by
 unfold Dj dV DH
 rw[h];exact⟨rfl,rfl⟩
theorem IF {m:AB} {k:Int} {s v:ByteArray} (hc:EU k 0 0 s v) (h7:(k==7)=false) (hk:Ju k m=m) (ha:BD m k s v=(12,e0,false)):I3 m k 0 0 s v 12 { data:=#[] }=some m∧I3 m k 0 0 s v 5 { data:=#[] }=none:=by
 unfold I3
 rw[LI hc,h7,ha,hk]
 have h1:((12:Int)==13)=false:=by decide
 have h2:((12:Int)==11)=false:=by decide
 have h3:((5:Int)==13)=false:=by decide
 have h4:((5:Int)==11)=false:=by decide
 have h5:((5:Int)==12)=false:=by decide
 have h6:((0:Int) != 0)=false:=by decide
 have h8:(!((12:Int)==12&&(ByteArray.toList { data:=#[] }==ByteArray.toList e0&&true)))=false:=by unfold e0;simp
 constructor
 ·simp only[h1,h2,h6,h8,Bool.and_false,cond_false]
 ·simp only[h3,h4,h5,h6,Bool.and_false,cond_false,Bool.false_and,Bool.not_false,cond_true]
theorem WA {m:AB} {k:Int} (hk:9≤k):I3 m k 0 0 { data:=#[] } { data:=#[] } 2 { data:=#[] }=some m∧I3 m k 0 0 { data:=#[] } { data:=#[] } 0 { data:=#[] }=none:=by
 have hc:Lj k 0 0 { data:=#[] } { data:=#[] }=2:=by
  unfold Lj cX Vr
  rw[N0 (.inr hk)];rfl
 unfold I3
 rw[hc,bh]
 exact⟨rfl,rfl⟩
section
variable {s:Int} {m:AB} {n i:Nat} {cur:List (EK.C Ab)}
theorem DX.eH (h:DX (B9 s) m n cur i):Mu m { data:=#[49,50,51,52,53,54,55,56,57] }=true:=by
 obtain⟨s6,_,_,_,hmc,_⟩:=h.s
 unfold Mu
 rw[hmc]
 exact decide_eq_true (by show(9:Int) > 8;decide)
theorem DX.dG (h:DX (B9 s) m n cur i):Sc m { data:=#[48,49,50,51,52,53,54,55,56,57,97,98,99,100,101,102,103] }=true:=by
 obtain⟨s6,_,_,_,hmc,_⟩:=h.s
 unfold Sc
 rw[hmc]
 exact decide_eq_true (by show(17:Int) > 16;decide)
theorem DX.Is (h:DX (B9 s) m n cur i) {k a b:Int} {key val:ByteArray} (hc:Gl k a b key val) {e:Int} {sv:ByteArray} (h7:(k==7)=true→(e==0&&(ByteArray.toList sv==ByteArray.toList { data:=#[] }&&true))=false):GN m k a b key val e sv:=by
 obtain⟨s6,_,_,_,hmc,_⟩:=h.s
 have h1:=h.len
 have h2:=h.Ks
 have h3:=h.le
 exact⟨by rw[hmc];rfl,h.st,h.pl,hc,by rw[h.now];exact h.sorted,by rw[h.now];omega,by rw[h.AG];omega,h7⟩
theorem DX.long (h:DX (B9 s) m n cur i):(∀k:Int,k=1∨k=2∨k=3→BD m k { data:=#[49,50,51,52,53,54,55,56,57] } { data:=#[] }=(12,e0,false))∧BD m 1 { data:=#[97] } { data:=#[48,49,50,51,52,53,54,55,56,57,97,98,99,100,101,102,103] }=(12,e0,false):=by
 constructor
 ·rintro k (rfl | rfl | rfl)<;>(unfold BD;rw[h.eH];rfl)
 ·unfold BD
  rw[h.dG,Bool.or_true];rfl
end
theorem V1:QJ { data:=#[49,50,51,52,53,54,55,56,57] }:= .inr (.inr (.inr (.inr (.inr rfl))))
theorem eB:QJ { data:=#[97] }:= .inl rfl
theorem fm:EU 1 0 0 { data:=#[49,50,51,52,53,54,55,56,57] } { data:=#[] }:= .put _ _ V1 (by decide)
theorem ef:EU 1 0 0 { data:=#[97] } { data:=#[48,49,50,51,52,53,54,55,56,57,97,98,99,100,101,102,103] }:= .put _ _ eB (by decide)
theorem fb:EU 2 0 0 { data:=#[49,50,51,52,53,54,55,56,57] } { data:=#[] }:= .get _ V1
theorem fu:EU 3 0 0 { data:=#[49,50,51,52,53,54,55,56,57] } { data:=#[] }:= .del _ V1
theorem IP {n z len:Nat} (h:n < 1000000):(Nat.blt (0+Int.toNat (IntKind.wrap .i64 (Int.ofNat (n+1) - 1))) (List.length (Ad n z len))&&GO (SK.enc SK.tok (List.getD (Ad n z len) (0+Int.toNat (IntKind.wrap .i64 (Int.ofNat (n+1) - 1))) (EK.AQ [SK.tok]))))=true:=by
 rw[I6 h,Jd,GZ,Int.toNat_natCast,Nat.zero_add]
 have:Nat.blt n (n+1)=true:=Nat.ble_eq_true_of_le (by omega)
 rw[this];rfl
theorem J3 {n z len:Nat} (h:n < 1000000):Value.slice (Dn (SK.enc SK.tok (List.getD (Ad n z len) (0+Int.toNat (IntKind.wrap .i64 (Int.ofNat (n+1) - 1))) (EK.AQ [SK.tok])))) (Dq (SK.enc SK.tok (List.getD (Ad n z len) (0+Int.toNat (IntKind.wrap .i64 (Int.ofNat (n+1) - 1))) (EK.AQ [SK.tok])))) (Ds (SK.enc SK.tok (List.getD (Ad n z len) (0+Int.toNat (IntKind.wrap .i64 (Int.ofNat (n+1) - 1))) (EK.AQ [SK.tok]))))= .slice (some ⟨z,0,some 0⟩) len 18446744073709551616:=by
 rw[I6 h,Jd,E4];rfl
theorem Cy {x y:Int} {A B:Prop} (h:x=y) (h1:B):(bif x != y then A else B):=by
 rw[show(x != y)=false by simp[h]];exact h1
structure VE (s:Int) (m:AB) (n:Nat) (cur:List (EK.C Ab)) (k a b:Int) (key val:ByteArray) (Be:Int):Prop where
 inv:∃i,DX (B9 s) m n cur i
 op:Gl k a b key val
 f0:0≤Be
 f1:Be < 65536
section
variable {s:Int} {m:AB} {n:Nat} {cur:List (EK.C Ab)} {k a b:Int} {key val:ByteArray} {Be:Int}
theorem VE.facts (h:VE s m n cur k a b key val Be):n < 1000000∧List.length cur < 1000000∧m.now=cur∧m.cost=BF cur∧m.AG.length=n∧m.state=0∧Gz cur∧
 IntKind.wrap .i64 Be=Be∧IntKind.wrap .i64 (33+Be)=33+Be∧IntKind.wrap .i64 (9+Be)=9+Be∧IntKind.wrap .i64 (17+Be)=17+Be∧IntKind.wrap .i64 (-1 - Be)= -1 - Be:=by
 obtain⟨i,hI⟩:=h.inv
 have h0:=h.f0
 have h1:=h.f1
 have hl:=hI.len
 have hnl:=hI.Ks
 have hle:=hI.le
 exact⟨by omega,by omega,hI.now,hI.cost,hI.AG,hI.st,ND hI.small (by omega),wrap64 (by omega) (by omega),wrap64 (by omega) (by omega),wrap64 (by omega) (by omega),wrap64 (by omega) (by omega),wrap64 (by omega) (by omega)⟩
theorem VE.fl (h:VE s m n cur k a b key val Be):(D2 m 2 0 0 { data:=#[49,50,51,52,53,54,55,56,57] } { data:=#[] } 5 { data:=#[] }∧Dj m 2 0 0 { data:=#[49,50,51,52,53,54,55,56,57] } { data:=#[] } 5 { data:=#[] }=7)∧
 (D2 m 2 0 0 { data:=#[49,50,51,52,53,54,55,56,57] } { data:=#[] } 12 { data:=#[] }∧Dj m 2 0 0 { data:=#[49,50,51,52,53,54,55,56,57] } { data:=#[] } 12 { data:=#[] }=0)∧
 (D2 m 3 0 0 { data:=#[49,50,51,52,53,54,55,56,57] } { data:=#[] } 12 { data:=#[] }∧Dj m 3 0 0 { data:=#[49,50,51,52,53,54,55,56,57] } { data:=#[] } 12 { data:=#[] }=0)∧
 (D2 m 1 0 0 { data:=#[49,50,51,52,53,54,55,56,57] } { data:=#[] } 12 { data:=#[] }∧Dj m 1 0 0 { data:=#[49,50,51,52,53,54,55,56,57] } { data:=#[] } 12 { data:=#[] }=0)∧
 (D2 m 1 0 0 { data:=#[97] } { data:=#[48,49,50,51,52,53,54,55,56,57,97,98,99,100,101,102,103] } 12 { data:=#[] }∧Dj m 1 0 0 { data:=#[97] } { data:=#[48,49,50,51,52,53,54,55,56,57,97,98,99,100,101,102,103] } 12 { data:=#[] }=0)∧
 (D2 m (9+Be) 0 0 { data:=#[] } { data:=#[] } 0 { data:=#[] }∧Dj m (9+Be) 0 0 { data:=#[] } { data:=#[] } 0 { data:=#[] }=7)∧
 (D2 m (9+Be) 0 0 { data:=#[] } { data:=#[] } 2 { data:=#[] }∧Dj m (9+Be) 0 0 { data:=#[] } { data:=#[] } 2 { data:=#[] }=0)∧
 (D2 m k a b key val (17+Be) { data:=#[] }∧Dj m k a b key val (17+Be) { data:=#[] }=7)∧
 (D2 m k a b key val (-1 - Be) { data:=#[] }∧Dj m k a b key val (-1 - Be) { data:=#[] }=7)∧
 (D2 m k a b key val 2 { data:=#[120] }∧Dj m k a b key val 2 { data:=#[120] }=7):=by
 obtain⟨i,hI⟩:=h.inv
 have h0:=h.f0
 obtain⟨hl,hv⟩:=hI.long
 have a2:=IF fb (by decide) rfl (hl 2 (by simp))
 have a3:=IF fu (by decide) rfl (hl 3 (by simp))
 have a1:=IF fm (by decide) rfl (hl 1 (by simp))
 have av:=IF ef (by decide) rfl hv
 have ak:=WA (m:=m) (show 9≤9+Be by omega)
 have hk7:((9+Be:Int)==7)=false:=beq_false (by omega)
 have hck:Gl (9+Be) 0 0 { data:=#[] } { data:=#[] }:=⟨⟨by omega,by omega⟩,by decide,by decide⟩
 have b1:=Fo (PA (m:=m) (k:=k) (a:=a) (b:=b) (key:=key) (val:=val) (e:=17+Be) (sv:={ data:=#[] }) (.inr (.inr (by omega))))
 have b2:=Fo (PA (m:=m) (k:=k) (a:=a) (b:=b) (key:=key) (val:=val) (e:= -1 - Be) (sv:={ data:=#[] }) (.inr (.inl (by omega))))
 have b3:=Fo (PA (m:=m) (k:=k) (a:=a) (b:=b) (key:=key) (val:=val) (e:=2) (sv:={ data:=#[120] }) (.inl ⟨rfl,by simp[Mp]⟩))
 refine⟨⟨⟨hI.Is fb.ok (fun h=>by cases h),(Fo a2.2).2⟩,(Fo a2.2).1⟩,⟨⟨hI.Is fb.ok (fun h=>by cases h),(Dw a2.1).2⟩,(Dw a2.1).1⟩,⟨⟨hI.Is fu.ok (fun h=>by cases h),(Dw a3.1).2⟩,(Dw a3.1).1⟩,
  ⟨⟨hI.Is fm.ok (fun h=>by cases h),(Dw a1.1).2⟩,(Dw a1.1).1⟩,⟨⟨hI.Is ef.ok (fun h=>by cases h),(Dw av.1).2⟩,(Dw av.1).1⟩,
  ⟨⟨hI.Is hck (fun h=>by rw[hk7]at h;cases h),(Fo ak.2).2⟩,(Fo ak.2).1⟩,⟨⟨hI.Is hck (fun h=>by rw[hk7]at h;cases h),(Dw ak.1).2⟩,(Dw ak.1).1⟩,
  ⟨⟨hI.Is h.op (fun _=>?_),b1.2⟩,b1.1⟩,⟨⟨hI.Is h.op (fun _=>?_),b2.2⟩,b2.1⟩,⟨⟨hI.Is h.op (fun _=>rfl),b3.2⟩,b3.1⟩⟩
 ·rw[beq_false (show(17+Be:Int)≠0 by omega)];rfl
 ·rw[beq_false (show(-1 - Be:Int)≠0 by omega)];rfl
theorem aI (h:VE s m n cur k a b key val Be) (l:List (EK.C Cx)) {i:Int} (hi:¬i < Int.ofNat l.length):
 B8 NY AO (fun v _=>v= .bool true) (cG l (L4 l.length) Be k a b key val (B9 s) (n+1) i [.abs (.pack (.model m)) false,.vec [.tok] (Ad n 14 cur.length) false,.vec Ab cur false]):=by
 obtain⟨hn,hc,hnow,hcost,hups,hst,hsm,w1,w2,w3,w4,w5⟩:=h.facts
 obtain⟨⟨d1,r1⟩,⟨d2,r2⟩,⟨d3,r3⟩,⟨d4,r4⟩,⟨d5,r5⟩,⟨d6,r6⟩,⟨d7,r7⟩,⟨d8,r8⟩,⟨d9,r9⟩,⟨d10,r10⟩⟩:=h.fl
 have h0:=h.f0
 have h1:=h.f1
 have hk1:(CJ cur).length=cur.length:=by unfold CJ;rw[List.length_map]
 have hk2:(CG cur).length=cur.length:=by unfold CG;rw[List.length_map]
 have e1:(BF cur==BF cur)=true:=by simp
 have e2:((m.AG.length:Int)==IntKind.wrap .i64 (Int.ofNat (n+1) - 1))=true:=by rw[I6 hn,hups];simp
 refine B6 (TE (PB cur)) (ids:=[]) (Q:=fun v _=>v= .bool true) 3000 _ ?_
 rw[cE,w1,w2,w3,w4,w5,hnow,hcost,F8,F8]
 refine AT (fun h=>absurd h hi) (fun _=>AE (D4 hn) (AE (IP hn) ⟨J3 hn,⟨⟨rfl,rfl⟩,hc⟩,⟨by omega,by omega,rfl,rfl,rfl,rfl,rfl,rfl⟩,⟨hst⟩,d1,Cy r1 ⟨d2,Cy r2 ⟨d3,Cy r3 ⟨d4,Cy r4 ⟨d5,Cy r5 ⟨d6,Cy r6 ⟨d7,Cy r7 ⟨d8,Cy r8 ⟨d9,Cy r9 ⟨d10,Cy r10
  ⟨hc,AE (D4 hn) (AE (IP hn) ⟨J3 hn,⟨⟨rfl,rfl⟩,hc⟩,⟨⟨hk1.symm,rfl⟩,⟨hk1.symm,rfl⟩,by omega,by omega⟩,Ho ⟨⟨⟨hk2.symm,rfl⟩,⟨hk2.symm,rfl⟩,by omega,by omega⟩,Ho ⟨rfl,rfl,AE (D4 hn) (AE (IP hn) ⟨J3 hn,⟨⟨rfl,rfl⟩,hsm⟩,AE e1 ⟨rfl,rfl,rfl,rfl,rfl,rfl,rfl,AE e2 rfl⟩⟩)⟩⟩⟩)⟩⟩⟩⟩⟩⟩⟩⟩⟩⟩⟩))
theorem WV (h:VE s m n cur k a b key val Be) (l:List (EK.C Cx)):
 B8 NY AO (fun v _=>v= .bool true) (cG l (.slice none 0 0) Be k a b key val (B9 s) (n+1) 0 [.abs (.pack (.model m)) false,.vec [.tok] (Ad n 14 cur.length) false,.vec Ab cur false]):=by
 obtain⟨hn,hc,hnow,hcost,hups,hst,hsm,w1,w2,w3,w4,w5⟩:=h.facts
 obtain⟨⟨d1,r1⟩,⟨d2,r2⟩,⟨d3,r3⟩,⟨d4,r4⟩,⟨d5,r5⟩,⟨d6,r6⟩,⟨d7,r7⟩,⟨d8,r8⟩,⟨d9,r9⟩,⟨d10,r10⟩⟩:=h.fl
 have h0:=h.f0
 have h1:=h.f1
 have hk1:(CJ cur).length=cur.length:=by unfold CJ;rw[List.length_map]
 have hk2:(CG cur).length=cur.length:=by unfold CG;rw[List.length_map]
 have e1:(BF cur==BF cur)=true:=by simp
 have e2:((m.AG.length:Int)==IntKind.wrap .i64 (Int.ofNat (n+1) - 1))=true:=by rw[I6 hn,hups];simp
 refine B6 (TE (PB cur)) (ids:=[]) (Q:=fun v _=>v= .bool true) 3000 _ ?_
 rw[Z1,w1,w2,w3,w4,w5,hnow,hcost,F8,F8]
 refine AE (D4 hn) (AE (IP hn) ⟨J3 hn,⟨⟨rfl,rfl⟩,hc⟩,⟨by omega,by omega,rfl,rfl,rfl,rfl,rfl,rfl⟩,⟨hst⟩,d1,Cy r1 ⟨d2,Cy r2 ⟨d3,Cy r3 ⟨d4,Cy r4 ⟨d5,Cy r5 ⟨d6,Cy r6 ⟨d7,Cy r7 ⟨d8,Cy r8 ⟨d9,Cy r9 ⟨d10,Cy r10
  ⟨hc,AE (D4 hn) (AE (IP hn) ⟨J3 hn,⟨⟨rfl,rfl⟩,hc⟩,⟨⟨hk1.symm,rfl⟩,⟨hk1.symm,rfl⟩,by omega,by omega⟩,Ho ⟨⟨⟨hk2.symm,rfl⟩,⟨hk2.symm,rfl⟩,by omega,by omega⟩,Ho ⟨rfl,rfl,AE (D4 hn) (AE (IP hn) ⟨J3 hn,⟨⟨rfl,rfl⟩,hsm⟩,AE e1 ⟨rfl,rfl,rfl,rfl,rfl,rfl,rfl,AE e2 rfl⟩⟩)⟩⟩⟩)⟩⟩⟩⟩⟩⟩⟩⟩⟩⟩⟩)
end
end Go.AD
