/-
  Part of the proof: the machine that runs a program by fixed orders, and that each of its runs is a run of the model; or a run of it in parts. No conditions.
-/
import Derived.Test.YtbojbpalkegahaaGreatDoorIdMem4
import Derived.Test.YtbojbpalkegahaaGreatDoorC42gc
import Derived.Test.YtbojbpalkegahaaGreatDoorC42b
import Derived.Test.YtbojbpalkegahaaGreatDoorProg
set_option maxRecDepth 1000000
namespace Go.AD
open Go.Proofs
noncomputable abbrev aq:List (FuncId × Ci):=[(A7,qOp.F),(Aw,KX (Ay AM 9 [] Mm)),(Aq,KX (Ay AM 9 [] Pm)),(Ar,KX (Ay AM 9 [] Kl)),(BC,Ay AM 9 [true] Kb),(Ag,Ay AM 9 [true] eo)]
noncomputable def G8:Ctx:=Cf Tryz.prog AM aq
noncomputable def cd (p:GP):GP:=fun args H K=>match args with
 | .slice (some ⟨b,0,some i⟩) n c::r=>p (.slice (some ⟨b,0,some i⟩) n c::r) H K
 | _=>False
noncomputable def Jb (x:Value) (cur:List (EK.C AT)) (k:Int) (s v:ByteArray):Pf:=fun g=>bif Nat.beq g A7 then some (cC k s v)else bif Nat.beq g Aw then some (I5 x (SV (Bh AM 9 [] Mm) cur))else bif Nat.beq g Aq then some (I5 x (SV (Bh AM 9 [] Pm) cur))else
 bif Nat.beq g Ar then some (cd (Bh AM 9 [] Kl))else bif Nat.beq g BC then some (Bh AM 9 [true] Kb)else bif Nat.beq g Ag then some (Bh AM 9 [true] eo)else Cp g
noncomputable def Pw (cfg:List Int) (m:AB) (n:Nat) (L:List (List (EK.C AT))) (l:List (EK.C [.tok])):AA:=BF ⟨.leaf,9⟩ [.cells (LZ cfg 10 11 (n+1)) 0 false,.abs (.pack (.model m)) false,.vec [.tok] l false,.abs (.mem AT (L.map some)) false]
noncomputable def E0 (n:Nat) (cur:List (EK.C AT)):Value:= .slice (some ⟨12,1,some n⟩) cur.length AE
noncomputable def Cy (cfg:List Int) (m:AB) (n:Nat) (L:List (List (EK.C AT))) (l:List (EK.C [.tok])) (k a b:Int) (key val:ByteArray) (we:Int) (wv:ByteArray) (u:Bool) (e:Int):A5:=
 ⟨⟨AK,HQ [(0,p9),(5,De 13),(8,De 14),(9,.bool u),(10,.int .i64 e)],116,[.code (BH Tryz.prog AK [1,1,1,1,1,1,0,1,0,0]),.inLoop (BH Tryz.prog AK [1,1,1,1,1,1,0,1,0,0]),.inBlock 1,.code (BH Tryz.prog AK [1,1,1,1,1,1,1])],[],false,.normal,none⟩,[],
  ((Pw cfg m n L l).alloc (RL k a b key val)).alloc (.cells [.int .i64 we,.string wv] 0 false)⟩
noncomputable def DE (ids:List Nat) (L:List (List (EK.C AT))):List (EK.C [.tok]):=List.map (Na (O3 13 ids)) (Ae 12 L)
theorem Zx (cfg:List Int) (m:AB) (n:Nat) (L:List (List (EK.C AT))) (cur:List (EK.C AT)) (kind key val:Int) (s v:ByteArray) (Q:Value→List (Option AJ)→Prop) (R:A5→Prop):LK G8 (Jb (E0 n cur) cur 1 s v) AK [9,10,11,12] Q4 Q R 400 (st AK 116 [p9,.agg ⟨[.int .u8 kind,.int .u8 key,.int .u8 val]⟩] (Pw cfg m n L (Ae 12 L)))=(
 ((Eg kind∧Eg key∧Eg val)∧aK kind=1∧aS kind key=s∧aV kind val=v)∧(bif decide (0≤IntKind.wrap .i64 (Int.ofNat (n+1) - 1))&&Nat.blt (Int.toNat (IntKind.wrap .i64 (Int.ofNat (n+1) - 1))) (n+1)then(bif Nat.blt (0+Int.toNat (IntKind.wrap .i64 (Int.ofNat (n+1) - 1))) (List.length (Ae 12 L))&&G5 (SK.enc SK.tok (List.getD (Ae 12 L) (0+Int.toNat (IntKind.wrap .i64 (Int.ofNat (n+1) - 1))) (EK.AU [SK.tok])))then(((.string s):Value)=(.string s))∧(((.pointer (some ⟨14,3,none⟩)):Value)=(.pointer (some ⟨14,3,none⟩)))∧(((.slice (EF (SK.enc SK.tok (List.getD (Ae 12 L) (0+Int.toNat (IntKind.wrap .i64 (Int.ofNat (n+1) - 1))) (EK.AU [SK.tok])))) (EN (SK.enc SK.tok (List.getD (Ae 12 L) (0+Int.toNat (IntKind.wrap .i64 (Int.ofNat (n+1) - 1))) (EK.AU [SK.tok])))) (EP (SK.enc SK.tok (List.getD (Ae 12 L) (0+Int.toNat (IntKind.wrap .i64 (Int.ofNat (n+1) - 1))) (EK.AU [SK.tok]))))):Value)=(.slice (some ⟨12,1,(some n)⟩) (List.length cur) 18446744073709551616))∧(FJ (List.map some L) n cur)∧((List.length cur=List.length cur∧AE=AE)∧List.length cur < 1000000)∧(C5 cur cur (List.map some L) (List.set (List.map some L) n none) n)∧(bif Option.isSome (C6 cur s)then(((.bool (Option.isSome (C6 cur s))):Value)=(.bool true))∧(bif decide (0≤IntKind.wrap .i64 (Int.ofNat (n+1) - 1))&&Nat.blt (Int.toNat (IntKind.wrap .i64 (Int.ofNat (n+1) - 1))) (n+1)then(bif Nat.blt (0+Int.toNat (IntKind.wrap .i64 (Int.ofNat (n+1) - 1))) (List.length (Ae 12 L))&&G5 (SK.enc SK.tok (List.getD (Ae 12 L) (0+Int.toNat (IntKind.wrap .i64 (Int.ofNat (n+1) - 1))) (EK.AU [SK.tok])))then(((.pointer (some ⟨9,0,none⟩)):Value)=(.pointer (some ⟨9,0,none⟩)))∧(((.agg ⟨[(.int .i64 1),(.int .i64 0),(.int .i64 0),(.string s),(.string v)]⟩):Value)=(.agg ⟨[(.int .i64 1),(.int .i64 0),(.int .i64 0),(.string s),(.string v)]⟩))∧(((.slice (EF (SK.enc SK.tok (List.getD (Ae 12 L) (0+Int.toNat (IntKind.wrap .i64 (Int.ofNat (n+1) - 1))) (EK.AU [SK.tok])))) (EN (SK.enc SK.tok (List.getD (Ae 12 L) (0+Int.toNat (IntKind.wrap .i64 (Int.ofNat (n+1) - 1))) (EK.AU [SK.tok])))) (EP (SK.enc SK.tok (List.getD (Ae 12 L) (0+Int.toNat (IntKind.wrap .i64 (Int.ofNat (n+1) - 1))) (EK.AU [SK.tok]))))):Value)=(.slice (some ⟨12,1,(some n)⟩) (List.length cur) 18446744073709551616))∧(FJ (List.map some L) n cur)∧((List.length cur=List.length cur∧AE=AE)∧List.length cur < 400000)∧(C5 cur cur (List.map some L) (List.set (List.map some L) n none) n)∧(((.pointer (some ⟨9,0,none⟩)):Value)=(.pointer (some ⟨9,0,none⟩)))∧((List.length (BS cur 1 s v)=List.length (BS cur 1 s v)∧AE=AE)∧Fu (BS cur 1 s v))∧(((.pointer (some ⟨9,0,none⟩)):Value)=(.pointer (some ⟨9,0,none⟩)))∧(bif decide (BA (BS cur 1 s v)≤IntKind.wrap .i64 (Int.tdiv (IntKind.wrap .i64 (IntKind.wrap .i64 (IntKind.wrap .i64 (List.getD cfg 0 0 - List.getD cfg 2 0) - 2) * 84)) 2))then(R (Cy cfg m n L (DE [14,16] L) 1 0 0 s v 0 ({ data:=#[] }) true 0))else(R (Cy cfg m n L (DE [14,16] L) 1 0 0 s v 4 ({ data:=#[] }) false 0)))else False)else False)else(((.bool (Option.isSome (C6 cur s))):Value)=(.bool false))∧(bif decide (0≤IntKind.wrap .i64 (Int.ofNat (n+1) - 1))&&Nat.blt (Int.toNat (IntKind.wrap .i64 (Int.ofNat (n+1) - 1))) (n+1)then(bif Nat.blt (0+Int.toNat (IntKind.wrap .i64 (Int.ofNat (n+1) - 1))) (List.length (Ae 12 L))&&G5 (SK.enc SK.tok (List.getD (Ae 12 L) (0+Int.toNat (IntKind.wrap .i64 (Int.ofNat (n+1) - 1))) (EK.AU [SK.tok])))then(((.pointer (some ⟨9,0,none⟩)):Value)=(.pointer (some ⟨9,0,none⟩)))∧
 (((.agg ⟨[(.int .i64 1),(.int .i64 0),(.int .i64 0),(.string s),(.string v)]⟩):Value)=(.agg ⟨[(.int .i64 1),(.int .i64 0),(.int .i64 0),(.string s),(.string v)]⟩))∧(((.slice (EF (SK.enc SK.tok (List.getD (Ae 12 L) (0+Int.toNat (IntKind.wrap .i64 (Int.ofNat (n+1) - 1))) (EK.AU [SK.tok])))) (EN (SK.enc SK.tok (List.getD (Ae 12 L) (0+Int.toNat (IntKind.wrap .i64 (Int.ofNat (n+1) - 1))) (EK.AU [SK.tok])))) (EP (SK.enc SK.tok (List.getD (Ae 12 L) (0+Int.toNat (IntKind.wrap .i64 (Int.ofNat (n+1) - 1))) (EK.AU [SK.tok]))))):Value)=(.slice (some ⟨12,1,(some n)⟩) (List.length cur) 18446744073709551616))∧(FJ (List.map some L) n cur)∧((List.length cur=List.length cur∧AE=AE)∧List.length cur < 400000)∧(C5 cur cur (List.map some L) (List.set (List.map some L) n none) n)∧(((.pointer (some ⟨9,0,none⟩)):Value)=(.pointer (some ⟨9,0,none⟩)))∧((List.length (BS cur 1 s v)=List.length (BS cur 1 s v)∧AE=AE)∧Fu (BS cur 1 s v))∧(((.pointer (some ⟨9,0,none⟩)):Value)=(.pointer (some ⟨9,0,none⟩)))∧(bif decide (BA (BS cur 1 s v)≤IntKind.wrap .i64 (Int.tdiv (IntKind.wrap .i64 (IntKind.wrap .i64 (IntKind.wrap .i64 (List.getD cfg 0 0 - List.getD cfg 2 0) - 2) * 84)) 2))then(R (Cy cfg m n L (DE [14,16] L) 1 0 0 s v 0 ({ data:=#[] }) true 0))else(R (Cy cfg m n L (DE [14,16] L) 1 0 0 s v 4 ({ data:=#[] }) false 0)))else False)else False))else False)else False)):=by kernel_rfl
theorem Vn (cfg:List Int) (m:AB) (n:Nat) (L:List (List (EK.C AT))) (cur:List (EK.C AT)) (s v:ByteArray) (we:Int) (wv:ByteArray) (u:Bool) (e:Int) (Q:Value→List (Option AJ)→Prop) (R:A5→Prop):LK G8 (Jb (E0 n cur) cur 1 s v) AK [9,10,11,12,16,17,19] Q4 Q R 600 (Cy cfg m n L (Ae 12 L) 1 0 0 s v we wv u e)=(
 (bif decide (e≤17)then(bif !(e==we&&(ByteArray.toList { data:=#[] }==ByteArray.toList wv&&true))then(bif e != 11 then(List.length (AB.base m) < 1000000∧List.length (AB.now m) < 1000000∧List.length (AB.AG m) < 1000000)∧(((.agg ⟨[(.int .i64 e),(.string ({ data:=#[] }))]⟩):Value)=(.agg ⟨[(.int .i64 e),(.string ({ data:=#[] }))]⟩))∧(((.agg ⟨[(.int .i64 1),(.int .i64 0),(.int .i64 0),(.string s),(.string v)]⟩):Value)=(.agg ⟨[(.int .i64 1),(.int .i64 0),(.int .i64 0),(.string s),(.string v)]⟩))∧(HP m 1 0 0 s v e { data:=#[] })∧(bif Ii m 1 0 0 s v e { data:=#[] } != 7 then(Q (.bool false) [some (.cells [(.pointer (some ⟨10,0,none⟩)),(.int .i64 (List.getD cfg 0 0)),(.int .i64 (List.getD cfg 1 0)),(.int .i64 (List.getD cfg 2 0)),(.int .i64 (List.getD cfg 3 0)),(.int .i64 (List.getD cfg 4 0)),(.int .i64 (List.getD cfg 5 0)),(.int .i64 (List.getD cfg 6 0)),(.slice (some ⟨11,0,(some 0)⟩) (n+1) 18446744073709551616)] 0 false),some (.abs (AX.pack (Pk.model m)) false),some (.vec [SK.tok] (Ae 12 L) false),some (.abs (AX.mem AT (List.map some L)) false),some (.abs (AX.pack (Pk.model (Dq m 1 0 0 s v e { data:=#[] }))) false),none,none])else(R (Cy cfg m n L (DE [13,14] L) 1 0 0 s v we wv u (IntKind.wrap .i64 (e+1)))))else(R (Cy cfg m n L (DE [13,14] L) 1 0 0 s v we wv u (IntKind.wrap .i64 (e+1)))))else(R (Cy cfg m n L (DE [13,14] L) 1 0 0 s v we wv u (IntKind.wrap .i64 (e+1)))))else(bif u then(List.length (AB.base m) < 1000000∧List.length (AB.now m) < 1000000∧List.length (AB.AG m) < 1000000)∧(((.bool u):Value)=(.bool true))∧(((.agg ⟨[(.int .i64 11),(.string ({ data:=#[] }))]⟩):Value)=(.agg ⟨[(.int .i64 11),(.string ({ data:=#[] }))]⟩))∧(((.agg ⟨[(.int .i64 1),(.int .i64 0),(.int .i64 0),(.string s),(.string v)]⟩):Value)=(.agg ⟨[(.int .i64 1),(.int .i64 0),(.int .i64 0),(.string s),(.string v)]⟩))∧(HP m 1 0 0 s v 11 { data:=#[] })∧(((.bool u):Value)=(.bool true))∧(bif Ii m 1 0 0 s v 11 { data:=#[] }==0 then(HP m 1 0 0 s v we wv)∧(bif Ii m 1 0 0 s v we wv != 0 then(Q (.bool false) [some (.cells [(.pointer (some ⟨10,0,none⟩)),(.int .i64 (List.getD cfg 0 0)),(.int .i64 (List.getD cfg 1 0)),(.int .i64 (List.getD cfg 2 0)),(.int .i64 (List.getD cfg 3 0)),(.int .i64 (List.getD cfg 4 0)),(.int .i64 (List.getD cfg 5 0)),(.int .i64 (List.getD cfg 6 0)),(.slice (some ⟨11,0,(some 0)⟩) (n+1) 18446744073709551616)] 0 false),some (.abs (AX.pack (Pk.model (Dq m 1 0 0 s v we wv))) false),some (.vec [SK.tok] (Ae 12 L) false),some (.abs (AX.mem AT (List.map some L)) false),none,none,none])else(bif u then(bif decide (0≤IntKind.wrap .i64 (Int.ofNat (n+1) - 1))&&Nat.blt (Int.toNat (IntKind.wrap .i64 (Int.ofNat (n+1) - 1))) (n+1)then(bif Nat.blt (0+Int.toNat (IntKind.wrap .i64 (Int.ofNat (n+1) - 1))) (List.length (Ae 12 L))&&G5 (SK.enc SK.tok (List.getD (Ae 12 L) (0+Int.toNat (IntKind.wrap .i64 (Int.ofNat (n+1) - 1))) (EK.AU [SK.tok])))then(((.agg ⟨[(.int .i64 1),(.int .i64 0),(.int .i64 0),(.string s),(.string v)]⟩):Value)=(.agg ⟨[(.int .i64 1),(.int .i64 0),(.int .i64 0),(.string s),(.string v)]⟩))∧(((.slice (some ⟨11,0,(some 0)⟩) (n+1) 18446744073709551616):Value)=(.slice (some ⟨11,0,(some 0)⟩) (n+1) 18446744073709551616))∧(((.pointer (some ⟨9,8,none⟩)):Value)=(.pointer (some ⟨9,8,none⟩)))∧(((.pointer (some ⟨9,0,none⟩)):Value)=(.pointer (some ⟨9,0,none⟩)))∧(((.pointer (some ⟨9,0,none⟩)):Value)=(.pointer (some ⟨9,0,none⟩)))∧
 (((.pointer (some ⟨9,0,none⟩)):Value)=(.pointer (some ⟨9,0,none⟩)))∧(((.slice (EF (SK.enc SK.tok (List.getD (Ae 12 L) (0+Int.toNat (IntKind.wrap .i64 (Int.ofNat (n+1) - 1))) (EK.AU [SK.tok])))) (EN (SK.enc SK.tok (List.getD (Ae 12 L) (0+Int.toNat (IntKind.wrap .i64 (Int.ofNat (n+1) - 1))) (EK.AU [SK.tok])))) (EP (SK.enc SK.tok (List.getD (Ae 12 L) (0+Int.toNat (IntKind.wrap .i64 (Int.ofNat (n+1) - 1))) (EK.AU [SK.tok]))))):Value)=(.slice (some ⟨12,1,(some n)⟩) (List.length cur) 18446744073709551616))∧(FJ (List.map some L) n cur)∧((List.length cur=List.length cur∧AE=AE)∧List.length cur < 400000)∧(C5 cur cur (List.map some L) (List.set (List.map some L) n none) n)∧(((.slice (some ⟨11,0,(some 0)⟩) (n+1) 18446744073709551616):Value)=(.slice (some ⟨11,0,(some 0)⟩) (n+1) 18446744073709551616))∧(((.pointer (some ⟨9,8,none⟩)):Value)=(.pointer (some ⟨9,8,none⟩)))∧(((.pointer (some ⟨9,0,none⟩)):Value)=(.pointer (some ⟨9,0,none⟩)))∧(((.pointer (some ⟨9,0,none⟩)):Value)=(.pointer (some ⟨9,0,none⟩)))∧(((.pointer (some ⟨9,0,none⟩)):Value)=(.pointer (some ⟨9,0,none⟩)))∧(bif true&&Nat.ble (0+(n+1)) (List.length (Ae 12 L))&&BV 24 (n+1+1)then(((.pointer (some ⟨9,0,none⟩)):Value)=(.pointer (some ⟨9,0,none⟩)))∧(Q (.bool true) [some (.cells [(.pointer (some ⟨10,0,none⟩)),(.int .i64 (List.getD cfg 0 0)),(.int .i64 (List.getD cfg 1 0)),(.int .i64 (List.getD cfg 2 0)),(.int .i64 (List.getD cfg 3 0)),(.int .i64 (List.getD cfg 4 0)),(.int .i64 (List.getD cfg 5 0)),(.int .i64 (List.getD cfg 6 0)),(.slice (some ⟨19,0,(some 0)⟩) (n+1+1) 18446744073709551616)] 0 false),some (.abs (AX.pack (Pk.model (Dq m 1 0 0 s v we wv))) false),none,some (.abs (AX.mem [SK.str,SK.str] (List.map some L)) false),none,some (.vec ([SK.str,SK.str]) (BS cur 1 s v) false),some (.vec [SK.tok] ((List.take (n+1) (List.drop 0 (Ae 12 L)))++[(.slice (some ⟨17,0,(some 0)⟩) (List.length (BS cur 1 s v)) 18446744073709551616)]) false)])else False)else False)else False)else(Q (.bool true) [some (.cells [(.pointer (some ⟨10,0,none⟩)),(.int .i64 (List.getD cfg 0 0)),(.int .i64 (List.getD cfg 1 0)),(.int .i64 (List.getD cfg 2 0)),(.int .i64 (List.getD cfg 3 0)),(.int .i64 (List.getD cfg 4 0)),(.int .i64 (List.getD cfg 5 0)),(.int .i64 (List.getD cfg 6 0)),(.slice (some ⟨11,0,(some 0)⟩) (n+1) 18446744073709551616)] 0 false),some (.abs (AX.pack (Pk.model (Dq m 1 0 0 s v we wv))) false),some (.vec [SK.tok] (Ae 12 L) false),some (.abs (AX.mem AT (List.map some L)) false),none,none,none])))else(Q (.bool false) [some (.cells [(.pointer (some ⟨10,0,none⟩)),(.int .i64 (List.getD cfg 0 0)),(.int .i64 (List.getD cfg 1 0)),(.int .i64 (List.getD cfg 2 0)),(.int .i64 (List.getD cfg 3 0)),(.int .i64 (List.getD cfg 4 0)),(.int .i64 (List.getD cfg 5 0)),(.int .i64 (List.getD cfg 6 0)),(.slice (some ⟨11,0,(some 0)⟩) (n+1) 18446744073709551616)] 0 false),some (.abs (AX.pack (Pk.model m)) false),some (.vec [SK.tok] (Ae 12 L) false),some (.abs (AX.mem AT (List.map some L)) false),none,none,none]))else(List.length (AB.base m) < 1000000∧List.length (AB.now m) < 1000000∧List.length (AB.AG m) < 1000000)∧(((.bool u):Value)=(.bool false))∧(((.agg ⟨[(.int .i64 11),(.string ({ data:=#[] }))]⟩):Value)=(.agg ⟨[(.int .i64 11),(.string ({ data:=#[] }))]⟩))∧(((.agg ⟨[(.int .i64 1),(.int .i64 0),(.int .i64 0),(.string s),(.string v)]⟩):Value)=(.agg ⟨[(.int .i64 1),(.int .i64 0),(.int .i64 0),(.string s),(.string v)]⟩))∧(HP m 1 0 0 s v 11 { data:=#[] })∧(((.bool u):Value)=(.bool false))∧
 (bif Ii m 1 0 0 s v 11 { data:=#[] }==0 then(Q (.bool false) [some (.cells [(.pointer (some ⟨10,0,none⟩)),(.int .i64 (List.getD cfg 0 0)),(.int .i64 (List.getD cfg 1 0)),(.int .i64 (List.getD cfg 2 0)),(.int .i64 (List.getD cfg 3 0)),(.int .i64 (List.getD cfg 4 0)),(.int .i64 (List.getD cfg 5 0)),(.int .i64 (List.getD cfg 6 0)),(.slice (some ⟨11,0,(some 0)⟩) (n+1) 18446744073709551616)] 0 false),some (.abs (AX.pack (Pk.model m)) false),some (.vec [SK.tok] (Ae 12 L) false),some (.abs (AX.mem AT (List.map some L)) false),none,none,none])else(HP m 1 0 0 s v we wv)∧(bif Ii m 1 0 0 s v we wv != 0 then(Q (.bool false) [some (.cells [(.pointer (some ⟨10,0,none⟩)),(.int .i64 (List.getD cfg 0 0)),(.int .i64 (List.getD cfg 1 0)),(.int .i64 (List.getD cfg 2 0)),(.int .i64 (List.getD cfg 3 0)),(.int .i64 (List.getD cfg 4 0)),(.int .i64 (List.getD cfg 5 0)),(.int .i64 (List.getD cfg 6 0)),(.slice (some ⟨11,0,(some 0)⟩) (n+1) 18446744073709551616)] 0 false),some (.abs (AX.pack (Pk.model (Dq m 1 0 0 s v we wv))) false),some (.vec [SK.tok] (Ae 12 L) false),some (.abs (AX.mem AT (List.map some L)) false),none,none,none])else(bif u then(bif decide (0≤IntKind.wrap .i64 (Int.ofNat (n+1) - 1))&&Nat.blt (Int.toNat (IntKind.wrap .i64 (Int.ofNat (n+1) - 1))) (n+1)then(bif Nat.blt (0+Int.toNat (IntKind.wrap .i64 (Int.ofNat (n+1) - 1))) (List.length (Ae 12 L))&&G5 (SK.enc SK.tok (List.getD (Ae 12 L) (0+Int.toNat (IntKind.wrap .i64 (Int.ofNat (n+1) - 1))) (EK.AU [SK.tok])))then(((.agg ⟨[(.int .i64 1),(.int .i64 0),(.int .i64 0),(.string s),(.string v)]⟩):Value)=(.agg ⟨[(.int .i64 1),(.int .i64 0),(.int .i64 0),(.string s),(.string v)]⟩))∧(((.slice (some ⟨11,0,(some 0)⟩) (n+1) 18446744073709551616):Value)=(.slice (some ⟨11,0,(some 0)⟩) (n+1) 18446744073709551616))∧(((.pointer (some ⟨9,8,none⟩)):Value)=(.pointer (some ⟨9,8,none⟩)))∧(((.pointer (some ⟨9,0,none⟩)):Value)=(.pointer (some ⟨9,0,none⟩)))∧(((.pointer (some ⟨9,0,none⟩)):Value)=(.pointer (some ⟨9,0,none⟩)))∧(((.pointer (some ⟨9,0,none⟩)):Value)=(.pointer (some ⟨9,0,none⟩)))∧(((.slice (EF (SK.enc SK.tok (List.getD (Ae 12 L) (0+Int.toNat (IntKind.wrap .i64 (Int.ofNat (n+1) - 1))) (EK.AU [SK.tok])))) (EN (SK.enc SK.tok (List.getD (Ae 12 L) (0+Int.toNat (IntKind.wrap .i64 (Int.ofNat (n+1) - 1))) (EK.AU [SK.tok])))) (EP (SK.enc SK.tok (List.getD (Ae 12 L) (0+Int.toNat (IntKind.wrap .i64 (Int.ofNat (n+1) - 1))) (EK.AU [SK.tok]))))):Value)=(.slice (some ⟨12,1,(some n)⟩) (List.length cur) 18446744073709551616))∧(FJ (List.map some L) n cur)∧((List.length cur=List.length cur∧AE=AE)∧List.length cur < 400000)∧(C5 cur cur (List.map some L) (List.set (List.map some L) n none) n)∧(((.slice (some ⟨11,0,(some 0)⟩) (n+1) 18446744073709551616):Value)=(.slice (some ⟨11,0,(some 0)⟩) (n+1) 18446744073709551616))∧(((.pointer (some ⟨9,8,none⟩)):Value)=(.pointer (some ⟨9,8,none⟩)))∧(((.pointer (some ⟨9,0,none⟩)):Value)=(.pointer (some ⟨9,0,none⟩)))∧(((.pointer (some ⟨9,0,none⟩)):Value)=(.pointer (some ⟨9,0,none⟩)))∧(((.pointer (some ⟨9,0,none⟩)):Value)=(.pointer (some ⟨9,0,none⟩)))∧(bif true&&Nat.ble (0+(n+1)) (List.length (Ae 12 L))&&BV 24 (n+1+1)then(((.pointer (some ⟨9,0,none⟩)):Value)=(.pointer (some ⟨9,0,none⟩)))∧
 (Q (.bool true) [some (.cells [(.pointer (some ⟨10,0,none⟩)),(.int .i64 (List.getD cfg 0 0)),(.int .i64 (List.getD cfg 1 0)),(.int .i64 (List.getD cfg 2 0)),(.int .i64 (List.getD cfg 3 0)),(.int .i64 (List.getD cfg 4 0)),(.int .i64 (List.getD cfg 5 0)),(.int .i64 (List.getD cfg 6 0)),(.slice (some ⟨19,0,(some 0)⟩) (n+1+1) 18446744073709551616)] 0 false),some (.abs (AX.pack (Pk.model (Dq m 1 0 0 s v we wv))) false),none,some (.abs (AX.mem [SK.str,SK.str] (List.map some L)) false),none,some (.vec ([SK.str,SK.str]) (BS cur 1 s v) false),some (.vec [SK.tok] ((List.take (n+1) (List.drop 0 (Ae 12 L)))++[(.slice (some ⟨17,0,(some 0)⟩) (List.length (BS cur 1 s v)) 18446744073709551616)]) false)])else False)else False)else False)else(Q (.bool true) [some (.cells [(.pointer (some ⟨10,0,none⟩)),(.int .i64 (List.getD cfg 0 0)),(.int .i64 (List.getD cfg 1 0)),(.int .i64 (List.getD cfg 2 0)),(.int .i64 (List.getD cfg 3 0)),(.int .i64 (List.getD cfg 4 0)),(.int .i64 (List.getD cfg 5 0)),(.int .i64 (List.getD cfg 6 0)),(.slice (some ⟨11,0,(some 0)⟩) (n+1) 18446744073709551616)] 0 false),some (.abs (AX.pack (Pk.model (Dq m 1 0 0 s v we wv))) false),some (.vec [SK.tok] (Ae 12 L) false),some (.abs (AX.mem AT (List.map some L)) false),none,none,none]))))))):=by kernel_rfl
theorem Ys (cfg:List Int) (m:AB) (n:Nat) (L:List (List (EK.C AT))) (cur:List (EK.C AT)) (kind key val:Int) (s v:ByteArray) (Q:Value→List (Option AJ)→Prop) (R:A5→Prop):LK G8 (Jb (E0 n cur) cur 2 s v) AK [9,10,11,12] Q4 Q R 400 (st AK 116 [p9,.agg ⟨[.int .u8 kind,.int .u8 key,.int .u8 val]⟩] (Pw cfg m n L (Ae 12 L)))=(
 ((Eg kind∧Eg key∧Eg val)∧aK kind=2∧aS kind key=s∧aV kind val=v)∧(bif decide (0≤IntKind.wrap .i64 (Int.ofNat (n+1) - 1))&&Nat.blt (Int.toNat (IntKind.wrap .i64 (Int.ofNat (n+1) - 1))) (n+1)then(bif Nat.blt (0+Int.toNat (IntKind.wrap .i64 (Int.ofNat (n+1) - 1))) (List.length (Ae 12 L))&&G5 (SK.enc SK.tok (List.getD (Ae 12 L) (0+Int.toNat (IntKind.wrap .i64 (Int.ofNat (n+1) - 1))) (EK.AU [SK.tok])))then(((.string s):Value)=(.string s))∧(((.pointer (some ⟨14,3,none⟩)):Value)=(.pointer (some ⟨14,3,none⟩)))∧(((.slice (EF (SK.enc SK.tok (List.getD (Ae 12 L) (0+Int.toNat (IntKind.wrap .i64 (Int.ofNat (n+1) - 1))) (EK.AU [SK.tok])))) (EN (SK.enc SK.tok (List.getD (Ae 12 L) (0+Int.toNat (IntKind.wrap .i64 (Int.ofNat (n+1) - 1))) (EK.AU [SK.tok])))) (EP (SK.enc SK.tok (List.getD (Ae 12 L) (0+Int.toNat (IntKind.wrap .i64 (Int.ofNat (n+1) - 1))) (EK.AU [SK.tok]))))):Value)=(.slice (some ⟨12,1,(some n)⟩) (List.length cur) 18446744073709551616))∧(FJ (List.map some L) n cur)∧((List.length cur=List.length cur∧AE=AE)∧List.length cur < 1000000)∧(C5 cur cur (List.map some L) (List.set (List.map some L) n none) n)∧(bif Option.isSome (C6 cur s)then(((.bool (Option.isSome (C6 cur s))):Value)=(.bool true))∧(R (Cy cfg m n L (DE [14,16] L) 2 0 0 s v 0 (Option.getD (C6 cur s) e0) false 0))else(((.bool (Option.isSome (C6 cur s))):Value)=(.bool false))∧(R (Cy cfg m n L (DE [14,16] L) 2 0 0 s v 5 (Option.getD (C6 cur s) e0) false 0)))else False)else False)):=by kernel_rfl
theorem We (cfg:List Int) (m:AB) (n:Nat) (L:List (List (EK.C AT))) (cur:List (EK.C AT)) (s v:ByteArray) (we:Int) (wv:ByteArray) (e:Int) (Q:Value→List (Option AJ)→Prop) (R:A5→Prop):LK G8 (Jb (E0 n cur) cur 2 s v) AK [9,10,11,12,16,17,19] Q4 Q R 600 (Cy cfg m n L (Ae 12 L) 2 0 0 s v we wv false e)=(
 (bif decide (e≤17)then(bif !(e==we&&(ByteArray.toList { data:=#[] }==ByteArray.toList wv&&true))then(bif e != 11 then(List.length (AB.base m) < 1000000∧List.length (AB.now m) < 1000000∧List.length (AB.AG m) < 1000000)∧(((.agg ⟨[(.int .i64 e),(.string ({ data:=#[] }))]⟩):Value)=(.agg ⟨[(.int .i64 e),(.string ({ data:=#[] }))]⟩))∧(((.agg ⟨[(.int .i64 2),(.int .i64 0),(.int .i64 0),(.string s),(.string v)]⟩):Value)=(.agg ⟨[(.int .i64 2),(.int .i64 0),(.int .i64 0),(.string s),(.string v)]⟩))∧(HP m 2 0 0 s v e { data:=#[] })∧(bif Ii m 2 0 0 s v e { data:=#[] } != 7 then(Q (.bool false) [some (.cells [(.pointer (some ⟨10,0,none⟩)),(.int .i64 (List.getD cfg 0 0)),(.int .i64 (List.getD cfg 1 0)),(.int .i64 (List.getD cfg 2 0)),(.int .i64 (List.getD cfg 3 0)),(.int .i64 (List.getD cfg 4 0)),(.int .i64 (List.getD cfg 5 0)),(.int .i64 (List.getD cfg 6 0)),(.slice (some ⟨11,0,(some 0)⟩) (n+1) 18446744073709551616)] 0 false),some (.abs (AX.pack (Pk.model m)) false),some (.vec [SK.tok] (Ae 12 L) false),some (.abs (AX.mem AT (List.map some L)) false),some (.abs (AX.pack (Pk.model (Dq m 2 0 0 s v e { data:=#[] }))) false),none,none])else(R (Cy cfg m n L (DE [13,14] L) 2 0 0 s v we wv false (IntKind.wrap .i64 (e+1)))))else(R (Cy cfg m n L (DE [13,14] L) 2 0 0 s v we wv false (IntKind.wrap .i64 (e+1)))))else(R (Cy cfg m n L (DE [13,14] L) 2 0 0 s v we wv false (IntKind.wrap .i64 (e+1)))))else(List.length (AB.base m) < 1000000∧List.length (AB.now m) < 1000000∧List.length (AB.AG m) < 1000000)∧(((.bool false):Value)=(.bool false))∧(((.agg ⟨[(.int .i64 11),(.string ({ data:=#[] }))]⟩):Value)=(.agg ⟨[(.int .i64 11),(.string ({ data:=#[] }))]⟩))∧(((.agg ⟨[(.int .i64 2),(.int .i64 0),(.int .i64 0),(.string s),(.string v)]⟩):Value)=(.agg ⟨[(.int .i64 2),(.int .i64 0),(.int .i64 0),(.string s),(.string v)]⟩))∧(HP m 2 0 0 s v 11 { data:=#[] })∧(((.bool false):Value)=(.bool false))∧(bif Ii m 2 0 0 s v 11 { data:=#[] }==0 then(Q (.bool false) [some (.cells [(.pointer (some ⟨10,0,none⟩)),(.int .i64 (List.getD cfg 0 0)),(.int .i64 (List.getD cfg 1 0)),(.int .i64 (List.getD cfg 2 0)),(.int .i64 (List.getD cfg 3 0)),(.int .i64 (List.getD cfg 4 0)),(.int .i64 (List.getD cfg 5 0)),(.int .i64 (List.getD cfg 6 0)),(.slice (some ⟨11,0,(some 0)⟩) (n+1) 18446744073709551616)] 0 false),some (.abs (AX.pack (Pk.model m)) false),some (.vec [SK.tok] (Ae 12 L) false),some (.abs (AX.mem AT (List.map some L)) false),none,none,none])else(HP m 2 0 0 s v we wv)∧(bif Ii m 2 0 0 s v we wv != 0 then(Q (.bool false) [some (.cells [(.pointer (some ⟨10,0,none⟩)),(.int .i64 (List.getD cfg 0 0)),(.int .i64 (List.getD cfg 1 0)),(.int .i64 (List.getD cfg 2 0)),(.int .i64 (List.getD cfg 3 0)),(.int .i64 (List.getD cfg 4 0)),(.int .i64 (List.getD cfg 5 0)),(.int .i64 (List.getD cfg 6 0)),(.slice (some ⟨11,0,(some 0)⟩) (n+1) 18446744073709551616)] 0 false),some (.abs (AX.pack (Pk.model (Dq m 2 0 0 s v we wv))) false),some (.vec [SK.tok] (Ae 12 L) false),some (.abs (AX.mem AT (List.map some L)) false),none,none,none])else
 (Q (.bool true) [some (.cells [(.pointer (some ⟨10,0,none⟩)),(.int .i64 (List.getD cfg 0 0)),(.int .i64 (List.getD cfg 1 0)),(.int .i64 (List.getD cfg 2 0)),(.int .i64 (List.getD cfg 3 0)),(.int .i64 (List.getD cfg 4 0)),(.int .i64 (List.getD cfg 5 0)),(.int .i64 (List.getD cfg 6 0)),(.slice (some ⟨11,0,(some 0)⟩) (n+1) 18446744073709551616)] 0 false),some (.abs (AX.pack (Pk.model (Dq m 2 0 0 s v we wv))) false),some (.vec [SK.tok] (Ae 12 L) false),some (.abs (AX.mem AT (List.map some L)) false),none,none,none]))))):=by kernel_rfl
theorem Yv (cfg:List Int) (m:AB) (n:Nat) (L:List (List (EK.C AT))) (cur:List (EK.C AT)) (kind key val:Int) (s v:ByteArray) (Q:Value→List (Option AJ)→Prop) (R:A5→Prop):LK G8 (Jb (E0 n cur) cur 3 s v) AK [9,10,11,12] Q4 Q R 400 (st AK 116 [p9,.agg ⟨[.int .u8 kind,.int .u8 key,.int .u8 val]⟩] (Pw cfg m n L (Ae 12 L)))=(
 ((Eg kind∧Eg key∧Eg val)∧aK kind=3∧aS kind key=s∧aV kind val=v)∧(bif decide (0≤IntKind.wrap .i64 (Int.ofNat (n+1) - 1))&&Nat.blt (Int.toNat (IntKind.wrap .i64 (Int.ofNat (n+1) - 1))) (n+1)then(bif Nat.blt (0+Int.toNat (IntKind.wrap .i64 (Int.ofNat (n+1) - 1))) (List.length (Ae 12 L))&&G5 (SK.enc SK.tok (List.getD (Ae 12 L) (0+Int.toNat (IntKind.wrap .i64 (Int.ofNat (n+1) - 1))) (EK.AU [SK.tok])))then(((.string s):Value)=(.string s))∧(((.pointer (some ⟨14,3,none⟩)):Value)=(.pointer (some ⟨14,3,none⟩)))∧(((.slice (EF (SK.enc SK.tok (List.getD (Ae 12 L) (0+Int.toNat (IntKind.wrap .i64 (Int.ofNat (n+1) - 1))) (EK.AU [SK.tok])))) (EN (SK.enc SK.tok (List.getD (Ae 12 L) (0+Int.toNat (IntKind.wrap .i64 (Int.ofNat (n+1) - 1))) (EK.AU [SK.tok])))) (EP (SK.enc SK.tok (List.getD (Ae 12 L) (0+Int.toNat (IntKind.wrap .i64 (Int.ofNat (n+1) - 1))) (EK.AU [SK.tok]))))):Value)=(.slice (some ⟨12,1,(some n)⟩) (List.length cur) 18446744073709551616))∧(FJ (List.map some L) n cur)∧((List.length cur=List.length cur∧AE=AE)∧List.length cur < 1000000)∧(C5 cur cur (List.map some L) (List.set (List.map some L) n none) n)∧(bif Option.isSome (C6 cur s)then(((.bool (Option.isSome (C6 cur s))):Value)=(.bool true))∧(R (Cy cfg m n L (DE [14,16] L) 3 0 0 s v 0 ({ data:=#[] }) true 0))else(((.bool (Option.isSome (C6 cur s))):Value)=(.bool false))∧(R (Cy cfg m n L (DE [14,16] L) 3 0 0 s v 0 ({ data:=#[] }) false 0)))else False)else False)):=by kernel_rfl
theorem Xo (cfg:List Int) (m:AB) (n:Nat) (L:List (List (EK.C AT))) (cur:List (EK.C AT)) (s v:ByteArray) (we:Int) (wv:ByteArray) (u:Bool) (e:Int) (Q:Value→List (Option AJ)→Prop) (R:A5→Prop):LK G8 (Jb (E0 n cur) cur 3 s v) AK [9,10,11,12,16,17,19] Q4 Q R 600 (Cy cfg m n L (Ae 12 L) 3 0 0 s v we wv u e)=(
 (bif decide (e≤17)then(bif !(e==we&&(ByteArray.toList { data:=#[] }==ByteArray.toList wv&&true))then(bif e != 11 then(List.length (AB.base m) < 1000000∧List.length (AB.now m) < 1000000∧List.length (AB.AG m) < 1000000)∧(((.agg ⟨[(.int .i64 e),(.string ({ data:=#[] }))]⟩):Value)=(.agg ⟨[(.int .i64 e),(.string ({ data:=#[] }))]⟩))∧(((.agg ⟨[(.int .i64 3),(.int .i64 0),(.int .i64 0),(.string s),(.string v)]⟩):Value)=(.agg ⟨[(.int .i64 3),(.int .i64 0),(.int .i64 0),(.string s),(.string v)]⟩))∧(HP m 3 0 0 s v e { data:=#[] })∧(bif Ii m 3 0 0 s v e { data:=#[] } != 7 then(Q (.bool false) [some (.cells [(.pointer (some ⟨10,0,none⟩)),(.int .i64 (List.getD cfg 0 0)),(.int .i64 (List.getD cfg 1 0)),(.int .i64 (List.getD cfg 2 0)),(.int .i64 (List.getD cfg 3 0)),(.int .i64 (List.getD cfg 4 0)),(.int .i64 (List.getD cfg 5 0)),(.int .i64 (List.getD cfg 6 0)),(.slice (some ⟨11,0,(some 0)⟩) (n+1) 18446744073709551616)] 0 false),some (.abs (AX.pack (Pk.model m)) false),some (.vec [SK.tok] (Ae 12 L) false),some (.abs (AX.mem AT (List.map some L)) false),some (.abs (AX.pack (Pk.model (Dq m 3 0 0 s v e { data:=#[] }))) false),none,none])else(R (Cy cfg m n L (DE [13,14] L) 3 0 0 s v we wv u (IntKind.wrap .i64 (e+1)))))else(R (Cy cfg m n L (DE [13,14] L) 3 0 0 s v we wv u (IntKind.wrap .i64 (e+1)))))else(R (Cy cfg m n L (DE [13,14] L) 3 0 0 s v we wv u (IntKind.wrap .i64 (e+1)))))else(bif u then(List.length (AB.base m) < 1000000∧List.length (AB.now m) < 1000000∧List.length (AB.AG m) < 1000000)∧(((.bool u):Value)=(.bool true))∧(((.agg ⟨[(.int .i64 11),(.string ({ data:=#[] }))]⟩):Value)=(.agg ⟨[(.int .i64 11),(.string ({ data:=#[] }))]⟩))∧(((.agg ⟨[(.int .i64 3),(.int .i64 0),(.int .i64 0),(.string s),(.string v)]⟩):Value)=(.agg ⟨[(.int .i64 3),(.int .i64 0),(.int .i64 0),(.string s),(.string v)]⟩))∧(HP m 3 0 0 s v 11 { data:=#[] })∧(((.bool u):Value)=(.bool true))∧(bif Ii m 3 0 0 s v 11 { data:=#[] }==0 then(HP m 3 0 0 s v we wv)∧(bif Ii m 3 0 0 s v we wv != 0 then(Q (.bool false) [some (.cells [(.pointer (some ⟨10,0,none⟩)),(.int .i64 (List.getD cfg 0 0)),(.int .i64 (List.getD cfg 1 0)),(.int .i64 (List.getD cfg 2 0)),(.int .i64 (List.getD cfg 3 0)),(.int .i64 (List.getD cfg 4 0)),(.int .i64 (List.getD cfg 5 0)),(.int .i64 (List.getD cfg 6 0)),(.slice (some ⟨11,0,(some 0)⟩) (n+1) 18446744073709551616)] 0 false),some (.abs (AX.pack (Pk.model (Dq m 3 0 0 s v we wv))) false),some (.vec [SK.tok] (Ae 12 L) false),some (.abs (AX.mem AT (List.map some L)) false),none,none,none])else(bif u then(bif decide (0≤IntKind.wrap .i64 (Int.ofNat (n+1) - 1))&&Nat.blt (Int.toNat (IntKind.wrap .i64 (Int.ofNat (n+1) - 1))) (n+1)then(bif Nat.blt (0+Int.toNat (IntKind.wrap .i64 (Int.ofNat (n+1) - 1))) (List.length (Ae 12 L))&&G5 (SK.enc SK.tok (List.getD (Ae 12 L) (0+Int.toNat (IntKind.wrap .i64 (Int.ofNat (n+1) - 1))) (EK.AU [SK.tok])))then(((.agg ⟨[(.int .i64 3),(.int .i64 0),(.int .i64 0),(.string s),(.string v)]⟩):Value)=(.agg ⟨[(.int .i64 3),(.int .i64 0),(.int .i64 0),(.string s),(.string v)]⟩))∧(((.slice (some ⟨11,0,(some 0)⟩) (n+1) 18446744073709551616):Value)=(.slice (some ⟨11,0,(some 0)⟩) (n+1) 18446744073709551616))∧(((.pointer (some ⟨9,8,none⟩)):Value)=(.pointer (some ⟨9,8,none⟩)))∧(((.pointer (some ⟨9,0,none⟩)):Value)=(.pointer (some ⟨9,0,none⟩)))∧(((.pointer (some ⟨9,0,none⟩)):Value)=(.pointer (some ⟨9,0,none⟩)))∧
 (((.pointer (some ⟨9,0,none⟩)):Value)=(.pointer (some ⟨9,0,none⟩)))∧(((.slice (EF (SK.enc SK.tok (List.getD (Ae 12 L) (0+Int.toNat (IntKind.wrap .i64 (Int.ofNat (n+1) - 1))) (EK.AU [SK.tok])))) (EN (SK.enc SK.tok (List.getD (Ae 12 L) (0+Int.toNat (IntKind.wrap .i64 (Int.ofNat (n+1) - 1))) (EK.AU [SK.tok])))) (EP (SK.enc SK.tok (List.getD (Ae 12 L) (0+Int.toNat (IntKind.wrap .i64 (Int.ofNat (n+1) - 1))) (EK.AU [SK.tok]))))):Value)=(.slice (some ⟨12,1,(some n)⟩) (List.length cur) 18446744073709551616))∧(FJ (List.map some L) n cur)∧((List.length cur=List.length cur∧AE=AE)∧List.length cur < 400000)∧(C5 cur cur (List.map some L) (List.set (List.map some L) n none) n)∧(((.slice (some ⟨11,0,(some 0)⟩) (n+1) 18446744073709551616):Value)=(.slice (some ⟨11,0,(some 0)⟩) (n+1) 18446744073709551616))∧(((.pointer (some ⟨9,8,none⟩)):Value)=(.pointer (some ⟨9,8,none⟩)))∧(((.pointer (some ⟨9,0,none⟩)):Value)=(.pointer (some ⟨9,0,none⟩)))∧(((.pointer (some ⟨9,0,none⟩)):Value)=(.pointer (some ⟨9,0,none⟩)))∧(((.pointer (some ⟨9,0,none⟩)):Value)=(.pointer (some ⟨9,0,none⟩)))∧(bif true&&Nat.ble (0+(n+1)) (List.length (Ae 12 L))&&BV 24 (n+1+1)then(((.pointer (some ⟨9,0,none⟩)):Value)=(.pointer (some ⟨9,0,none⟩)))∧(Q (.bool true) [some (.cells [(.pointer (some ⟨10,0,none⟩)),(.int .i64 (List.getD cfg 0 0)),(.int .i64 (List.getD cfg 1 0)),(.int .i64 (List.getD cfg 2 0)),(.int .i64 (List.getD cfg 3 0)),(.int .i64 (List.getD cfg 4 0)),(.int .i64 (List.getD cfg 5 0)),(.int .i64 (List.getD cfg 6 0)),(.slice (some ⟨19,0,(some 0)⟩) (n+1+1) 18446744073709551616)] 0 false),some (.abs (AX.pack (Pk.model (Dq m 3 0 0 s v we wv))) false),none,some (.abs (AX.mem [SK.str,SK.str] (List.map some L)) false),none,some (.vec ([SK.str,SK.str]) (BS cur 3 s v) false),some (.vec [SK.tok] ((List.take (n+1) (List.drop 0 (Ae 12 L)))++[(.slice (some ⟨17,0,(some 0)⟩) (List.length (BS cur 3 s v)) 18446744073709551616)]) false)])else False)else False)else False)else(Q (.bool true) [some (.cells [(.pointer (some ⟨10,0,none⟩)),(.int .i64 (List.getD cfg 0 0)),(.int .i64 (List.getD cfg 1 0)),(.int .i64 (List.getD cfg 2 0)),(.int .i64 (List.getD cfg 3 0)),(.int .i64 (List.getD cfg 4 0)),(.int .i64 (List.getD cfg 5 0)),(.int .i64 (List.getD cfg 6 0)),(.slice (some ⟨11,0,(some 0)⟩) (n+1) 18446744073709551616)] 0 false),some (.abs (AX.pack (Pk.model (Dq m 3 0 0 s v we wv))) false),some (.vec [SK.tok] (Ae 12 L) false),some (.abs (AX.mem AT (List.map some L)) false),none,none,none])))else(Q (.bool false) [some (.cells [(.pointer (some ⟨10,0,none⟩)),(.int .i64 (List.getD cfg 0 0)),(.int .i64 (List.getD cfg 1 0)),(.int .i64 (List.getD cfg 2 0)),(.int .i64 (List.getD cfg 3 0)),(.int .i64 (List.getD cfg 4 0)),(.int .i64 (List.getD cfg 5 0)),(.int .i64 (List.getD cfg 6 0)),(.slice (some ⟨11,0,(some 0)⟩) (n+1) 18446744073709551616)] 0 false),some (.abs (AX.pack (Pk.model m)) false),some (.vec [SK.tok] (Ae 12 L) false),some (.abs (AX.mem AT (List.map some L)) false),none,none,none]))else(List.length (AB.base m) < 1000000∧List.length (AB.now m) < 1000000∧List.length (AB.AG m) < 1000000)∧(((.bool u):Value)=(.bool false))∧(((.agg ⟨[(.int .i64 11),(.string ({ data:=#[] }))]⟩):Value)=(.agg ⟨[(.int .i64 11),(.string ({ data:=#[] }))]⟩))∧(((.agg ⟨[(.int .i64 3),(.int .i64 0),(.int .i64 0),(.string s),(.string v)]⟩):Value)=(.agg ⟨[(.int .i64 3),(.int .i64 0),(.int .i64 0),(.string s),(.string v)]⟩))∧(HP m 3 0 0 s v 11 { data:=#[] })∧(((.bool u):Value)=(.bool false))∧
 (bif Ii m 3 0 0 s v 11 { data:=#[] }==0 then(Q (.bool false) [some (.cells [(.pointer (some ⟨10,0,none⟩)),(.int .i64 (List.getD cfg 0 0)),(.int .i64 (List.getD cfg 1 0)),(.int .i64 (List.getD cfg 2 0)),(.int .i64 (List.getD cfg 3 0)),(.int .i64 (List.getD cfg 4 0)),(.int .i64 (List.getD cfg 5 0)),(.int .i64 (List.getD cfg 6 0)),(.slice (some ⟨11,0,(some 0)⟩) (n+1) 18446744073709551616)] 0 false),some (.abs (AX.pack (Pk.model m)) false),some (.vec [SK.tok] (Ae 12 L) false),some (.abs (AX.mem AT (List.map some L)) false),none,none,none])else(HP m 3 0 0 s v we wv)∧(bif Ii m 3 0 0 s v we wv != 0 then(Q (.bool false) [some (.cells [(.pointer (some ⟨10,0,none⟩)),(.int .i64 (List.getD cfg 0 0)),(.int .i64 (List.getD cfg 1 0)),(.int .i64 (List.getD cfg 2 0)),(.int .i64 (List.getD cfg 3 0)),(.int .i64 (List.getD cfg 4 0)),(.int .i64 (List.getD cfg 5 0)),(.int .i64 (List.getD cfg 6 0)),(.slice (some ⟨11,0,(some 0)⟩) (n+1) 18446744073709551616)] 0 false),some (.abs (AX.pack (Pk.model (Dq m 3 0 0 s v we wv))) false),some (.vec [SK.tok] (Ae 12 L) false),some (.abs (AX.mem AT (List.map some L)) false),none,none,none])else(bif u then(bif decide (0≤IntKind.wrap .i64 (Int.ofNat (n+1) - 1))&&Nat.blt (Int.toNat (IntKind.wrap .i64 (Int.ofNat (n+1) - 1))) (n+1)then(bif Nat.blt (0+Int.toNat (IntKind.wrap .i64 (Int.ofNat (n+1) - 1))) (List.length (Ae 12 L))&&G5 (SK.enc SK.tok (List.getD (Ae 12 L) (0+Int.toNat (IntKind.wrap .i64 (Int.ofNat (n+1) - 1))) (EK.AU [SK.tok])))then(((.agg ⟨[(.int .i64 3),(.int .i64 0),(.int .i64 0),(.string s),(.string v)]⟩):Value)=(.agg ⟨[(.int .i64 3),(.int .i64 0),(.int .i64 0),(.string s),(.string v)]⟩))∧(((.slice (some ⟨11,0,(some 0)⟩) (n+1) 18446744073709551616):Value)=(.slice (some ⟨11,0,(some 0)⟩) (n+1) 18446744073709551616))∧(((.pointer (some ⟨9,8,none⟩)):Value)=(.pointer (some ⟨9,8,none⟩)))∧(((.pointer (some ⟨9,0,none⟩)):Value)=(.pointer (some ⟨9,0,none⟩)))∧(((.pointer (some ⟨9,0,none⟩)):Value)=(.pointer (some ⟨9,0,none⟩)))∧(((.pointer (some ⟨9,0,none⟩)):Value)=(.pointer (some ⟨9,0,none⟩)))∧(((.slice (EF (SK.enc SK.tok (List.getD (Ae 12 L) (0+Int.toNat (IntKind.wrap .i64 (Int.ofNat (n+1) - 1))) (EK.AU [SK.tok])))) (EN (SK.enc SK.tok (List.getD (Ae 12 L) (0+Int.toNat (IntKind.wrap .i64 (Int.ofNat (n+1) - 1))) (EK.AU [SK.tok])))) (EP (SK.enc SK.tok (List.getD (Ae 12 L) (0+Int.toNat (IntKind.wrap .i64 (Int.ofNat (n+1) - 1))) (EK.AU [SK.tok]))))):Value)=(.slice (some ⟨12,1,(some n)⟩) (List.length cur) 18446744073709551616))∧(FJ (List.map some L) n cur)∧((List.length cur=List.length cur∧AE=AE)∧List.length cur < 400000)∧(C5 cur cur (List.map some L) (List.set (List.map some L) n none) n)∧(((.slice (some ⟨11,0,(some 0)⟩) (n+1) 18446744073709551616):Value)=(.slice (some ⟨11,0,(some 0)⟩) (n+1) 18446744073709551616))∧(((.pointer (some ⟨9,8,none⟩)):Value)=(.pointer (some ⟨9,8,none⟩)))∧(((.pointer (some ⟨9,0,none⟩)):Value)=(.pointer (some ⟨9,0,none⟩)))∧(((.pointer (some ⟨9,0,none⟩)):Value)=(.pointer (some ⟨9,0,none⟩)))∧(((.pointer (some ⟨9,0,none⟩)):Value)=(.pointer (some ⟨9,0,none⟩)))∧(bif true&&Nat.ble (0+(n+1)) (List.length (Ae 12 L))&&BV 24 (n+1+1)then(((.pointer (some ⟨9,0,none⟩)):Value)=(.pointer (some ⟨9,0,none⟩)))∧
 (Q (.bool true) [some (.cells [(.pointer (some ⟨10,0,none⟩)),(.int .i64 (List.getD cfg 0 0)),(.int .i64 (List.getD cfg 1 0)),(.int .i64 (List.getD cfg 2 0)),(.int .i64 (List.getD cfg 3 0)),(.int .i64 (List.getD cfg 4 0)),(.int .i64 (List.getD cfg 5 0)),(.int .i64 (List.getD cfg 6 0)),(.slice (some ⟨19,0,(some 0)⟩) (n+1+1) 18446744073709551616)] 0 false),some (.abs (AX.pack (Pk.model (Dq m 3 0 0 s v we wv))) false),none,some (.abs (AX.mem [SK.str,SK.str] (List.map some L)) false),none,some (.vec ([SK.str,SK.str]) (BS cur 3 s v) false),some (.vec [SK.tok] ((List.take (n+1) (List.drop 0 (Ae 12 L)))++[(.slice (some ⟨17,0,(some 0)⟩) (List.length (BS cur 3 s v)) 18446744073709551616)]) false)])else False)else False)else False)else(Q (.bool true) [some (.cells [(.pointer (some ⟨10,0,none⟩)),(.int .i64 (List.getD cfg 0 0)),(.int .i64 (List.getD cfg 1 0)),(.int .i64 (List.getD cfg 2 0)),(.int .i64 (List.getD cfg 3 0)),(.int .i64 (List.getD cfg 4 0)),(.int .i64 (List.getD cfg 5 0)),(.int .i64 (List.getD cfg 6 0)),(.slice (some ⟨11,0,(some 0)⟩) (n+1) 18446744073709551616)] 0 false),some (.abs (AX.pack (Pk.model (Dq m 3 0 0 s v we wv))) false),some (.vec [SK.tok] (Ae 12 L) false),some (.abs (AX.mem AT (List.map some L)) false),none,none,none]))))))):=by kernel_rfl
theorem Zn (cfg:List Int) (m:AB) (n:Nat) (L:List (List (EK.C AT))) (cur:List (EK.C AT)) (kind key val:Int) (s v:ByteArray) (Q:Value→List (Option AJ)→Prop) (R:A5→Prop):LK G8 (Jb (E0 n cur) cur 4 s v) AK [9,10,11,12] Q4 Q R 400 (st AK 116 [p9,.agg ⟨[.int .u8 kind,.int .u8 key,.int .u8 val]⟩] (Pw cfg m n L (Ae 12 L)))=(
 ((Eg kind∧Eg key∧Eg val)∧aK kind=4∧aS kind key=s∧aV kind val=v)∧(bif decide (0≤IntKind.wrap .i64 (Int.ofNat (n+1) - 1))&&Nat.blt (Int.toNat (IntKind.wrap .i64 (Int.ofNat (n+1) - 1))) (n+1)then(bif Nat.blt (0+Int.toNat (IntKind.wrap .i64 (Int.ofNat (n+1) - 1))) (List.length (Ae 12 L))&&G5 (SK.enc SK.tok (List.getD (Ae 12 L) (0+Int.toNat (IntKind.wrap .i64 (Int.ofNat (n+1) - 1))) (EK.AU [SK.tok])))then(((.string s):Value)=(.string s))∧(((.pointer (some ⟨14,3,none⟩)):Value)=(.pointer (some ⟨14,3,none⟩)))∧(((.slice (EF (SK.enc SK.tok (List.getD (Ae 12 L) (0+Int.toNat (IntKind.wrap .i64 (Int.ofNat (n+1) - 1))) (EK.AU [SK.tok])))) (EN (SK.enc SK.tok (List.getD (Ae 12 L) (0+Int.toNat (IntKind.wrap .i64 (Int.ofNat (n+1) - 1))) (EK.AU [SK.tok])))) (EP (SK.enc SK.tok (List.getD (Ae 12 L) (0+Int.toNat (IntKind.wrap .i64 (Int.ofNat (n+1) - 1))) (EK.AU [SK.tok]))))):Value)=(.slice (some ⟨12,1,(some n)⟩) (List.length cur) 18446744073709551616))∧(FJ (List.map some L) n cur)∧((List.length cur=List.length cur∧AE=AE)∧List.length cur < 1000000)∧(C5 cur cur (List.map some L) (List.set (List.map some L) n none) n)∧(bif Option.isSome (C6 cur s)then(((.bool (Option.isSome (C6 cur s))):Value)=(.bool true))∧(R (Cy cfg m n L (DE [14,16] L) 4 0 0 s v 0 ({ data:=#[] }) false 0))else(((.bool (Option.isSome (C6 cur s))):Value)=(.bool false))∧(R (Cy cfg m n L (DE [14,16] L) 4 0 0 s v 0 ({ data:=#[] }) false 0)))else False)else False)):=by kernel_rfl
theorem WW (cfg:List Int) (m:AB) (n:Nat) (L:List (List (EK.C AT))) (cur:List (EK.C AT)) (s v:ByteArray) (we:Int) (wv:ByteArray) (e:Int) (Q:Value→List (Option AJ)→Prop) (R:A5→Prop):LK G8 (Jb (E0 n cur) cur 4 s v) AK [9,10,11,12,16,17,19] Q4 Q R 600 (Cy cfg m n L (Ae 12 L) 4 0 0 s v we wv false e)=(
 (bif decide (e≤17)then(bif !(e==we&&(ByteArray.toList { data:=#[] }==ByteArray.toList wv&&true))then(bif e != 11 then(List.length (AB.base m) < 1000000∧List.length (AB.now m) < 1000000∧List.length (AB.AG m) < 1000000)∧(((.agg ⟨[(.int .i64 e),(.string ({ data:=#[] }))]⟩):Value)=(.agg ⟨[(.int .i64 e),(.string ({ data:=#[] }))]⟩))∧(((.agg ⟨[(.int .i64 4),(.int .i64 0),(.int .i64 0),(.string s),(.string v)]⟩):Value)=(.agg ⟨[(.int .i64 4),(.int .i64 0),(.int .i64 0),(.string s),(.string v)]⟩))∧(HP m 4 0 0 s v e { data:=#[] })∧(bif Ii m 4 0 0 s v e { data:=#[] } != 7 then(Q (.bool false) [some (.cells [(.pointer (some ⟨10,0,none⟩)),(.int .i64 (List.getD cfg 0 0)),(.int .i64 (List.getD cfg 1 0)),(.int .i64 (List.getD cfg 2 0)),(.int .i64 (List.getD cfg 3 0)),(.int .i64 (List.getD cfg 4 0)),(.int .i64 (List.getD cfg 5 0)),(.int .i64 (List.getD cfg 6 0)),(.slice (some ⟨11,0,(some 0)⟩) (n+1) 18446744073709551616)] 0 false),some (.abs (AX.pack (Pk.model m)) false),some (.vec [SK.tok] (Ae 12 L) false),some (.abs (AX.mem AT (List.map some L)) false),some (.abs (AX.pack (Pk.model (Dq m 4 0 0 s v e { data:=#[] }))) false),none,none])else(R (Cy cfg m n L (DE [13,14] L) 4 0 0 s v we wv false (IntKind.wrap .i64 (e+1)))))else(R (Cy cfg m n L (DE [13,14] L) 4 0 0 s v we wv false (IntKind.wrap .i64 (e+1)))))else(R (Cy cfg m n L (DE [13,14] L) 4 0 0 s v we wv false (IntKind.wrap .i64 (e+1)))))else(List.length (AB.base m) < 1000000∧List.length (AB.now m) < 1000000∧List.length (AB.AG m) < 1000000)∧(((.bool false):Value)=(.bool false))∧(((.agg ⟨[(.int .i64 11),(.string ({ data:=#[] }))]⟩):Value)=(.agg ⟨[(.int .i64 11),(.string ({ data:=#[] }))]⟩))∧(((.agg ⟨[(.int .i64 4),(.int .i64 0),(.int .i64 0),(.string s),(.string v)]⟩):Value)=(.agg ⟨[(.int .i64 4),(.int .i64 0),(.int .i64 0),(.string s),(.string v)]⟩))∧(HP m 4 0 0 s v 11 { data:=#[] })∧(((.bool false):Value)=(.bool false))∧(bif Ii m 4 0 0 s v 11 { data:=#[] }==0 then(Q (.bool false) [some (.cells [(.pointer (some ⟨10,0,none⟩)),(.int .i64 (List.getD cfg 0 0)),(.int .i64 (List.getD cfg 1 0)),(.int .i64 (List.getD cfg 2 0)),(.int .i64 (List.getD cfg 3 0)),(.int .i64 (List.getD cfg 4 0)),(.int .i64 (List.getD cfg 5 0)),(.int .i64 (List.getD cfg 6 0)),(.slice (some ⟨11,0,(some 0)⟩) (n+1) 18446744073709551616)] 0 false),some (.abs (AX.pack (Pk.model m)) false),some (.vec [SK.tok] (Ae 12 L) false),some (.abs (AX.mem AT (List.map some L)) false),none,none,none])else(HP m 4 0 0 s v we wv)∧(bif Ii m 4 0 0 s v we wv != 0 then(Q (.bool false) [some (.cells [(.pointer (some ⟨10,0,none⟩)),(.int .i64 (List.getD cfg 0 0)),(.int .i64 (List.getD cfg 1 0)),(.int .i64 (List.getD cfg 2 0)),(.int .i64 (List.getD cfg 3 0)),(.int .i64 (List.getD cfg 4 0)),(.int .i64 (List.getD cfg 5 0)),(.int .i64 (List.getD cfg 6 0)),(.slice (some ⟨11,0,(some 0)⟩) (n+1) 18446744073709551616)] 0 false),some (.abs (AX.pack (Pk.model (Dq m 4 0 0 s v we wv))) false),some (.vec [SK.tok] (Ae 12 L) false),some (.abs (AX.mem AT (List.map some L)) false),none,none,none])else(bif decide (0≤IntKind.wrap .i64 (Int.ofNat (n+1) - 1))&&Nat.blt (Int.toNat (IntKind.wrap .i64 (Int.ofNat (n+1) - 1))) (n+1)then(bif Nat.blt (0+Int.toNat (IntKind.wrap .i64 (Int.ofNat (n+1) - 1))) (List.length (Ae 12 L))&&G5 (SK.enc SK.tok (List.getD (Ae 12 L) (0+Int.toNat (IntKind.wrap .i64 (Int.ofNat (n+1) - 1))) (EK.AU [SK.tok])))then
 (Q (.bool true) [some (.cells [(.pointer (some ⟨10,0,none⟩)),(.int .i64 (List.getD cfg 0 0)),(.int .i64 (List.getD cfg 1 0)),(.int .i64 (List.getD cfg 2 0)),(.int .i64 (List.getD cfg 3 0)),(.int .i64 (List.getD cfg 4 0)),(.int .i64 (List.getD cfg 5 0)),(.int .i64 (List.getD cfg 6 0)),(.slice (some ⟨16,0,none⟩) 1 1)] 0 false),some (.abs (AX.pack (Pk.model (Dq m 4 0 0 s v we wv))) false),some (.vec [SK.tok] (Ae 12 L) false),some (.abs (AX.mem AT (List.map some L)) false),some (.cells [(.slice (EF (SK.enc SK.tok (List.getD (Ae 12 L) (0+Int.toNat (IntKind.wrap .i64 (Int.ofNat (n+1) - 1))) (EK.AU [SK.tok])))) (EN (SK.enc SK.tok (List.getD (Ae 12 L) (0+Int.toNat (IntKind.wrap .i64 (Int.ofNat (n+1) - 1))) (EK.AU [SK.tok])))) (EP (SK.enc SK.tok (List.getD (Ae 12 L) (0+Int.toNat (IntKind.wrap .i64 (Int.ofNat (n+1) - 1))) (EK.AU [SK.tok])))))] 1 false),none,none])else False)else False))))):=by kernel_rfl
end Go.AD

namespace Go.AD
section
variable {base:Env} {W0:World} {μ:Ad} {H:AA} {W:World}
noncomputable def AA.only (H:AA) (a j y:Nat) (L:List (List (ByteArray × ByteArray))) (l:List (ByteArray × ByteArray)) (n c:Nat):AA:=
 ((((((H.LC a j [.str,.str] (L.map some) l).del a).alloc (.abs (.mem [.str,.str] [none]) false)).del H.next).put (H.next+1) (.abs (.mem [.str,.str] [some l]) false)).put y (.vec [.tok] [Value.slice (some ⟨H.next+1,1,some 0⟩) n c] false))
theorem Ja {a j y:Nat} {L:List (List (ByteArray × ByteArray))} {l:List (ByteArray × ByteArray)} {n c:Nat} (x:Nat):(H.only a j y L l n c).get x=
 if x=y then some (.vec [.tok] [Value.slice (some ⟨H.next+1,1,some 0⟩) n c] false)else if x=H.next+1 then some (.abs (.mem [.str,.str] [some l]) false)else if x=H.next then none else if x=a then none else H.get x:=by
 unfold AA.only
 rw[AA.AN]
 split
 ·rfl
 ·rw[AA.AN]
  split
  ·rfl
  ·rename_i h1 h2
   rw[AA.BQ]
   split
   ·rfl
   ·rename_i h3
    rw[AA.AQ,if_neg (by show x≠H.next+1;exact h2),AA.BQ]
    split
    ·rfl
    ·rename_i h4
     rw[F6,if_neg h3,if_neg h4]
theorem AP.only (h:AP base W0 μ H W) {a j y n c:Nat} {L:List (List (ByteArray × ByteArray))} {l:List (ByteArray × ByteArray)} {T:Bv} (ha:H.get a=some (.abs (.mem [.str,.str] (L.map some)) false)) (hm:μ a=some T) (hj:L[j]? = some l)
 (hy:H.get y=some (.vec [.tok] [Value.slice (some ⟨a,1,some j⟩) n c] false)):∃μ2,μ.le μ2∧AP base W0 μ2 (H.only a j y L l n c) W:=by
 have hlt:=h.lt ha
 have hyl:=h.lt hy
 have hya:y≠a:=by rintro rfl;rw[ha]at hy;cases hy
 have hj2:(L.map some)[j]? = some (some l):=by rw[List.getElem?_map,hj];rfl
 obtain⟨ts,M,e1,e2,h1⟩:=h.LC ha hm hj2
 have hle1:μ.le (μ.ext H.next M):=Ad.DK M (h.fresh _ (Nat.le_refl _)).2
 have ga:(H.LC a j [.str,.str] (L.map some) l).get a=some (.abs (.mem [.str,.str] ((L.map some).set j none)) false):=by rw[F6,if_neg (by omega),if_pos rfl]
 have h2:=h1.renew (L2:=[none]) (ts2:=[M]) ga (hle1 a T hm) e1 rfl (fun i N m g1 g2=>by
  cases i with
  | zero=>cases g2
  | succ i=>cases g2)
 have hn1:(H.LC a j [.str,.str] (L.map some) l).next=H.next+1:=rfl
 rw[hn1]at h2
 have hle2:(μ.ext H.next M).le ((μ.ext H.next M).ext (H.next+1) { T with e:=Cg [M] }):=Ad.DK _ (by rw[Ad.BX _ _ (by omega)];exact(h.fresh _ (by omega)).2)
 have mz:((μ.ext H.next M).ext (H.next+1) { T with e:=Cg [M] }) H.next=some M:=hle2 _ _ (Ad.Ak _ _ _)
 have ma:((μ.ext H.next M).ext (H.next+1) { T with e:=Cg [M] }) a=some T:=hle2 _ _ (hle1 a T hm)
 have h3:=h2.SJ (a:=H.next+1) (z:=H.next) (j:=0) (k:=[.str,.str]) (by rfl) (L:=[none]) (l:=l) (T:={ T with e:=Cg [M] }) (M:=M) (ts:=[M])
  (by rw[AA.AQ];exact if_pos rfl) (Ad.Ak _ _ _) rfl rfl (by rw[AA.AQ,if_neg (by show H.next≠H.next+1;omega),AA.BQ,if_neg (by omega),F6,if_pos rfl]) mz (by decide)
 refine⟨_,Ad.le_trans hle1 hle2,h3.TS (x:=[Value.slice (some ⟨a,1,some j⟩) n c]) ?_ rfl ?_⟩
 ·rw[AA.AN,if_neg (by omega),AA.BQ,if_neg (by omega),AA.AQ,if_neg (by show y≠H.next+1;omega),AA.BQ,if_neg hya,F6,if_neg (by omega),if_neg hya]
  exact hy
 ·intro i v v' g1 g2 w hw
  cases i with
  | succ i=>cases g1
  | zero=>
   cases g1;cases g2
   refine AH.VU ma (Ad.Ak _ _ _) (fun N hN=>?_) hw
   rw[e1,Ek,e2]at hN
   cases hN
   show Iv (Cg [M]) 0=some M
   rw[Ek];rfl
theorem AP.fE (h:AP base W0 μ H W) {g:Nat} {T:Bv} (k:EK) (hk:k.length≠0) (hm:μ g=some T):
 AP base W0 (μ.ext H.next ⟨T.c,0,0,Cg [⟨T.c,0,0,k.length⟩]⟩) (H.alloc (.abs (.mem k [some []]) false)) W:=by
 obtain⟨φ,q⟩:=h.abs
 have hb:=h.bound g T hm
 generalize hT2:(⟨T.c,0,0,Cg [⟨T.c,0,0,k.length⟩]⟩:Bv)=T2
 have hTc:T2.c=T.c:=by rw[←hT2]
 have hTe:T2.e=Cg [⟨T.c,0,0,k.length⟩]:=by rw[←hT2]
 have hle:μ.le (μ.ext H.next T2):=Ad.DK T2 (h.fresh _ (Nat.le_refl _)).2
 have get:∀x,(H.alloc (.abs (.mem k [some []]) false)).get x=if x=H.next then some (.abs (.mem k [some []]) false)else H.get x:=fun x=>AA.AQ ..
 have key:∀b o' T3,(H.alloc (.abs (.mem k [some []]) false)).get b=some o'→(μ.ext H.next T2) b=some T3→(b=H.next∧o'= .abs (.mem k [some []]) false∧T3=T2)∨(b≠H.next∧H.get b=some o'∧μ b=some T3):=by
  intro b o' T3 hb hT
  rw[get]at hb
  by_cases e:b=H.next
  ·rw[if_pos e]at hb;cases hb
   subst e;rw[Ad.Ak]at hT;cases hT
   exact .inl ⟨rfl,rfl,rfl⟩
  ·rw[if_neg e]at hb
   rw[Ad.BX _ _ e]at hT
   exact .inr ⟨e,hb,hT⟩
 let φ':Nat→Nat→Prop:=fun b x=>if b=H.next then False else φ b x
 have φn:∀x,φ' H.next x ↔ False:=fun x=>by show(if H.next=H.next then _ else _) ↔ _;rw[if_pos rfl]
 have φo:∀b,b≠H.next→φ' b=φ b:=fun b hb=>by funext x;show(if b=H.next then _ else _)=_;rw[if_neg hb]
 have hvd:(AJ.vec k [] false).void ⟨T.c,0,0,k.length⟩:=⟨rfl,rfl,hk⟩
 have one:∀(j:Nat) (M:Bv),([⟨T.c,0,0,k.length⟩]:List Bv)[j]? = some M→j=0∧M=⟨T.c,0,0,k.length⟩:=fun j M h1=>by
  cases j with
  | zero=>cases h1;exact⟨rfl,rfl⟩
  | succ j=>cases h1
 have hnil:∀(j:Nat) (l:List (EK.C k)),([some []]:List (Option (List (EK.C k))))[j]? = some (some l)→l=[]:=fun j l h1=>by
  cases j with
  | zero=>cases h1;rfl
  | succ j=>cases h1
 refine⟨?_,?_,?_,?_,?_,h.size,h.below,h.out,h.os,⟨φ',?_,?_⟩,Ad.le_trans h.le hle,h.grow⟩
 ·intro b o' hb' T3 hT
  rcases key b o' T3 hb' hT with⟨rfl,rfl,rfl⟩ | ⟨_,hb',hT⟩
  ·exact⟨W.heap[T.c],by rw[hTc];exact Array.getElem?_eq_getElem hb,.abs _ _ _ _⟩
  ·obtain⟨p,hp,hp2⟩:=h.obj b o' hb' T3 hT
   exact⟨p,hp,hp2.mono hle⟩
 ·intro b o' hb' hr T3 hT hv3
  rcases key b o' T3 hb' hT with⟨rfl,rfl,rfl⟩ | ⟨_,hb',hT⟩
  ·exact absurd trivial hv3
  ·exact h.own b o' hb' hr T3 hT hv3
 ·intro b1 b2 o3 o4 h1 h2 T3 T4 m1 m2 v1 v2 hcc hrr
  rcases key b1 o3 T3 h1 m1 with⟨rfl,rfl,rfl⟩ | ⟨n1,g1,k1⟩<;>rcases key b2 o4 T4 h2 m2 with⟨rfl,rfl,rfl⟩ | ⟨n3,g2,k2⟩
  ·rfl
  ·exact absurd trivial v1
  ·exact absurd trivial v2
  ·exact h.inj _ _ o3 o4 g1 g2 T3 T4 k1 k2 v1 v2 hcc hrr
 ·intro b hb'
  have hb':H.next+1≤b:=hb'
  refine⟨?_,by rw[Ad.BX _ _ (by omega)];exact(h.fresh b (by omega)).2⟩
  rw[get,if_neg (by omega)]
  exact(h.fresh b (by omega)).1
 ·intro b T3 hT
  by_cases e:b=H.next
  ·subst e;rw[Ad.Ak]at hT;cases hT
   rw[hTc];exact hb
  ·rw[Ad.BX _ _ e]at hT;exact h.bound b T3 hT
 ·intro b c ro T3 hb' hT
  rcases key b _ T3 hb' hT with⟨rfl,e,rfl⟩ | ⟨n1,hb',hT⟩
  ·cases e
   refine⟨⟨_,hTe,rfl,by rw[hTc];exact hb,fun j M l h1 h2=>?_,fun i j M N l m h1 h2 _ _ _ _ _=>by rw[(one i M h1).1,(one j N h2).1],fun x=>⟨fun hx=>((φn x).1 hx).elim,?_⟩⟩,fun _ i hi=>((φn i).1 hi).elim⟩
   ·obtain⟨rfl,rfl⟩:=one j M h1
    have:=hnil _ l h2;subst this
    exact⟨W.heap[T.c],Array.getElem?_eq_getElem hb,.EG _ _ _ _ rfl rfl hk⟩
   ·rintro⟨j,M,l,h1,h2,h3,_⟩
    obtain⟨rfl,rfl⟩:=one j M h1
    have:=hnil _ l h2;subst this
    exact absurd hvd h3
  ·obtain⟨r1,r2⟩:=q.rep b c ro T3 hb' hT
   rw[φo b n1]
   exact⟨r1.mono hle,r2⟩
 ·intro b c ro T3 hb' hT b2 o2 T4 hb2 hT4 hne
  rcases key b _ T3 hb' hT with⟨rfl,e,rfl⟩ | ⟨n1,g1,k1⟩
  ·exact⟨fun _ hh=>(φn _).1 hh,fun _ i hi=>((φn i).1 hi).elim⟩
  ·rw[φo b n1]
   rcases key b2 o2 T4 hb2 hT4 with⟨rfl,rfl,rfl⟩ | ⟨n3,g2,k2⟩
   ·exact⟨fun hv2=>absurd trivial hv2,fun _ i _ hi2=>(φn i).1 hi2⟩
   ·rw[φo b2 n3]
    exact q.D2 b c ro T3 g1 k1 b2 o2 T4 g2 k2 hne
end
end Go.AD

set_option maxRecDepth 1000000
namespace Go.AD
open Go.Proofs
theorem IX {z n:Nat} {L:List (List (EK.C AT))} {cur:List (EK.C AT)} (hn:L[n]? = some cur):List.getD (Ae z L) (0+Int.toNat (n:Int)) (EK.AU [SK.tok])= .slice (some ⟨z,1,some n⟩) cur.length AE:=by
 rw[Int.toNat_natCast,Nat.zero_add,List.getD_eq_getElem?_getD]
 have h:(Ae z L)[n]? = some (Value.slice (some ⟨z,1,some n⟩) cur.length AE):=by rw[JT];rw[show L[n]? = some cur from hn];rfl
 exact congrArg (fun o=>Option.getD o (EK.AU [SK.tok])) h
theorem EM {n z:Nat} {L:List (List (EK.C AT))} {cur:List (EK.C AT)} (h:n < 1000000) (hL:L.length=n+1) (hn:L[n]? = some cur):(Nat.blt (0+Int.toNat (IntKind.wrap .i64 (Int.ofNat (n+1) - 1))) (List.length (Ae z L))&&G5 (SK.enc SK.tok (List.getD (Ae z L) (0+Int.toNat (IntKind.wrap .i64 (Int.ofNat (n+1) - 1))) (EK.AU [SK.tok]))))=true:=by
 rw[Ok h,IX hn,Da,hL,Int.toNat_natCast,Nat.zero_add]
 have:Nat.blt n (n+1)=true:=Nat.ble_eq_true_of_le (by omega)
 rw[this];rfl
theorem Fy {n z:Nat} {L:List (List (EK.C AT))} {cur:List (EK.C AT)} (h:n < 1000000) (hn:L[n]? = some cur):Value.slice (EF (SK.enc SK.tok (List.getD (Ae z L) (0+Int.toNat (IntKind.wrap .i64 (Int.ofNat (n+1) - 1))) (EK.AU [SK.tok])))) (EN (SK.enc SK.tok (List.getD (Ae z L) (0+Int.toNat (IntKind.wrap .i64 (Int.ofNat (n+1) - 1))) (EK.AU [SK.tok])))) (EP (SK.enc SK.tok (List.getD (Ae z L) (0+Int.toNat (IntKind.wrap .i64 (Int.ofNat (n+1) - 1))) (EK.AU [SK.tok]))))= .slice (some ⟨z,1,some n⟩) cur.length 18446744073709551616:=by
 rw[Ok h,IX hn,FO];rfl
theorem L4 {ρ:Rn} {b:Nat} (hb:∀j n,Na ρ (.slice (some ⟨b,1,some j⟩) n AE)= .slice (some ⟨b,1,some j⟩) n AE):∀(j:Nat) (L:List (List (EK.C AT))),List.map (Na ρ) (E6 b j L)=E6 b j L
 | _,[]=>rfl
 | j,l::L=>by
  show Na ρ (.slice (some ⟨b,1,some j⟩) l.length AE)::List.map (Na ρ) (E6 b (j+1) L)=_
  rw[hb,L4 hb (j+1) L];rfl
theorem CD (ids:List Nat) (L:List (List (EK.C AT))):DE ids L=Ae 12 L:=L4 (fun _ _=>rfl) 0 L
theorem Cs {L:List (List (EK.C AT))} {n:Nat} {cur:List (EK.C AT)} (h:L[n]? = some cur):FJ (L.map some) n cur:=⟨by rw[List.getElem?_map,h];rfl⟩
theorem YF {X:Ctx} {f:FuncId} {F:Ci} {p:GP} (hX:X.GC f=some (KX F)) (hp:∀(args:List Value) (H:AA) (K:Value→AA→Prop),p args H K→∃v H',F args H=some (v,H')∧K v H') (args:List Value) (H:AA) (K:Value→AA→Prop) (h:cd p args H K):
 ∃v H',B5 X f args .normal H=some (v,H')∧K v H':=by
 unfold cd at h
 split at h
 ·rename_i b i n c r
  obtain⟨v,H2,h1,h2⟩:=hp _ _ _ h
  refine⟨v,H2,?_,h2⟩
  have e:KX F (.slice (some ⟨b,0,some i⟩) n c::r) H=some (v,H2):=by
   unfold KX;exact h1
  unfold B5
  rw[hX]
  exact e
 ·exact h.elim
end Go.AD

set_option maxRecDepth 1000000
namespace Go.AD
open Go.Proofs
theorem Gc {laid:List (Nat × List Value)} {N:Nat} {muts:List Bool} {G:List Value→List AJ→GT} {args:List Value} {H:AA} {K:Value→AA→Prop} (h:Bh laid N muts G args H K):∃v H',Ay laid N muts G args H=some (v,H')∧K v H':=by
 obtain⟨v,H',h1,h2⟩:=Ap (X:=⟨G8.P,G8.laid,fun _=>some (Ay laid N muts G),G8.Bj⟩) (f:=0) rfl h
 exact⟨v,H',h1,h2⟩
theorem EU (x:Value) (cur:List (EK.C AT)) (k:Int) (s v:ByteArray):El G8 (Jb x cur k s v):=An (Yn (by kernel_rfl)) (An (Gq fun args H K h=>Jl (F:=Ay AM 9 [] Mm) (by kernel_rfl) (fun _ _ _ h=>Gc h) args H K h) (An (Gq fun args H K h=>Jl (F:=Ay AM 9 [] Pm) (by kernel_rfl) (fun _ _ _ h=>Gc h) args H K h)
 (An (fun args H K h=>YF (F:=Ay AM 9 [] Kl) (by kernel_rfl) (fun _ _ _ h=>Gc h) args H K h) (An (fun _ _ _ h=>Ap (by kernel_rfl) h) (An (fun _ _ _ h=>Ap (by kernel_rfl) h) (Ax _))))))
theorem bu:Au Tryz.prog AM aq:=Au.cons Vk (Au.cons (Jz UW) (Au.cons (Jz Xe) (Au.cons (Jz Pg) (Au.cons Nk (Au.cons Z5 (Au.nil _ _))))))
inductive Ij (cfg:List Int) (m':AB) (n:Nat) (L:List (List (EK.C AT))) (cur:List (EK.C AT)) (k:Int) (s v:ByteArray):Bool→List (Option AJ)→Prop where
 | same (a b c:Option AJ) (hk:(k==4)=false):Ij cfg m' n L cur k s v false [some (.cells (LZ cfg 10 11 (n+1)) 0 false),some (.abs (.pack (.model m')) false),some (.vec [.tok] (Ae 12 L) false),some (.abs (.mem AT (L.map some)) false),a,b,c]
 | app (x:Option AJ) (hk:(k==4)=false):Ij cfg m' n L cur k s v true [some (.cells (LZ cfg 10 19 (n+1+1)) 0 false),some (.abs (.pack (.model m')) false),none,some (.abs (.mem AT (L.map some)) false),x,some (.vec AT (BS cur k s v) false),some (.vec [.tok] (List.take (n+1) (List.drop 0 (Ae 12 L))++[Value.slice (some ⟨17,0,some 0⟩) (BS cur k s v).length AE]) false)]
 | eh (a b:Option AJ) (hk:(k==4)=true):Ij cfg m' n L cur k s v false [some (.cells (fp cfg) 0 false),some (.abs (.pack (.model m')) false),some (.vec [.tok] (Ae 12 L) false),some (.abs (.mem AT (L.map some)) false),some (.cells [.slice (some ⟨12,1,some n⟩) cur.length AE] 1 false),a,b]
abbrev FI:List Nat:=[9,10,11,12,16,17,19]
abbrev MM (cfg:List Int) (m':AB) (n:Nat) (L:List (List (EK.C AT))) (cur:List (EK.C AT)) (k:Int) (s v:ByteArray) (u:Bool):Value→List (Option AJ)→Prop:=fun vv os=>vv= .bool true∧Ij cfg m' n L cur k s v u os
theorem TT {n:Nat} {L:List (List (EK.C AT))} (hn:n < 1000000) (hL:L.length=n+1):(true&&Nat.ble (0+(n+1)) (List.length (Ae 12 L))&&BV 24 (n+1+1))=true:=by
 rw[Da,hL,Nat.ble_eq_true_of_le (by omega)]
 unfold BV
 rw[Nat.ble_eq_true_of_le (by omega),Nat.ble_eq_true_of_le (by omega)];rfl
section
variable {cfg:List Int} {m:AB} {n i:Nat} {L:List (List (EK.C AT))} {cur:List (EK.C AT)} {s v:ByteArray} {we:Int} {wv:ByteArray}
theorem Wt (h:FE cfg m n cur i) (hL:L.length=n+1) (hM:L[n]? = some cur) (hc:EO 1 0 0 s v) {u:Bool} (ha:Cj m 1 s v=(we,wv,u)) (h11:(we==11)=false) (h13:(we==13)=false):∀(q:Nat) (e:Int),(18 - e).toNat=q→0≤e→e≤18→
 Ai G8 13 AK (fun vv H=>MM cfg (Dq m 1 0 0 s v we wv) n L cur 1 s v u vv ((FI++Ac 4 vv).map H.get)) (Cy cfg m n L (Ae 12 L) 1 0 0 s v we wv u e):=by
 have hn:n < 1000000:=by have:=h.K4;have:=h.le;omega
 have hb:=Ld hc rfl ha
 obtain⟨hw1,hw2⟩:=JV hc rfl ha h11 h13
 have hw0:(Ii m 1 0 0 s v we wv != 0)=false:=by rw[hw1];rfl
 intro q
 induction q with
 | zero=>
  intro e hq h0 h18
  refine CB (EU (E0 n cur) cur 1 s v) (ids:=FI) (S:=Q4) (by kernel_rfl) (Q:=MM cfg (Dq m 1 0 0 s v we wv) n L cur 1 s v u) (R:=fun _=>False) (fun vv H h=>h) (fun c h=>h.elim) 600 _ ?_
  rw[Vn]
  refine AY (fun h=>absurd h (by omega)) (fun _=>?_)
  cases u
  ·have hb0:(Ii m 1 0 0 s v 11 { data:=#[] }==0)=false:=by rw[hb];rfl
   refine PK ⟨NN h,rfl,rfl,rfl,Ig h hc rfl _ _,rfl,EE hb0 ⟨Ig h hc rfl _ _,EE hw0 (PK ⟨rfl,?_⟩)⟩⟩
   first | exact Ij.same (k:=1) _ _ _ rfl | (rw[FO];exact Ij.same (k:=1) _ _ _ rfl)
  ·have hb0:(Ii m 1 0 0 s v 11 { data:=#[] }==0)=true:=by rw[hb];rfl
   refine KH ⟨NN h,rfl,rfl,rfl,Ig h hc rfl _ _,rfl,AF hb0 ⟨Ig h hc rfl _ _,EE hw0 (KH (AF (Fz hn) (AF (EM hn hL hM) ⟨rfl,rfl,rfl,rfl,rfl,rfl,Fy hn hM,Cs hM,⟨⟨rfl,rfl⟩,?_⟩,⟨rfl,rfl⟩,rfl,rfl,rfl,rfl,rfl,AF (TT hn hL) ⟨rfl,rfl,?_⟩⟩)))⟩⟩
   ·have:=h.len;have:=h.le;omega
   ·first | exact Ij.app (k:=1) _ rfl | (rw[FO];exact Ij.app (k:=1) _ rfl)
 | succ q ih=>
  intro e hq h0 h18
  have hw:IntKind.wrap .i64 (e+1)=e+1:=wrap64 (by omega) (by omega)
  refine CB (EU (E0 n cur) cur 1 s v) (ids:=FI) (S:=Q4) (by kernel_rfl) (Q:=fun _ _=>False) (R:=fun c=>c=Cy cfg m n L (Ae 12 L) 1 0 0 s v we wv u (e+1)) (fun vv H h=>h.elim) (fun c h=>by rw[h];exact ih (e+1) (by omega) (by omega) (by omega)) 600 _ ?_
  rw[Vn,hw]
  refine AY (fun _=>?_) (fun h=>absurd (show e≤(17:Int) by omega) h)
  refine As (fun hne=>As (fun h11=>?_) (fun _=>?_)) (fun _=>?_)
  ·refine⟨NN h,rfl,rfl,Ig h hc rfl _ _,?_⟩
   rw[LN hc rfl ha (by simpa using h11) hne]
   exact EE rfl (by rw[CD])
  ·rw[CD]
  ·rw[CD]
theorem Wg (h:FE cfg m n cur i) (hc:EO 2 0 0 s v) (ha:Cj m 2 s v=(we,wv,false)) (h11:(we==11)=false) (h13:(we==13)=false):∀(q:Nat) (e:Int),(18 - e).toNat=q→0≤e→e≤18→
 Ai G8 13 AK (fun vv H=>MM cfg (Dq m 2 0 0 s v we wv) n L cur 2 s v false vv ((FI++Ac 4 vv).map H.get)) (Cy cfg m n L (Ae 12 L) 2 0 0 s v we wv false e):=by
 have hn:n < 1000000:=by have:=h.K4;have:=h.le;omega
 have hb:=Ld hc rfl ha
 obtain⟨hw1,hw2⟩:=JV hc rfl ha h11 h13
 have hw0:(Ii m 2 0 0 s v we wv != 0)=false:=by rw[hw1];rfl
 intro q
 induction q with
 | zero=>
  intro e hq h0 h18
  refine CB (EU (E0 n cur) cur 2 s v) (ids:=FI) (S:=Q4) (by kernel_rfl) (Q:=MM cfg (Dq m 2 0 0 s v we wv) n L cur 2 s v false) (R:=fun _=>False) (fun vv H h=>h) (fun c h=>h.elim) 600 _ ?_
  rw[We]
  refine AY (fun h=>absurd h (by omega)) (fun _=>?_)
  have hb0:(Ii m 2 0 0 s v 11 { data:=#[] }==0)=false:=by rw[hb];rfl
  refine⟨NN h,rfl,rfl,rfl,Ig h hc rfl _ _,rfl,EE hb0 ⟨Ig h hc rfl _ _,EE hw0 ⟨rfl,?_⟩⟩⟩
  first | exact Ij.same (k:=2) _ _ _ rfl | (rw[FO];exact Ij.same (k:=2) _ _ _ rfl)
 | succ q ih=>
  intro e hq h0 h18
  have hw:IntKind.wrap .i64 (e+1)=e+1:=wrap64 (by omega) (by omega)
  refine CB (EU (E0 n cur) cur 2 s v) (ids:=FI) (S:=Q4) (by kernel_rfl) (Q:=fun _ _=>False) (R:=fun c=>c=Cy cfg m n L (Ae 12 L) 2 0 0 s v we wv false (e+1)) (fun vv H h=>h.elim) (fun c h=>by rw[h];exact ih (e+1) (by omega) (by omega) (by omega)) 600 _ ?_
  rw[We,hw]
  refine AY (fun _=>?_) (fun h=>absurd (show e≤(17:Int) by omega) h)
  refine As (fun hne=>As (fun h11=>?_) (fun _=>?_)) (fun _=>?_)
  ·refine⟨NN h,rfl,rfl,Ig h hc rfl _ _,?_⟩
   rw[LN hc rfl ha (by simpa using h11) hne]
   exact EE rfl (by rw[CD])
  ·rw[CD]
  ·rw[CD]
theorem XW (h:FE cfg m n cur i) (hL:L.length=n+1) (hM:L[n]? = some cur) (hc:EO 3 0 0 s v) {u:Bool} (ha:Cj m 3 s v=(we,wv,u)) (h11:(we==11)=false) (h13:(we==13)=false):∀(q:Nat) (e:Int),(18 - e).toNat=q→0≤e→e≤18→
 Ai G8 13 AK (fun vv H=>MM cfg (Dq m 3 0 0 s v we wv) n L cur 3 s v u vv ((FI++Ac 4 vv).map H.get)) (Cy cfg m n L (Ae 12 L) 3 0 0 s v we wv u e):=by
 have hn:n < 1000000:=by have:=h.K4;have:=h.le;omega
 have hb:=Ld hc rfl ha
 obtain⟨hw1,hw2⟩:=JV hc rfl ha h11 h13
 have hw0:(Ii m 3 0 0 s v we wv != 0)=false:=by rw[hw1];rfl
 intro q
 induction q with
 | zero=>
  intro e hq h0 h18
  refine CB (EU (E0 n cur) cur 3 s v) (ids:=FI) (S:=Q4) (by kernel_rfl) (Q:=MM cfg (Dq m 3 0 0 s v we wv) n L cur 3 s v u) (R:=fun _=>False) (fun vv H h=>h) (fun c h=>h.elim) 600 _ ?_
  rw[Xo]
  refine AY (fun h=>absurd h (by omega)) (fun _=>?_)
  cases u
  ·have hb0:(Ii m 3 0 0 s v 11 { data:=#[] }==0)=false:=by rw[hb];rfl
   refine PK ⟨NN h,rfl,rfl,rfl,Ig h hc rfl _ _,rfl,EE hb0 ⟨Ig h hc rfl _ _,EE hw0 (PK ⟨rfl,?_⟩)⟩⟩
   first | exact Ij.same (k:=3) _ _ _ rfl | (rw[FO];exact Ij.same (k:=3) _ _ _ rfl)
  ·have hb0:(Ii m 3 0 0 s v 11 { data:=#[] }==0)=true:=by rw[hb];rfl
   refine KH ⟨NN h,rfl,rfl,rfl,Ig h hc rfl _ _,rfl,AF hb0 ⟨Ig h hc rfl _ _,EE hw0 (KH (AF (Fz hn) (AF (EM hn hL hM) ⟨rfl,rfl,rfl,rfl,rfl,rfl,Fy hn hM,Cs hM,⟨⟨rfl,rfl⟩,?_⟩,⟨rfl,rfl⟩,rfl,rfl,rfl,rfl,rfl,AF (TT hn hL) ⟨rfl,rfl,?_⟩⟩)))⟩⟩
   ·have:=h.len;have:=h.le;omega
   ·first | exact Ij.app (k:=3) _ rfl | (rw[FO];exact Ij.app (k:=3) _ rfl)
 | succ q ih=>
  intro e hq h0 h18
  have hw:IntKind.wrap .i64 (e+1)=e+1:=wrap64 (by omega) (by omega)
  refine CB (EU (E0 n cur) cur 3 s v) (ids:=FI) (S:=Q4) (by kernel_rfl) (Q:=fun _ _=>False) (R:=fun c=>c=Cy cfg m n L (Ae 12 L) 3 0 0 s v we wv u (e+1)) (fun vv H h=>h.elim) (fun c h=>by rw[h];exact ih (e+1) (by omega) (by omega) (by omega)) 600 _ ?_
  rw[Xo,hw]
  refine AY (fun _=>?_) (fun h=>absurd (show e≤(17:Int) by omega) h)
  refine As (fun hne=>As (fun h11=>?_) (fun _=>?_)) (fun _=>?_)
  ·refine⟨NN h,rfl,rfl,Ig h hc rfl _ _,?_⟩
   rw[LN hc rfl ha (by simpa using h11) hne]
   exact EE rfl (by rw[CD])
  ·rw[CD]
  ·rw[CD]
theorem WR (h:FE cfg m n cur i) (hL:L.length=n+1) (hM:L[n]? = some cur) (hc:EO 4 0 0 s v) (ha:Cj m 4 s v=(we,wv,false)) (h11:(we==11)=false) (h13:(we==13)=false):∀(q:Nat) (e:Int),(18 - e).toNat=q→0≤e→e≤18→
 Ai G8 13 AK (fun vv H=>MM cfg (Dq m 4 0 0 s v we wv) n L cur 4 s v false vv ((FI++Ac 4 vv).map H.get)) (Cy cfg m n L (Ae 12 L) 4 0 0 s v we wv false e):=by
 have hn:n < 1000000:=by have:=h.K4;have:=h.le;omega
 obtain⟨hw1,hw2⟩:=JV hc rfl ha h11 h13
 have hw0:(Ii m 4 0 0 s v we wv != 0)=false:=by rw[hw1];rfl
 intro q
 induction q with
 | zero=>
  intro e hq h0 h18
  refine CB (EU (E0 n cur) cur 4 s v) (ids:=FI) (S:=Q4) (by kernel_rfl) (Q:=MM cfg (Dq m 4 0 0 s v we wv) n L cur 4 s v false) (R:=fun _=>False) (fun vv H h=>h) (fun c h=>h.elim) 600 _ ?_
  rw[WW]
  refine AY (fun h=>absurd h (by omega)) (fun _=>?_)
  have hb0:(Ii m 4 0 0 s v 11 { data:=#[] }==0)=false:=by rw[Ld hc rfl ha];rfl
  refine⟨NN h,rfl,rfl,rfl,Ig h hc rfl _ _,rfl,EE hb0 ⟨Ig h hc rfl _ _,EE hw0 (AF (Fz hn) (AF (EM hn hL hM) ⟨rfl,?_⟩))⟩⟩
  rw[Fy hn hM]
  first | exact Ij.eh (k:=4) _ _ rfl | (rw[FO];exact Ij.eh (k:=4) _ _ rfl)
 | succ q ih=>
  intro e hq h0 h18
  have hw:IntKind.wrap .i64 (e+1)=e+1:=wrap64 (by omega) (by omega)
  refine CB (EU (E0 n cur) cur 4 s v) (ids:=FI) (S:=Q4) (by kernel_rfl) (Q:=fun _ _=>False) (R:=fun c=>c=Cy cfg m n L (Ae 12 L) 4 0 0 s v we wv false (e+1)) (fun vv H h=>h.elim) (fun c h=>by rw[h];exact ih (e+1) (by omega) (by omega) (by omega)) 600 _ ?_
  rw[WW,hw]
  refine AY (fun _=>?_) (fun h=>absurd (show e≤(17:Int) by omega) h)
  refine As (fun hne=>As (fun h11=>?_) (fun _=>?_)) (fun _=>?_)
  ·refine⟨NN h,rfl,rfl,Ig h hc rfl _ _,?_⟩
   rw[LN hc rfl ha (by simpa using h11) hne]
   exact EE rfl (by rw[CD])
  ·rw[CD]
  ·rw[CD]
end
end Go.AD

set_option maxRecDepth 1000000
namespace Go.AD
open Go.Proofs
section
variable {cfg:List Int} {m:AB} {n i:Nat} {L:List (List (EK.C AT))} {cur:List (EK.C AT)}
abbrev Xa (cfg:List Int) (m:AB) (n:Nat) (L:List (List (EK.C AT))) (cur:List (EK.C AT)) (k:Int) (s v:ByteArray):Value→AA→Prop:=fun vv H=>MM cfg (NT cfg m cur k s v) n L cur k s v (CV cfg cur k s v).2.2 vv ((FI++Ac 4 vv).map H.get)
theorem YP (h:FE cfg m n cur i) (hL:L.length=n+1) (hM:L[n]? = some cur) {k:Int} (hk:k=1∨k=2∨k=3∨k=4) {s v:ByteArray} (hc:EO k 0 0 s v) (hs:s.size≤8) (hv:v.size≤16):
 Ai G8 13 AK (Xa cfg m n L cur k s v) (Cy cfg m n L (Ae 12 L) k 0 0 s v (CV cfg cur k s v).1 (CV cfg cur k s v).2.1 (CV cfg cur k s v).2.2 0):=by
 have ha:=XC h (k:=k) hs hv
 obtain⟨h11,h13⟩:=cl (cfg:=cfg) (cur:=cur) k s v
 have hw:k≠7→Dq m k 0 0 s v (CV cfg cur k s v).1 (CV cfg cur k s v).2.1=NT cfg m cur k s v:=fun h7=>(JV hc (int_ne h7) ha h11 h13).2
 unfold Xa
 rcases hk with rfl | rfl | rfl | rfl
 ·rw[←hw (by decide)];exact Wt h hL hM hc ha h11 h13 18 0 rfl (by decide) (by decide)
 ·have e:(CV cfg cur 2 s v).2.2=false:=by unfold CV;cases (C6 cur s).isSome<;>rfl
  rw[e]at ha
  rw[←hw (by decide),e];exact Wg h hc ha h11 h13 18 0 rfl (by decide) (by decide)
 ·rw[←hw (by decide)];exact XW h hL hM hc ha h11 h13 18 0 rfl (by decide) (by decide)
 ·rw[←hw (by decide)];exact WR h hL hM hc ha h11 h13 18 0 rfl (by decide) (by decide)
theorem Vt (h:FE cfg m n cur i) (hL:L.length=n+1) (hM:L[n]? = some cur) {kind key val:Int} (hb:Eg kind∧Eg key∧Eg val):
 Ai G8 13 AK (Xa cfg m n L cur (aK kind) (aS kind key) (aV kind val)) (st AK 116 [p9,.agg ⟨[.int .u8 kind,.int .u8 key,.int .u8 val]⟩] (Pw cfg m n L (Ae 12 L))):=by
 obtain⟨hc,hk,hs,hv⟩:=MC kind key val
 have hn:n < 1000000:=by have:=h.K4;have:=h.le;omega
 have hl:List.length cur < 400000:=by have:=h.len;have:=h.le;omega
 have ht:=YP h hL hM hk hc hs hv
 generalize hS:aS kind key=s at *
 generalize hV:aV kind val=v at *
 refine CB (EU (E0 n cur) cur (aK kind) s v) (ids:=[9,10,11,12]) (S:=Q4) (by kernel_rfl) (Q:=fun _ _=>False) (R:=fun c=>c=Cy cfg m n L (Ae 12 L) (aK kind) 0 0 s v (CV cfg cur (aK kind) s v).1 (CV cfg cur (aK kind) s v).2.1 (CV cfg cur (aK kind) s v).2.2 0) (fun vv H h=>h.elim) (fun c h=>by rw[h];exact ht) 400 _ ?_
 generalize hK:aK kind=k at *
 rcases hk with rfl | rfl | rfl | rfl
 ·have hsm:Fu (BS cur 1 s v):=by
   obtain⟨_,_,e3,e4,_⟩:=LY h.sorted s v
   refine Nu (fun x hx=>?_) (by have:=h.len;have:=h.le;omega)
   rcases e4 x hx with hx | rfl
   ·exact h.small x hx
   ·exact⟨show s.size≤16 by omega,hv⟩
  have hfin:(bif decide (BA (BS cur 1 s v)≤IntKind.wrap .i64 (Int.tdiv (IntKind.wrap .i64 (IntKind.wrap .i64 (IntKind.wrap .i64 (List.getD cfg 0 0 - List.getD cfg 2 0) - 2) * 84)) 2))then
   Cy cfg m n L (DE [14,16] L) 1 0 0 s v 0 ({ data:=#[] }) true 0=Cy cfg m n L (Ae 12 L) 1 0 0 s v (CV cfg cur 1 s v).1 (CV cfg cur 1 s v).2.1 (CV cfg cur 1 s v).2.2 0
   else Cy cfg m n L (DE [14,16] L) 1 0 0 s v 4 ({ data:=#[] }) false 0=Cy cfg m n L (Ae 12 L) 1 0 0 s v (CV cfg cur 1 s v).1 (CV cfg cur 1 s v).2.1 (CV cfg cur 1 s v).2.2 0):=by
   refine AY (fun hle=>?_) (fun hle=>?_)
   ·have e:CV cfg cur 1 s v=(0,e0,true):=by
     have:K0 cfg cur s v=false:=decide_eq_false (by omega)
     unfold CV;rw[this];rfl
    rw[CD,e];rfl
   ·have e:CV cfg cur 1 s v=(4,e0,false):=by
     have:K0 cfg cur s v=true:=decide_eq_true (by omega)
     unfold CV;rw[this];rfl
    rw[CD,e];rfl
  rw[Zx]
  refine⟨⟨hb,hK,hS,hV⟩,AF (Fz hn) (AF (EM hn hL hM) ⟨rfl,rfl,Fy hn hM,Cs hM,⟨⟨rfl,rfl⟩,by omega⟩,⟨rfl,rfl⟩,As (fun e=>⟨by rw[e],?_⟩) (fun e=>⟨by rw[e],?_⟩)⟩)⟩
  ·exact AF (Fz hn) (AF (EM hn hL hM) ⟨rfl,rfl,Fy hn hM,Cs hM,⟨⟨rfl,rfl⟩,hl⟩,⟨rfl,rfl⟩,rfl,⟨⟨rfl,rfl⟩,hsm⟩,rfl,hfin⟩)
  ·exact AF (Fz hn) (AF (EM hn hL hM) ⟨rfl,rfl,Fy hn hM,Cs hM,⟨⟨rfl,rfl⟩,hl⟩,⟨rfl,rfl⟩,rfl,⟨⟨rfl,rfl⟩,hsm⟩,rfl,hfin⟩)
 ·rw[Ys]
  refine⟨⟨hb,hK,hS,hV⟩,AF (Fz hn) (AF (EM hn hL hM) ⟨rfl,rfl,Fy hn hM,Cs hM,⟨⟨rfl,rfl⟩,by omega⟩,⟨rfl,rfl⟩,As (fun e=>⟨by rw[e],?_⟩) (fun e=>⟨by rw[e],?_⟩)⟩)⟩
  ·have e1:CV cfg cur 2 s v=(0,(C6 cur s).getD e0,false):=by unfold CV;rw[e];rfl
   rw[CD,e1]
  ·have e1:CV cfg cur 2 s v=(5,e0,false):=by unfold CV;rw[e];rfl
   have e2:(C6 cur s).getD e0=e0:=by
    cases hq:C6 cur s with
    | none=>rfl
    | some o=>rw[hq]at e;cases e
   rw[CD,e1,e2]
 ·rw[Yv]
  refine⟨⟨hb,hK,hS,hV⟩,AF (Fz hn) (AF (EM hn hL hM) ⟨rfl,rfl,Fy hn hM,Cs hM,⟨⟨rfl,rfl⟩,by omega⟩,⟨rfl,rfl⟩,As (fun e=>⟨by rw[e],?_⟩) (fun e=>⟨by rw[e],?_⟩)⟩)⟩
  ·have e1:CV cfg cur 3 s v=(0,e0,true):=by unfold CV;rw[e];rfl
   rw[CD,e1];rfl
  ·have e1:CV cfg cur 3 s v=(0,e0,false):=by unfold CV;rw[e];rfl
   rw[CD,e1];rfl
 ·rw[Zn]
  refine⟨⟨hb,hK,hS,hV⟩,AF (Fz hn) (AF (EM hn hL hM) ⟨rfl,rfl,Fy hn hM,Cs hM,⟨⟨rfl,rfl⟩,by omega⟩,⟨rfl,rfl⟩,As (fun e=>⟨by rw[e],?_⟩) (fun e=>⟨by rw[e],?_⟩)⟩)⟩
  ·rw[CD];rfl
  ·rw[CD];rfl
end
end Go.AD

set_option maxRecDepth 1000000
namespace Go.AD
open Go.Proofs
theorem JA (b:Nat):∀(j:Nat) (L:List (List (EK.C AT))),List.flatMap (Ac 4) (E6 b j L)=List.replicate L.length b
 | _,[]=>rfl
 | j,l::L=>by
  show Ac 4 (.slice (some ⟨b,1,some j⟩) l.length AE)++List.flatMap (Ac 4) (E6 b (j+1) L)=_
  rw[JA b (j+1) L];rfl
theorem UR (b z len:Nat) (L:List (List (EK.C AT))) (ro:Bool):EJ (.vec [.tok] (VK b z L len []) ro)=List.replicate L.length b++[z]:=by
 show List.flatMap (Ac 4) (E6 b 0 L++[Value.slice (some ⟨z,0,some 0⟩) len AE])=_
 rw[List.flatMap_append,JA];rfl
theorem L7 {H:AA} {N b:Nat} {r seen:List Nat} (hs:b∈seen):∀(j f:Nat),Ah H N (f+j) (List.replicate j b++r) seen=Ah H N f r seen
 | 0,_=>rfl
 | j+1,f=>by
  have h:seen.any (Nat.beq b)=true:=List.any_eq_true.2 ⟨b,hs,Nat.beq_refl b⟩
  show Ah H N (f+j+1) (b::(List.replicate j b++r)) seen=_
  rw[Ah]
  simp only[h,Bool.or_true,cond_true]
  exact L7 hs j f
structure VQ (cfg:List Int) (m:AB) (n:Nat) (L:List (List (EK.C AT))) (y a:Nat) (H:AA):Prop where
 nd:[9,10,y,a].Nodup
 g9:H.get 9=some (.cells (LZ cfg 10 y (n+1)) 0 false)
 Kj:H.get 10=some (.abs (.pack (.model m)) false)
 gy:H.get y=some (.vec [.tok] (Ae a L) false)
 ga:H.get a=some (.abs (.mem AT (L.map some)) false)
noncomputable def JM (L:List (List (EK.C AT))) (cur:List (EK.C AT)) (k:Int) (s v:ByteArray) (u:Bool):List (List (EK.C AT)):=bif k==4 then [cur]else bif u then L++[BS cur k s v]else L
noncomputable def SD (n:Nat) (k:Int) (u:Bool):Nat:=bif k==4 then 0 else bif u then n+1 else n
theorem Tv {D:Nat→Prop} (hD:D 9) {cfg:List Int} {m':AB} {n:Nat} {L:List (List (EK.C AT))} {cur:List (EK.C AT)} {k:Int} {s v:ByteArray} {u:Bool} {vv:Value} {H:AA} (hL:L.length=n+1) (hM:L[n]? = some cur) (hn:n≤150) (hnx:20≤H.next)
 (hq:MM cfg m' n L cur k s v u vv ((FI++Ac 4 vv).map H.get)):
 ∃v2 H2,(∀(base:Env) (W0:World) (μ:Ad) (W:World) (v':Value),(∀b,D b→∃T,μ b=some T)→AH μ vv v'→AP base W0 μ H W→∃μ2,μ.le μ2∧AP base W0 μ2 H2 W∧AH μ2 v2 v')∧
  v2= .bool true∧∃y a,VQ cfg m' (SD n k u) (JM L cur k s v u) y a H2∧((!(k==4)&& !u)=true→y=11)∧((!(k==4)&& !u)=false→12≤y):=by
 obtain⟨rfl,hq⟩:=hq
 generalize hos:(FI++Ac 4 (.bool true)).map H.get=os at hq
 have hos:[H.get 9,H.get 10,H.get 11,H.get 12,H.get 16,H.get 17,H.get 19]=os:=hos
 have hb:∀μ',AH μ' (.bool true) (.bool true):=fun μ'=> .bool _
 cases hq with
 | same a b c hk=>
  simp only[List.cons.injEq,and_true]at hos
  obtain⟨g9,Kj,g11,g12,_⟩:=hos
  refine⟨_,H,fun base W0 μ W v' _ hv hH=>⟨μ,Ad.le_refl _,hH,hv⟩,rfl,11,12,⟨by decide,?_,Kj,?_,?_⟩,fun _=>rfl,fun e=>(by rw[hk]at e;cases e)⟩
  ·unfold SD;rw[hk];exact g9
  ·unfold JM;rw[hk];exact g11
  ·unfold JM;rw[hk];exact g12
 | app x hk=>
  simp only[List.cons.injEq,and_true]at hos
  obtain⟨g9,Kj,g11,g12,g16,g17,g19⟩:=hos
  have g19:H.get 19=some (.vec [.tok] (VK 12 17 L (BS cur k s v).length []) false):=by
   rw[g19,List.drop_zero,List.take_of_length_le (by rw[Da,hL];exact Nat.le_refl _)];rfl
  have hr:∀x∈[12,17],x∈Ah H 0 200 [9] []:=by
   intro x hx
   rw[Az g9 rfl]
   show x∈Ah H 0 199 [10,19] [9]
   rw[Az Kj rfl]
   show x∈Ah H 0 198 [19] [9,10]
   rw[Az g19 rfl,UR,hL,List.append_nil]
   show x∈Ah H 0 197 (12::(List.replicate n 12++[17])) [9,10,19]
   rw[Az g12 rfl]
   show x∈Ah H 0 196 (List.replicate n 12++[17]) [9,10,19,12]
   rw[show 196=(195 - n+1)+n by omega,L7 (by simp),Az g17 rfl]
   refine Bg H 0 _ _ _ x ?_
   simp only[List.mem_cons,List.not_mem_nil,or_false]at hx
   rcases hx with rfl | rfl<;>simp
  refine⟨_,(H.freeze 12 17 AT (L.map some) (BS cur k s v)).put 19 (.vec [.tok] (Ae H.next (L++[BS cur k s v])++[]) false),fun base W0 μ W v' hd hv hH=>?_,rfl,19,H.next,⟨?_,?_,?_,?_,?_⟩,fun e=>(by rw[hk]at e;cases e),fun _=>by decide⟩
  ·have hr2:=FY hH (N:=0) 200 [9] [] (fun b hb=>by
    rw[List.mem_singleton]at hb;subst hb
    obtain⟨T,hT⟩:=hd 9 hD
    exact⟨T,hT⟩) ⟨List.nodup_nil,fun b hb=>by cases hb⟩
   obtain⟨T,hT⟩:=(hr2.2 12 (hr 12 (by simp))).2
   obtain⟨M,hMz⟩:=(hr2.2 17 (hr 17 (by simp))).2
   obtain⟨T2,h2⟩:=hH.Up (r:=[]) g12 hT g19 g17 hMz
   have hle:=Ad.DK (μ:=μ) T2 (hH.fresh _ (Nat.le_refl _)).2
   exact⟨_,hle,h2,hv.mono hle⟩
  ·simp only[List.nodup_cons,List.mem_cons,List.not_mem_nil,or_false,not_or,List.nodup_nil,and_true,not_false_eq_true]
   omega
  ·unfold SD;rw[AA.AN,if_neg (by decide),HK,if_neg (by omega),if_neg (by decide),if_neg (by decide),hk];exact g9
  ·rw[AA.AN,if_neg (by decide),HK,if_neg (by omega),if_neg (by decide),if_neg (by decide)];exact Kj
  ·unfold JM;rw[AA.AN,if_pos rfl,hk]
   show _=some (AJ.vec [.tok] (Ae H.next (L++[BS cur k s v])) false)
   rw[List.append_nil]
  ·unfold JM;rw[AA.AN,if_neg (by omega),HK,if_pos rfl,hk]
   show _=some (AJ.abs (.mem AT ((L++[BS cur k s v]).map some)) false)
   rw[List.map_append];rfl
 | eh a b hk=>
  simp only[List.cons.injEq,and_true]at hos
  obtain⟨g9,Kj,g11,g12,g16,_⟩:=hos
  have hr:12∈Ah H 0 200 [9] []:=by
   rw[Az g9 rfl]
   show 12∈Ah H 0 199 [10,16] [9]
   rw[Az Kj rfl]
   show 12∈Ah H 0 198 [16] [9,10]
   rw[Az g16 rfl]
   show 12∈Ah H 0 197 [12] [9,10,16]
   rw[Az g12 rfl]
   exact Bg H 0 _ _ _ 12 (by simp)
  generalize hH2:(H.put 16 (.vec [.tok] [Value.slice (some ⟨12,1,some n⟩) cur.length AE] false)).put 9 (.cells ((LZ cfg 10 11 0).take 8++ .slice (some ⟨16,0,some 0⟩) 1 AE::[]) 0 false)=H2
  have q9:H2.get 9=some (.cells (LZ cfg 10 16 (0+1)) 0 false):=by rw[←hH2,AA.AN,if_pos rfl];rfl
  have q10:H2.get 10=some (.abs (.pack (.model m')) false):=by rw[←hH2,AA.AN,if_neg (by decide),AA.AN,if_neg (by decide)];exact Kj
  have q12:H2.get 12=some (.abs (.mem [.str,.str] (L.map some)) false):=by rw[←hH2,AA.AN,if_neg (by decide),AA.AN,if_neg (by decide)];exact g12
  have q16:H2.get 16=some (.vec [.tok] [Value.slice (some ⟨12,1,some n⟩) cur.length AE] false):=by rw[←hH2,AA.AN,if_neg (by decide),AA.AN,if_pos rfl]
  have qn:H2.next=H.next:=by rw[←hH2];rfl
  refine⟨_,H2.only 12 n 16 L cur cur.length AE,fun base W0 μ W v' hd hv hH=>?_,rfl,16,H2.next+1,⟨?_,?_,?_,?_,?_⟩,fun e=>(by rw[hk]at e;cases e),fun _=>by decide⟩
  ·have hr2:=FY hH (N:=0) 200 [9] [] (fun b hb=>by
    rw[List.mem_singleton]at hb;subst hb
    obtain⟨T,hT⟩:=hd 9 hD
    exact⟨T,hT⟩) ⟨List.nodup_nil,fun b hb=>by cases hb⟩
   obtain⟨T,hT⟩:=(hr2.2 12 hr).2
   have h1:=hH.NB (k:=[.tok]) (l:=[Value.slice (some ⟨12,1,some n⟩) cur.length AE]) (ro:=false) (by rw[Gk];exact g16)
   have h2:AP base W0 μ H2 W:=by
    rw[←hH2]
    refine h1.Pu (n:=16) (len:=1) (cap:=1) (l:=[Value.slice (some ⟨12,1,some n⟩) cur.length AE]) (ro2:=false) ?_ (by rw[AA.AN,if_pos rfl]) (by decide) (by decide) (Nat.le_refl 1) (by decide)
    rw[AA.AN,if_neg (by decide)];exact g9
   obtain⟨μ2,hle,h3⟩:=h2.only q12 hT hM q16
   exact⟨μ2,hle,h3,hv.mono hle⟩
  ·simp only[List.nodup_cons,List.mem_cons,List.not_mem_nil,or_false,not_or,List.nodup_nil,and_true,not_false_eq_true]
   omega
  ·unfold SD;rw[Ja,if_neg (by decide),if_neg (by omega),if_neg (by omega),if_neg (by decide),hk];exact q9
  ·rw[Ja,if_neg (by decide),if_neg (by omega),if_neg (by omega),if_neg (by decide)];exact q10
  ·unfold JM;rw[Ja,if_pos rfl,hk];rfl
  ·unfold JM;rw[Ja,if_neg (by omega),if_pos rfl,hk];rfl
end Go.AD

set_option maxRecDepth 1000000
namespace Go.AD
open Go.Proofs
theorem R4 {D:Nat→Prop} (hD:D 9) {cfg:List Int} {m':AB} {n:Nat} {L:List (List (EK.C AT))} {cur:List (EK.C AT)} {k:Int} {s v:ByteArray} {u:Bool} {vv:Value} {H:AA} (hL:L.length=n+1) (hM:L[n]? = some cur) (hn:n≤150)
 (hq:MM cfg m' n L cur k s v u vv ((FI++Ac 4 vv).map H.get)):
 ∃v2 H2,(∀(base:Env) (W0:World) (μ:Ad) (W:World) (v':Value),(∀b,D b→∃T,μ b=some T)→AH μ vv v'→AP base W0 μ H W→∃μ2,μ.le μ2∧AP base W0 μ2 H2 W∧AH μ2 v2 v')∧
  v2= .bool true∧∃y a,VQ cfg m' (SD n k u) (JM L cur k s v u) y a H2∧((!(k==4)&& !u)=true→y=11)∧((!(k==4)&& !u)=false→12≤y):=by
 obtain⟨v2,H2,h1,h2⟩:=Tv (H:=H.SQ 100) hD hL hM hn (Nat.le_trans (by decide) (Nat.le_max_right _ 100)) hq
 exact⟨v2,H2,fun base W0 μ W v' hd hv hH=>h1 base W0 μ W v' hd hv (hH.SQ 100),h2⟩
noncomputable def SI (cfg:List Int) (m:AB) (n:Nat) (L:List (List (EK.C AT))):AA:=BF ⟨.leaf,9⟩ [.cells (LZ cfg 10 11 (n+1)) 0 false,.abs (.pack (.model m)) false,.abs (.pack (.Bd L)) false]
theorem Vu (cfg:List Int) (m:AB) (n:Nat) (L:List (List (EK.C AT))):∀x,12≤x→(SI cfg m n L).get x=none:=by
 intro x hx
 unfold SI
 rw[EI]
 show(if x < 9 then _ else _)=_
 rw[if_neg (by omega),List.getElem?_eq_none (by simp;omega)]
 rfl
theorem Xf (cfg:List Int) (m:AB) (n:Nat) (L:List (List (EK.C AT))):((SI cfg m n L).put 11 (.vec [.tok] (Ae 12 L) false)).alloc (.abs (.mem AT (L.map some)) false)=Pw cfg m n L (Ae 12 L):=by kernel_rfl
theorem MN {ρ:Ren} {b c:Nat} (hb:ρ b=some c):∀(j:Nat) (L:List (List (EK.C AT))),C7 (E9 ρ) (E6 b j L)=some (E6 c j L)
 | _,[]=>rfl
 | j,l::L=>by
  have h1:E9 ρ (.slice (some ⟨b,1,some j⟩) l.length AE)=some (.slice (some ⟨c,1,some j⟩) l.length AE):=by
   simp only[E9,Bm,O2,hb]
   rfl
  show C7 (E9 ρ) (Value.slice (some ⟨b,1,some j⟩) l.length AE::E6 b (j+1) L)=_
  simp only[C7,h1,MN hb (j+1) L]
  rfl
theorem IT {ρ:Ren} {b c:Nat} {L:List (List (EK.C AT))} {ro:Bool} (hb:ρ b=some c):BN ρ (.vec [.tok] (Ae b L) ro)=some (.vec [.tok] (Ae c L) ro):=Mc (MN hb 0 L)
theorem Yr {X:Ctx} {f:FuncId} {Q:Value→AA→Prop} {nt:Nat} {args:List Value} {cfg:List Int} {m:AB} {n:Nat} {L:List (List (EK.C AT))} (hN:At X 12 (fun b=>9≤b∧b < 12) f Q (st f nt args (Pw cfg m n L (Ae 12 L)))):At X 12 (fun b=>9≤b∧b < 12) f Q (st f nt args (SI cfg m n L)):=by
 refine At.opened (b:=11) (s:= .Bd L) (ro:=false) ⟨by omega,by omega⟩ (by show(SI cfg m n L).get 11=_;kernel_rfl) (fun ops p k h=>by cases h) fun objs hr=>?_
 cases hr with
 | Bd=>
  refine⟨_,HT (H:=SI cfg m n L) (b:=11) (ro:=false) (o:= .vec [.tok] (Ae 1 L) false) (o1:= .vec [.tok] (Ae 12 L) false) (p:= .abs (.mem [.str,.str] (L.map some)) false) (p1:= .abs (.mem [.str,.str] (L.map some)) false) (show 11 < 12 by decide) (Vu cfg m n L) (IT (ρ:=D1 11 12 2) rfl) rfl,?_⟩
  rw[Xf];exact hN
theorem Ns (b:Nat) (L:List (List (EK.C AT))) (ro:Bool):EJ (.vec [.tok] (Ae b L) ro)=List.replicate L.length b:=JA b 0 L
theorem ZY {D:Nat→Prop} {v:Value} {H:AA} {cfg:List Int} {m:AB} {n:Nat} {L:List (List (EK.C AT))} {y z:Nat} (hD:D 9) (hL:L≠[]) (h:VQ cfg m n L y z H):
 ∃H2,B7 D v H H2∧H2.get 9=some (.cells (LZ cfg 10 y (n+1)) 0 false)∧H2.get 10=some (.abs (.pack (.model m)) false)∧H2.get y=some (.abs (.pack (.Bd L)) false):=by
 have hnd:=h.nd
 simp only[List.nodup_cons,List.mem_cons,List.not_mem_nil,or_false,not_or,List.nodup_nil,and_true,not_false_eq_true]at hnd
 obtain⟨⟨n1,n2,n3⟩,⟨n4,n5⟩,n6⟩:=hnd
 have s1:=B0 (s:= .Bd L) (bs:=[y,z]) (H:=H) (by simp[n6])
 obtain⟨q,hq⟩:∃q,L.length=q+1:=⟨L.length - 1,by have:=List.length_pos_iff.2 hL;omega⟩
 have hR:∀x,x=y∨x=z→x∈Ah H 0 200 [9] []:=by
  intro x hx
  rw[Az h.g9 rfl]
  show x∈Ah H 0 199 [10,y] [9]
  rw[Az h.Kj rfl]
  show x∈Ah H 0 198 [y] [9,10]
  rw[Az h.gy (by simp[K7 (Ne.symm n2),K7 (Ne.symm n4)]),Ns,hq]
  show x∈Ah H 0 197 (z::(List.replicate q z++[])) [9,10,y]
  rw[Az h.ga (by simp[K7 (Ne.symm n3),K7 (Ne.symm n5),K7 (Ne.symm n6)])]
  exact Bg H 0 _ _ _ x (by rcases hx with rfl | rfl<;>simp)
 refine⟨C1 (.Bd L) [y,z] H,Ol (s:= .Bd L) (b:=y) (n:=z) (rs:=[9]) (o1:= .vec [.tok] (Ae z L) false) (p1:= .abs (.mem [.str,.str] (L.map some)) false) (.Bd L) (fun b hb=>by rw[List.mem_singleton]at hb;subst hb;exact .inr hD) (hR y (.inl rfl)) (hR z (.inr rfl)) (Ne.symm n6) h.gy rfl rfl (IT rfl) h.ga rfl rfl rfl (.refl _) rfl (fun T hv=>?_),?_,?_,s1.root y rfl⟩
 ·have:=hv.1
  have e:=congrArg List.length this
  rw[Da,hq]at e;cases e
 ·rw[s1.C2 9 (by simp[n2,n3])];exact h.g9
 ·rw[s1.C2 10 (by simp[n4,n5])];exact h.Kj
end Go.AD

set_option maxRecDepth 1000000
namespace Go.AD
open Go.Proofs
noncomputable def Bi (L:List (List (EK.C AT))):List (EK.C AT):=(L[L.length - 1]?).getD []
structure Rj (cfg:List Int) (m:AB) (L:List (List (EK.C AT))) (kind key val:Int):Prop where
 inv:∃i,i≤140∧FE cfg m (L.length - 1) (Bi L) i
 ne:L≠[]
 b:Eg kind∧Eg key∧Eg val
noncomputable def Gg (cfg:List Int) (L:List (List (EK.C AT))) (kind key val:Int):List (List (EK.C AT)):=JM L (Bi L) (aK kind) (aS kind key) (aV kind val) (CV cfg (Bi L) (aK kind) (aS kind key) (aV kind val)).2.2
theorem Qo {cfg:List Int} {L:List (List (EK.C AT))} {kind key val:Int} (hL:L≠[]):Gg cfg L kind key val≠[]∧(Gg cfg L kind key val).length=SD (L.length - 1) (aK kind) (CV cfg (Bi L) (aK kind) (aS kind key) (aV kind val)).2.2+1:=by
 have h:=List.length_pos_iff.2 hL
 unfold Gg JM SD
 cases aK kind==4
 ·cases (CV cfg (Bi L) (aK kind) (aS kind key) (aV kind val)).2.2
  ·exact⟨hL,by simp only[cond_false];omega⟩
  ·exact⟨by simp,by simp only[cond_true,cond_false,List.length_append,List.length_singleton];omega⟩
 ·exact⟨by simp,rfl⟩
noncomputable def Sx (args:List Value) (objs:List AJ):GT:=
 match args,objs with
 | [.pointer (some ⟨9,0,none⟩),.agg ⟨[.int .u8 kind,.int .u8 key,.int .u8 val]⟩],[.cells [.pointer (some ⟨10,0,none⟩),.int .i64 c0,.int .i64 c1,.int .i64 c2,.int .i64 c3,.int .i64 c4,.int .i64 c5,.int .i64 c6,.slice (some ⟨11,0,some 0⟩) nn cap] 0 _,.abs (.pack (.model m)) _,.abs (.pack (.Bd L)) _]=>
  .ask ((nn=L.length∧cap=AE)∧Rj [c0,c1,c2,c3,c4,c5,c6] m L kind key val) (.test (Qv [c0,c1,c2,c3,c4,c5,c6] (Bi L) kind key val)
   (.ret ⟨.bool true,[some (.cells (LZ [c0,c1,c2,c3,c4,c5,c6] 10 11 L.length) 0 false),some (.abs (.pack (.model (cM [c0,c1,c2,c3,c4,c5,c6] m (Bi L) kind key val))) false),some (.abs (.pack (.Bd L)) false)],[]⟩)
   (.ret ⟨.bool true,[some (.cells (LZ [c0,c1,c2,c3,c4,c5,c6] 10 12 (Gg [c0,c1,c2,c3,c4,c5,c6] L kind key val).length) 0 false),some (.abs (.pack (.model (cM [c0,c1,c2,c3,c4,c5,c6] m (Bi L) kind key val))) false),none],
    [.abs (.pack (.Bd (Gg [c0,c1,c2,c3,c4,c5,c6] L kind key val))) false]⟩))
 | _,_=> .fail
theorem Vo:Dr Tryz.prog AM AK (Ay AM 9 [true,true,true] Sx):=by
 refine BZ bu (by kernel_rfl) (n:=116) (by kernel_rfl) (by kernel_rfl) fun argsc objs x hx hro=>?_
 unfold Sx at hx
 split at hx
 ·rename_i kind key val c0 c1 c2 c3 c4 c5 c6 nn cap r0 m r1 L r2
  simp only[GT.run]at hx
  split at hx
  ·rename_i hok
   obtain⟨⟨rfl,rfl⟩,⟨i,hi,hinv⟩,hne,hb⟩:=hok
   have e0:r0=false:=hro 0 _ rfl rfl
   have e1:r1=false:=hro 1 _ rfl rfl
   have e2:r2=false:=hro 2 _ rfl rfl
   subst e0 e1 e2
   have hpos:=List.length_pos_iff.2 hne
   have hlen:L.length=L.length - 1+1:=by omega
   have hM:L[L.length - 1]? = some (Bi L):=by
    unfold Bi
    rw[List.getElem?_eq_getElem (by omega)];rfl
   have hn150:L.length - 1≤150:=by have:=hinv.K4;omega
   generalize hcfg:[c0,c1,c2,c3,c4,c5,c6]=cfg at *
   have hroot:AJ.cells [.pointer (some ⟨10,0,none⟩),.int .i64 c0,.int .i64 c1,.int .i64 c2,.int .i64 c3,.int .i64 c4,.int .i64 c5,.int .i64 c6,.slice (some ⟨11,0,some 0⟩) L.length AE] 0 false= .cells (LZ cfg 10 11 (L.length - 1+1)) 0 false:=by rw[←hcfg,←hlen];rfl
   refine⟨by simp,?_⟩
   rw[hroot]
   show At G8 12 (fun b=>9≤b∧b < 12) AK _ (st AK 116 [p9,.agg ⟨[.int .u8 kind,.int .u8 key,.int .u8 val]⟩] (SI cfg m (L.length - 1) L))
   obtain⟨hne2,hlen2⟩:=Qo (cfg:=cfg) (kind:=kind) (key:=key) (val:=val) hne
   refine At.shut (Yr (At.tell (Ai.lower (by decide) (Vt hinv hlen hM hb)).I3 fun v H hq=>R4 (D:=fun b=>9≤b∧b < 12) ⟨by decide,by decide⟩ hlen hM hn150 hq)) ?_
   rintro v H ⟨rfl,y,z,hK,hy1,hy2⟩
   obtain⟨H2,k1,k2,k3,k4⟩:=ZY (D:=fun b=>9≤b∧b < 9+3) (v:= .bool true) ⟨by decide,by decide⟩ hne2 hK
   rw[←hlen2]at k2
   refine⟨H2,k1,?_⟩
   cases hkeep:Qv cfg (Bi L) kind key val
   ·rw[hkeep]at hx
    cases hx
    have hy:=hy2 hkeep
    refine⟨[y],by simp,fun c hc=>by simp at hc;show 12≤c;omega,rfl,rfl,fun j c p hj hp=>?_,fun j o hj hm ho=>?_⟩
    ·cases j with
     | zero=>cases hj;cases hp;exact⟨_,rfl,k4⟩
     | succ j=>cases j<;>cases hj
    ·cases j with
     | zero=>cases ho;exact⟨_,rfl,k2⟩
     | succ j=>cases j with
      | zero=>cases ho;exact⟨_,rfl,k3⟩
      | succ j=>cases j with
       | zero=>cases ho
       | succ j=>exact absurd hj (by show ¬(j+3 < 3);omega)
   ·rw[hkeep]at hx
    cases hx
    have hy:=hy1 hkeep
    subst hy
    have hkk:Gg cfg L kind key val=L:=by
     unfold Qv at hkeep
     simp only[Bool.and_eq_true,Bool.not_eq_true']at hkeep
     unfold Gg JM
     rw[hkeep.1,hkeep.2];rfl
    rw[hkk]at k2
    have k4:H2.get 11=some (.abs (.pack (.Bd (Gg cfg L kind key val))) false):=k4
    rw[hkk]at k4
    refine⟨[],List.nodup_nil,(fun c hc=>by cases hc),rfl,rfl,(fun j c p hj hp=>by cases hj),fun j o hj hm ho=>?_⟩
    cases j with
    | zero=>cases ho;exact⟨_,rfl,k2⟩
    | succ j=>cases j with
     | zero=>cases ho;exact⟨_,rfl,k3⟩
     | succ j=>cases j with
      | zero=>cases ho;exact⟨_,rfl,k4⟩
      | succ j=>exact absurd hj (by show ¬(j+3 < 3);omega)
  ·cases hx
 ·cases hx
end Go.AD

set_option maxRecDepth 1000000
namespace Go.AD
open Go.Proofs
theorem AP.bJ {base:Env} {W0:World} {μ:Ad} {H:AA} {W:World} (h:AP base W0 μ H W) {a b e j:Nat} {ro:Bool} {x:Value} {pre post:List Value} {T:Bv} (ha:μ a=some T) (hx:∀ν:Ad,KA ν x)
 (hb:H.get b=some (.cells (pre++x::post) e ro)):AP base W0 μ (H.put b (.cells (pre++ .slice (some ⟨a,1,some j⟩) 0 AE::post) e ro)) W:=by
 refine h.swap hb (fun T' o' _ ho=>?_) rfl rfl rfl (fun _ _ hv=>hv)
 cases ho with
 | cells _ _ _ c t lo hi he hc hr hf=>
  refine .cells T' _ e ro c t lo hi he ?_ hr hf
  have hc2:=FW (a1:= .slice (some ⟨a,1,some j⟩) 0 AE) (Ad.le_refl _) (fun v' hv=>by
   obtain⟨p,rfl⟩:=hx _ v' hv
   exact .ED a j AE T p ha (.inr ⟨Nat.le_refl _,Nat.sub_self _⟩)) pre _ hc
  have e1:(pre++x::post).length=(pre++Value.slice (some ⟨a,1,some j⟩) 0 AE::post).length:=by simp
  rw[←e1];exact hc2
noncomputable def TJ (args:List Value) (objs:List AJ):GT:=
 match args,objs with
 | [.int .u8 slots],[]=> .ask (Eg slots) (.ret ⟨.pointer (some ⟨9,0,none⟩),[],[.cells (LZ (Dt (Int.tmod slots 8)) 10 11 (0+1)) 0 false,.abs (.pack (.model (m0 (Int.tmod slots 8)))) false,.abs (.pack (.Bd [[]])) false]⟩)
 | _,_=> .fail
theorem Vy:Dr Tryz.prog AM BR (Ay AM 9 [] TJ):=by
 refine BZ allM (by kernel_rfl) (n:=28) (by kernel_rfl) (by kernel_rfl) fun argsc objs x hx hro=>?_
 unfold TJ at hx
 split at hx
 ·rename_i slots
  simp only[GT.run]at hx
  split at hx
  ·rename_i hb
   cases hx
   refine⟨by simp,?_⟩
   show At XM 9 (fun b=>9≤b∧b < 9) BR _ (st BR 28 [.int .u8 slots] ⟨.leaf,9⟩)
   generalize hs:Int.tmod slots 8=s
   refine At.shut (Q:=fun v H=>v=De 30∧∃z1 z2,100≤z1∧100≤z2∧z1≠z2∧H.get 26=some (Ch [])∧H.get 27=some (Ch [])∧H.get 28=some (.cells (BJ (m0 s) 26 27 (.slice (some ⟨z1,0,some 0⟩) 0 AE)) 0 false)∧H.get z1=some (.vec Bn [] false)∧
    H.get 29=some (.vec [.tok] (Ae z2 [[]]) false)∧H.get z2=some (.abs (.mem AT [some []]) false)∧H.get 30=some (.cells (LZ (Dt s) 28 29 (0+1)) 0 false)) ((ZA hb).I3.tell ?_) ?_
   ·rintro v H ⟨rfl,hh⟩
    rw[hs]at hh
    simp only[List.cons.injEq,and_true]at hh
    obtain⟨g26,g27,g28,g29,g30⟩:=hh
    have n1:=H.D7
    have e1:H.Bu=max H.next 100:=rfl
    generalize hH1:(H.CO Bn).put 28 (.cells (BJ (m0 s) 26 27 (.slice (some ⟨H.Bu,0,some 0⟩) 0 AE)) 0 false)=H1
    have e2:H1.next=max H.next 100+1:=by rw[←hH1];rfl
    have n2:100≤H1.next:=by omega
    have hne:H.Bu≠H1.next:=by omega
    have o1:∀y,y < 100→y≠28→H1.get y=H.get y:=fun y hy h28=>by rw[←hH1,AA.AN,if_neg h28,AA.CM,if_neg (by omega)]
    generalize hH2:(H1.alloc (.abs (.mem AT [some []]) false)).put 29 (.cells ([]++ .slice (some ⟨H1.next,1,some 0⟩) 0 AE::[]) 1 false)=H2
    have o2:∀y,y≠H1.next→y≠29→H2.get y=H1.get y:=fun y hy h29=>by rw[←hH2,AA.AN,if_neg h29,AA.AQ,if_neg hy]
    refine⟨_,(H2.put 29 (.vec [.tok] [Value.slice (some ⟨H1.next,1,some 0⟩) 0 AE] false)).put 30 (.cells ((LZ (Dt s) 28 29 0).take 8++ .slice (some ⟨29,0,some 0⟩) 1 AE::[]) 0 false),fun base W0 μ W v' _ hv hH=>?_,rfl,H.Bu,H1.next,n1,n2,hne,?_,?_,?_,?_,?_,?_,?_⟩
    ·have hT:=S5 hv
     obtain⟨μ2,a1,a2⟩:=hH.Lv (k:=Bn) (pre:=(BJ (m0 s) 26 27 (.slice none 0 0)).take 11) (post:=(BJ (m0 s) 26 27 (.slice none 0 0)).drop 12) hT (fun _=>Fq) g28 (by decide)
     have a3:AP base W0 μ2 H1 W:=by rw[←hH1];exact a2
     obtain⟨T,hT⟩:=hT
     have b1:=a3.fE AT (by decide) (a1 _ T hT)
     have hle:μ2.le _:=Ad.DK ⟨T.c,0,0,Cg [⟨T.c,0,0,AT.length⟩]⟩ (a3.fresh _ (Nat.le_refl _)).2
     have b2:=b1.bJ (b:=29) (j:=0) (pre:=[]) (post:=[]) (e:=1) (ro:=false) (Ad.Ak _ _ _) (fun _=>Fq) (by rw[AA.AQ,if_neg (by omega),o1 29 (by decide) (by decide)];exact g29)
     rw[hH2]at b2
     have b3:=b2.NB (k:=[.tok]) (l:=[Value.slice (some ⟨H1.next,1,some 0⟩) 0 AE]) (ro:=false) (b:=29) (by rw[Gk,←hH2,AA.AN,if_pos rfl];rfl)
     refine⟨_,Ad.le_trans a1 hle,b3.Pu (n:=29) (len:=1) (cap:=1) (l:=[Value.slice (some ⟨H1.next,1,some 0⟩) 0 AE]) (ro2:=false) ?_ (by rw[AA.AN,if_pos rfl]) (by decide) (by decide) (Nat.le_refl 1) (by decide),(hv.mono a1).mono hle⟩
     rw[AA.AN,if_neg (by decide),o2 30 (by omega) (by decide),o1 30 (by decide) (by decide)];exact g30
    ·rw[AA.AN,if_neg (by decide),AA.AN,if_neg (by decide),o2 26 (by omega) (by decide),o1 26 (by decide) (by decide)];exact g26
    ·rw[AA.AN,if_neg (by decide),AA.AN,if_neg (by decide),o2 27 (by omega) (by decide),o1 27 (by decide) (by decide)];exact g27
    ·rw[AA.AN,if_neg (by decide),AA.AN,if_neg (by decide),o2 28 (by omega) (by decide),←hH1,AA.AN,if_pos rfl]
    ·rw[AA.AN,if_neg (by omega),AA.AN,if_neg (by omega),o2 _ hne (by omega),←hH1,AA.AN,if_neg (by omega),AA.CM,if_pos rfl]
    ·rw[AA.AN,if_neg (by decide),AA.AN,if_pos rfl];rfl
    ·rw[AA.AN,if_neg (by omega),AA.AN,if_neg (by omega),←hH2,AA.AN,if_neg (by omega),AA.AQ,if_pos rfl]
    ·rw[AA.AN,if_pos rfl];rfl
   ·rintro v H ⟨rfl,z1,z2,n1,n2,hne,g26,g27,g28,gz1,g29,gz2,g30⟩
    have hnd:[28,26,27,z1].Nodup:=by
     simp only[List.nodup_cons,List.mem_cons,List.not_mem_nil,or_false,not_or,List.nodup_nil,and_true,not_false_eq_true]
     omega
    have s1:=B0 (s:= .model (m0 s)) (bs:=[28,26,27,z1]) (H:=H) hnd
    generalize hH2:C1 (.model (m0 s)) [28,26,27,z1] H=H2 at s1
    have C2:∀y,y∉[28,26,27,z1]→H2.get y=H.get y:=fun y hy=>s1.C2 y hy
    have k30:H2.get 30=some (.cells (LZ (Dt s) 28 29 (0+1)) 0 false):=by rw[C2 30 (by simp;omega)];exact g30
    have k29:H2.get 29=some (.vec [.tok] (Ae z2 [[]]) false):=by rw[C2 29 (by simp;omega)];exact g29
    have kz2:H2.get z2=some (.abs (.mem AT [some []]) false):=by rw[C2 z2 (by simp;omega)];exact gz2
    have k28:H2.get 28=some (.abs (.pack (.model (m0 s))) false):=s1.root 28 rfl
    have hrs:∀b∈[30],b∈Ac 4 (De 30)∨(9≤b∧b < 9+([]:List AJ).length):=fun b hb=>by rw[List.mem_singleton]at hb;subst hb;exact .inl (by simp[Ac,De])
    have hR1:∀x∈[28,26,27,z1],x∈Ah H 0 200 [30] []:=by
     intro x hx
     rw[Az g30 rfl]
     show x∈Ah H 0 199 [28,29] [30]
     rw[Az g28 rfl]
     show x∈Ah H 0 198 [26,27,z1,29] [30,28]
     rw[Az g26 rfl]
     show x∈Ah H 0 197 [27,z1,29] [30,28,26]
     rw[Az g27 rfl]
     show x∈Ah H 0 196 [z1,29] [30,28,26,27]
     rw[Az gz1 (by simp[K7 (show z1≠30 by omega),K7 (show z1≠28 by omega),K7 (show z1≠26 by omega),K7 (show z1≠27 by omega)])]
     refine Bg H 0 _ _ _ x ?_
     simp only[List.mem_cons,List.not_mem_nil,or_false]at hx
     rcases hx with rfl | rfl | rfl | rfl<;>simp
    have hR2:∀x∈[29,z2],x∈Ah H2 0 200 [30] []:=by
     intro x hx
     rw[Az k30 rfl]
     show x∈Ah H2 0 199 [28,29] [30]
     rw[Az k28 rfl]
     show x∈Ah H2 0 198 [29] [30,28]
     rw[Az k29 rfl,Ns]
     show x∈Ah H2 0 197 [z2] [30,28,29]
     rw[Az kz2 (by simp[K7 (show z2≠30 by omega),K7 (show z2≠28 by omega),K7 (show z2≠29 by omega)])]
     refine Bg H2 0 _ _ _ x ?_
     simp only[List.mem_cons,List.not_mem_nil,or_false]at hx
     rcases hx with rfl | rfl<;>simp
    have s2:=B0 (s:= .Bd [[]]) (bs:=[29,z2]) (H:=H2) (by simp;omega)
    refine⟨C1 (.Bd [[]]) [29,z2] H2,?_,?_⟩
    ·refine .step (.model (m0 s)) _ [28,26,27,z1] [30] (.model (m0 s)) (by simp) rfl hnd hrs hR1 (fun i b o hi ho=>?_) (fun o T ho=>by cases ho;exact id) ?_
     ·match i,hi,ho with
      | 0,hi,ho=>cases hi;cases ho;exact⟨_,g28,rfl,rfl,rfl⟩
      | 1,hi,ho=>cases hi;cases ho;exact⟨_,g26,rfl,rfl,rfl⟩
      | 2,hi,ho=>cases hi;cases ho;exact⟨_,g27,rfl,rfl,rfl⟩
      | 3,hi,ho=>cases hi;cases ho;exact⟨_,gz1,rfl,rfl,rfl⟩
      | i+4,hi,ho=>cases hi
     ·rw[hH2]
      exact Ol (s:= .Bd [[]]) (b:=29) (n:=z2) (rs:=[30]) (o:= .vec [.tok] (Ae 1 [[]]) false) (o1:= .vec [.tok] (Ae z2 [[]]) false) (p1:= .abs (.mem AT [some []]) false) (.Bd [[]]) hrs (hR2 29 (by simp)) (hR2 z2 (by simp)) (by omega) k29 rfl rfl (IT rfl) kz2 rfl rfl rfl (.refl _) rfl (fun T hv=>by cases hv.1)
    ·refine⟨[30,28,29],by decide,(fun c hc=>by simp at hc;show 9≤c;omega),rfl,rfl,fun j c p hj hp=>?_,fun j o hj=>absurd hj (by show ¬(j < 0);omega)⟩
     match j,hj,hp with
     | 0,hj,hp=>cases hj;cases hp;exact⟨_,rfl,by rw[s2.C2 30 (by simp;omega)];exact k30⟩
     | 1,hj,hp=>cases hj;cases hp;exact⟨_,rfl,by rw[s2.C2 28 (by simp;omega)];exact k28⟩
     | 2,hj,hp=>cases hj;cases hp;exact⟨_,rfl,s2.root 29 rfl⟩
     | j+3,hj,hp=>cases hj
  ·cases hx
 ·cases hx
end Go.AD

set_option maxRecDepth 1000000
namespace Go.AD
open Go.Proofs
theorem YT (l:List (EK.C AT)) (del:Bool) (key val:ByteArray) (Q:Value→List (Option AJ)→Prop):FD XM Ws Bx [9] Q 200 (st Bx 16 [.agg ⟨[.bool del,.string key,.string val]⟩,p9] (BF ⟨.leaf,9⟩ [.abs (.pack (.table l)) false]))=(
 (bif del then(Aj.ok JN l [Value.string key])∧(Q (.tuple ⟨[]⟩) [some (.abs (AX.pack (Pk.table (Aj.nx JN l [Value.string key]))) false)])else(Aj.ok JC l [Value.string key,Value.string val])∧(Q (.tuple ⟨[]⟩) [some (.abs (AX.pack (Pk.table (Aj.nx JC l [Value.string key,Value.string val]))) false)]))):=by kernel_rfl
theorem Vd (m:AB) (Q:Value→List (Option AJ)→Prop):FD XM Ws By [9,10,11,12] Q 100 (st By 12 [p9] (BF ⟨.leaf,9⟩ (LW m)))=(
 (bif AB.state m==2 then(Q (.bool true) [some (.cells [(.int .i64 (List.getD (AB.cfg m) 0 0)),(.int .i64 (List.getD (AB.cfg m) 1 0)),(.int .i64 (List.getD (AB.cfg m) 2 0)),(.int .i64 (List.getD (AB.cfg m) 3 0)),(.int .i64 (List.getD (AB.cfg m) 4 0)),(.int .i64 (List.getD (AB.cfg m) 5 0)),(.int .i64 (List.getD (AB.cfg m) 6 0)),(.int .i64 (AB.Al m)),(.pointer (some ⟨10,0,none⟩)),(.pointer (some ⟨11,0,none⟩)),(.int .i64 (AB.cost m)),(.slice (some ⟨12,0,(some 0)⟩) (List.length (AB.AG m)) 18446744073709551616),(.pointer none),(.int .i64 (AB.state m)),(.bool (AB.AS m))] 0 false),some (.abs (AX.pack (Pk.table (AB.base m))) false),some (.abs (AX.pack (Pk.table (AB.now m))) false),some (.vec Bn (AB.AG m) false)])else(Q (.bool false) [some (.cells [(.int .i64 (List.getD (AB.cfg m) 0 0)),(.int .i64 (List.getD (AB.cfg m) 1 0)),(.int .i64 (List.getD (AB.cfg m) 2 0)),(.int .i64 (List.getD (AB.cfg m) 3 0)),(.int .i64 (List.getD (AB.cfg m) 4 0)),(.int .i64 (List.getD (AB.cfg m) 5 0)),(.int .i64 (List.getD (AB.cfg m) 6 0)),(.int .i64 (AB.Al m)),(.pointer (some ⟨10,0,none⟩)),(.pointer (some ⟨11,0,none⟩)),(.int .i64 (AB.cost m)),(.slice (some ⟨12,0,(some 0)⟩) (List.length (AB.AG m)) 18446744073709551616),(.pointer none),(.int .i64 (AB.state m)),(.bool (AB.AS m))] 0 false),some (.abs (AX.pack (Pk.table (AB.base m))) false),some (.abs (AX.pack (Pk.table (AB.now m))) false),some (.vec Bn (AB.AG m) false)]))):=by kernel_rfl
noncomputable def fo (l:List (EK.C AT)) (ks vs:List (EK.C kS)):AA:=BF ⟨.leaf,9⟩ [CS 12 l.length,.vec kS ks true,.vec kS vs true,.vec AT l false]
noncomputable def dz (ks vs:List (EK.C kS)):AA:=BF ⟨.leaf,9⟩ [.cells [.bool true,.slice none 0 0] 0 false,.vec kS ks true,.vec kS vs true]
noncomputable def dE (l:List (EK.C AT)) (ks vs:List (EK.C kS)) (i j:Int):A5:=
 ⟨⟨Av,HQ [(2,.func (.yield 14) ⟨[]⟩ ⟨[]⟩),(11,.slice (some ⟨12,0,some 0⟩) l.length AE),(12,.int .i64 l.length),(13,.int .i64 i)],25,[.code (BH Tryz.prog Av [1,0,0]),.inLoop (BH Tryz.prog Av [1,0,0]),.inBlock 0],[],false,.normal,none⟩,
  [⟨A6,HQ [],6,[Is (BH Tryz.prog A6 []) 2],[],false,.normal,none⟩,
   ⟨BG,HQ [(4,De 17),(5,De 16),(6,De 18),(7,De 15)],35,[.inRangeFunc 14,.inBlock 0,.code (BH Tryz.prog BG [1,1,1,1])],[⟨.collected 13,⟨[]⟩⟩],false,.normal,none⟩],
  BF ⟨.leaf,9⟩ [CS 12 l.length,.vec kS ks true,.vec kS vs true,.vec AT l false,.deferred (some []),
   .loop ⟨.ready,none,BG,HQ [(4,De 17),(5,De 16),(6,De 18),(7,De 15)],35,#[17,18],BH Tryz.prog BG [1,1,1,0,1,0,0],BH Tryz.prog BG [1,1,1,0,1,0,1],13⟩,
   .cells [.int .i64 j] 0 false,.cells [DW 11 vs.length] 0 false,.cells [DW 10 ks.length] 0 false,.cells [.bool false] 0 false]⟩
def eD:Stop:=⟨Av,2,2,12,[9,10,11],[2,11,12,13]⟩
def eb:List (FuncId × List Nat):=[(A6,[]),(BG,[4,5,6,7])]
theorem cV (l:List (EK.C AT)) (ks vs:List (EK.C kS)) (Q:Value→List (Option AJ)→Prop) (R:A5→Prop):ZZ X0 Cp BG [9,10,11,12] eD eb Q R 600 (st BG 35 [p9,DW 10 ks.length,DW 11 vs.length] (fo l ks vs))=(
 (((.int .i64 (Int.ofNat (List.length ks))):Value)=(.int .i64 (Int.ofNat (List.length ks))))∧(((.slice (some ⟨10,0,(some 0)⟩) (List.length ks) 18446744073709551616):Value)=(.slice (some ⟨10,0,(some 0)⟩) (List.length ks) 18446744073709551616))∧(bif Int.ofNat (List.length l) != Int.ofNat (List.length ks)then(Q (.bool false) [some (.cells [(.bool true),(.slice (some ⟨12,0,(some 0)⟩) (List.length l) 18446744073709551616)] 0 false),some (.vec kS ks true),some (.vec kS vs true),some (.vec AT l false)])else(bif decide (0≤Int.ofNat (List.length l))&&Nat.ble (Int.toNat (Int.ofNat (List.length l))) (List.length l)&&decide (0≤0)&&Nat.ble 0 (Int.toNat (Int.ofNat (List.length l)))then(R (dE l ks vs 0 0))else False))):=by kernel_rfl
theorem ab (l:List (EK.C AT)) (ks vs:List (EK.C kS)) (i j:Int) (Q:Value→List (Option AJ)→Prop) (R:A5→Prop):ZZ X0 Cp BG [9,10,11,12] eD eb Q R 600 (dE l ks vs i j)=(
 (bif decide (i < ((List.length l):Int))then(bif decide (0≤i)&&Nat.blt (Int.toNat i) (List.length l)then(bif Nat.blt (0+Int.toNat i) (List.length l)then(bif decide (0≤j)&&Nat.blt (Int.toNat j) (List.length ks)then(bif Nat.blt (0+Int.toNat j) (List.length ks)then(bif !ByteArray.toList (List.getD ks (0+Int.toNat j) (EK.AU kS))==ByteArray.toList (Prod.fst (List.getD l (0+Int.toNat i) (EK.AU AT)))then(Q (.bool false) [some (.cells [(.bool true),(.slice (some ⟨12,0,(some 0)⟩) (List.length l) 18446744073709551616)] 0 false),some (.vec kS ks true),some (.vec kS vs true),some (.vec AT l false)])else(bif decide (0≤j)&&Nat.blt (Int.toNat j) (List.length vs)then(bif Nat.blt (0+Int.toNat j) (List.length vs)then(bif !ByteArray.toList (List.getD vs (0+Int.toNat j) (EK.AU kS))==ByteArray.toList (Prod.snd (List.getD l (0+Int.toNat i) (EK.AU AT)))then(Q (.bool false) [some (.cells [(.bool true),(.slice (some ⟨12,0,(some 0)⟩) (List.length l) 18446744073709551616)] 0 false),some (.vec kS ks true),some (.vec kS vs true),some (.vec AT l false)])else(R (dE l ks vs (IntKind.wrap .i64 (i+1)) (IntKind.wrap .i64 (j+1)))))else False)else False))else False)else False)else False)else False)else(Q (.bool true) [some (.cells [(.bool true),(.slice (some ⟨12,0,(some 0)⟩) (List.length l) 18446744073709551616)] 0 false),some (.vec kS ks true),some (.vec kS vs true),some (.vec AT l false)]))):=by kernel_rfl
theorem bX (ks vs:List (EK.C kS)) (Q:Value→List (Option AJ)→Prop):FD X0 Cp BG [9,10,11] Q 600 (st BG 35 [p9,DW 10 ks.length,DW 11 vs.length] (dz ks vs))=(
 (((.int .i64 (Int.ofNat (List.length ks))):Value)=(.int .i64 (Int.ofNat (List.length ks))))∧(((.slice (some ⟨10,0,(some 0)⟩) (List.length ks) 18446744073709551616):Value)=(.slice (some ⟨10,0,(some 0)⟩) (List.length ks) 18446744073709551616))∧(bif 0 != Int.ofNat (List.length ks)then(Q (.bool false) [some (.cells [(.bool true),(.slice none 0 0)] 0 false),some (.vec kS ks true),some (.vec kS vs true)])else(Q (.bool true) [some (.cells [(.bool true),(.slice none 0 0)] 0 false),some (.vec kS ks true),some (.vec kS vs true)]))):=by kernel_rfl
end Go.AD

set_option maxRecDepth 1000000
namespace Go.AD
open Go.Proofs
noncomputable abbrev dq:List (FuncId × Ci):=[(AW,RW.F)]
noncomputable def ef:Ctx:=Cf Tryz.prog AM dq
noncomputable def Wq:Pf:=fun g=>bif Nat.beq g AW then some YM else bif Nat.beq g JR then some (fun _ _ _=>False)else Cp g
noncomputable def en (c0 c1 c2 c3 c4 c5 c6 lim:Int) (bs nw:List (ByteArray × ByteArray)) (cost:Int) (AG:List (Bool × ByteArray × ByteArray)) (st:Int) (pl:Bool):List AJ:=
 [.cells [.int .i64 c0,.int .i64 c1,.int .i64 c2,.int .i64 c3,.int .i64 c4,.int .i64 c5,.int .i64 c6,.int .i64 lim,.pointer (some ⟨10,0,none⟩),.pointer (some ⟨11,0,none⟩),.int .i64 cost,.slice (some ⟨12,0,some 0⟩) AG.length AE,.pointer none,.int .i64 st,.bool pl] 0 false,
  .abs (.pack (.table bs)) false,.abs (.pack (.table nw)) false,.vec Bn AG false]
theorem cj (c0 c1 c2 c3 c4 c5 c6 lim:Int) (bs nw:List (ByteArray × ByteArray)) (cost:Int) (AG:List (Bool × ByteArray × ByteArray)) (pl:Bool) (k a b:Int) (key val:ByteArray) (e:Int) (sv:ByteArray) (Q:Value→List (Option AJ)→Prop):FD ef Wq Ag [9,10,11,12] Q 2000 (st Ag 66 [p9,Ei k a b key val,LB e sv] (BF ⟨.leaf,9⟩ (en c0 c1 c2 c3 c4 c5 c6 lim bs nw cost AG 2 pl)))=(
 (Q (.int .i64 7) [some (.cells [(.int .i64 c0),(.int .i64 c1),(.int .i64 c2),(.int .i64 c3),(.int .i64 c4),(.int .i64 c5),(.int .i64 c6),(.int .i64 lim),(.pointer (some ⟨10,0,none⟩)),(.pointer (some ⟨11,0,none⟩)),(.int .i64 cost),(.slice (some ⟨12,0,(some 0)⟩) (List.length AG) 18446744073709551616),(.pointer none),(.int .i64 2),(.bool pl)] 0 false),some (.abs (AX.pack (Pk.table bs)) false),some (.abs (AX.pack (Pk.table nw)) false),some (.vec Bn AG false)])):=by kernel_rfl
theorem c7 (c0 c1 c2 c3 c4 c5 c6 lim:Int) (bs nw:List (ByteArray × ByteArray)) (cost:Int) (AG:List (Bool × ByteArray × ByteArray)) (pl:Bool) (k a b:Int) (key val:ByteArray) (e:Int) (sv:ByteArray) (Q:Value→List (Option AJ)→Prop):FD ef Wq Ag [9,10,11,12] Q 2000 (st Ag 66 [p9,Ei k a b key val,LB e sv] (BF ⟨.leaf,9⟩ (en c0 c1 c2 c3 c4 c5 c6 lim bs nw cost AG 1 pl)))=(
 (HW k a b key val)∧(bif LI k a b key val != 0 then(bif e==2&&(ByteArray.toList sv==ByteArray.toList { data:=#[] }&&true)then(Q (.int .i64 0) [some (.cells [(.int .i64 c0),(.int .i64 c1),(.int .i64 c2),(.int .i64 c3),(.int .i64 c4),(.int .i64 c5),(.int .i64 c6),(.int .i64 lim),(.pointer (some ⟨10,0,none⟩)),(.pointer (some ⟨11,0,none⟩)),(.int .i64 cost),(.slice (some ⟨12,0,(some 0)⟩) (List.length AG) 18446744073709551616),(.pointer none),(.int .i64 1),(.bool pl)] 0 false),some (.abs (AX.pack (Pk.table bs)) false),some (.abs (AX.pack (Pk.table nw)) false),some (.vec Bn AG false)])else(Q (.int .i64 7) [some (.cells [(.int .i64 c0),(.int .i64 c1),(.int .i64 c2),(.int .i64 c3),(.int .i64 c4),(.int .i64 c5),(.int .i64 c6),(.int .i64 lim),(.pointer (some ⟨10,0,none⟩)),(.pointer (some ⟨11,0,none⟩)),(.int .i64 cost),(.slice (some ⟨12,0,(some 0)⟩) (List.length AG) 18446744073709551616),(.pointer none),(.int .i64 1),(.bool pl)] 0 false),some (.abs (AX.pack (Pk.table bs)) false),some (.abs (AX.pack (Pk.table nw)) false),some (.vec Bn AG false)]))else(bif k==7 then(bif e==0&&(ByteArray.toList sv==ByteArray.toList { data:=#[] }&&true)then(bif a==0 then(bif decide (a > 0)then(Q (.int .i64 0) [some (.cells [(.int .i64 c0),(.int .i64 c1),(.int .i64 c2),(.int .i64 c3),(.int .i64 c4),(.int .i64 c5),(.int .i64 c6),(.int .i64 lim),(.pointer (some ⟨10,0,none⟩)),(.pointer (some ⟨11,0,none⟩)),(.int .i64 cost),(.slice (some ⟨12,0,(some 0)⟩) (List.length AG) 18446744073709551616),(.pointer none),(.int .i64 1),(.bool true)] 0 false),some (.abs (AX.pack (Pk.table bs)) false),some (.abs (AX.pack (Pk.table nw)) false),some (.vec Bn AG false)])else(Q (.int .i64 0) [some (.cells [(.int .i64 c0),(.int .i64 c1),(.int .i64 c2),(.int .i64 c3),(.int .i64 c4),(.int .i64 c5),(.int .i64 c6),(.int .i64 lim),(.pointer (some ⟨10,0,none⟩)),(.pointer (some ⟨11,0,none⟩)),(.int .i64 cost),(.slice (some ⟨12,0,(some 0)⟩) (List.length AG) 18446744073709551616),(.pointer none),(.int .i64 1),(.bool false)] 0 false),some (.abs (AX.pack (Pk.table bs)) false),some (.abs (AX.pack (Pk.table nw)) false),some (.vec Bn AG false)]))else(bif decide (a > 0)then(Q (.int .i64 0) [some (.cells [(.int .i64 c0),(.int .i64 c1),(.int .i64 c2),(.int .i64 c3),(.int .i64 c4),(.int .i64 c5),(.int .i64 c6),(.int .i64 lim),(.pointer (some ⟨10,0,none⟩)),(.pointer (some ⟨11,0,none⟩)),(.int .i64 cost),(.slice (some ⟨12,0,(some 0)⟩) (List.length AG) 18446744073709551616),(.pointer none),(.int .i64 1),(.bool true)] 0 false),some (.abs (AX.pack (Pk.table bs)) false),some (.abs (AX.pack (Pk.table nw)) false),some (.vec Bn AG false)])else(Q (.int .i64 0) [some (.cells [(.int .i64 c0),(.int .i64 c1),(.int .i64 c2),(.int .i64 c3),(.int .i64 c4),(.int .i64 c5),(.int .i64 c6),(.int .i64 lim),(.pointer (some ⟨10,0,none⟩)),(.pointer (some ⟨11,0,none⟩)),(.int .i64 cost),(.slice (some ⟨12,0,(some 0)⟩) (List.length AG) 18446744073709551616),(.pointer none),(.int .i64 1),(.bool false)] 0 false),some (.abs (AX.pack (Pk.table bs)) false),some (.abs (AX.pack (Pk.table nw)) false),some (.vec Bn AG false)])))else
 (Q (.int .i64 7) [some (.cells [(.int .i64 c0),(.int .i64 c1),(.int .i64 c2),(.int .i64 c3),(.int .i64 c4),(.int .i64 c5),(.int .i64 c6),(.int .i64 lim),(.pointer (some ⟨10,0,none⟩)),(.pointer (some ⟨11,0,none⟩)),(.int .i64 cost),(.slice (some ⟨12,0,(some 0)⟩) (List.length AG) 18446744073709551616),(.pointer none),(.int .i64 1),(.bool pl)] 0 false),some (.abs (AX.pack (Pk.table bs)) false),some (.abs (AX.pack (Pk.table nw)) false),some (.vec Bn AG false)]))else(bif k != 8 then(bif e==13&&(ByteArray.toList sv==ByteArray.toList { data:=#[] }&&true)then(Q (.int .i64 0) [some (.cells [(.int .i64 c0),(.int .i64 c1),(.int .i64 c2),(.int .i64 c3),(.int .i64 c4),(.int .i64 c5),(.int .i64 c6),(.int .i64 lim),(.pointer (some ⟨10,0,none⟩)),(.pointer (some ⟨11,0,none⟩)),(.int .i64 cost),(.slice (some ⟨12,0,(some 0)⟩) (List.length AG) 18446744073709551616),(.pointer none),(.int .i64 1),(.bool pl)] 0 false),some (.abs (AX.pack (Pk.table bs)) false),some (.abs (AX.pack (Pk.table nw)) false),some (.vec Bn AG false)])else(Q (.int .i64 7) [some (.cells [(.int .i64 c0),(.int .i64 c1),(.int .i64 c2),(.int .i64 c3),(.int .i64 c4),(.int .i64 c5),(.int .i64 c6),(.int .i64 lim),(.pointer (some ⟨10,0,none⟩)),(.pointer (some ⟨11,0,none⟩)),(.int .i64 cost),(.slice (some ⟨12,0,(some 0)⟩) (List.length AG) 18446744073709551616),(.pointer none),(.int .i64 1),(.bool pl)] 0 false),some (.abs (AX.pack (Pk.table bs)) false),some (.abs (AX.pack (Pk.table nw)) false),some (.vec Bn AG false)]))else(bif e==0&&(ByteArray.toList sv==ByteArray.toList { data:=#[] }&&true)then(Q (.int .i64 0) [some (.cells [(.int .i64 c0),(.int .i64 c1),(.int .i64 c2),(.int .i64 c3),(.int .i64 c4),(.int .i64 c5),(.int .i64 c6),(.int .i64 lim),(.pointer (some ⟨10,0,none⟩)),(.pointer (some ⟨11,0,none⟩)),(.int .i64 cost),(.slice (some ⟨12,0,(some 0)⟩) (List.length AG) 18446744073709551616),(.pointer none),(.int .i64 2),(.bool pl)] 0 false),some (.abs (AX.pack (Pk.table bs)) false),some (.abs (AX.pack (Pk.table nw)) false),some (.vec Bn AG false)])else(bif pl then(bif !(e==13&&(ByteArray.toList sv==ByteArray.toList { data:=#[] }&&true))then(Q (.int .i64 7) [some (.cells [(.int .i64 c0),(.int .i64 c1),(.int .i64 c2),(.int .i64 c3),(.int .i64 c4),(.int .i64 c5),(.int .i64 c6),(.int .i64 lim),(.pointer (some ⟨10,0,none⟩)),(.pointer (some ⟨11,0,none⟩)),(.int .i64 cost),(.slice (some ⟨12,0,(some 0)⟩) (List.length AG) 18446744073709551616),(.pointer none),(.int .i64 1),(.bool true)] 0 false),some (.abs (AX.pack (Pk.table bs)) false),some (.abs (AX.pack (Pk.table nw)) false),some (.vec Bn AG false)])else(Q (.int .i64 0) [some (.cells [(.int .i64 c0),(.int .i64 c1),(.int .i64 c2),(.int .i64 c3),(.int .i64 c4),(.int .i64 c5),(.int .i64 c6),(.int .i64 lim),(.pointer (some ⟨10,0,none⟩)),(.pointer (some ⟨11,0,none⟩)),(.int .i64 cost),(.slice (some ⟨12,0,(some 0)⟩) (List.length AG) 18446744073709551616),(.pointer none),(.int .i64 1),(.bool false)] 0 false),some (.abs (AX.pack (Pk.table bs)) false),some (.abs (AX.pack (Pk.table nw)) false),some (.vec Bn AG false)]))else
 (Q (.int .i64 7) [some (.cells [(.int .i64 c0),(.int .i64 c1),(.int .i64 c2),(.int .i64 c3),(.int .i64 c4),(.int .i64 c5),(.int .i64 c6),(.int .i64 lim),(.pointer (some ⟨10,0,none⟩)),(.pointer (some ⟨11,0,none⟩)),(.int .i64 cost),(.slice (some ⟨12,0,(some 0)⟩) (List.length AG) 18446744073709551616),(.pointer none),(.int .i64 1),(.bool false)] 0 false),some (.abs (AX.pack (Pk.table bs)) false),some (.abs (AX.pack (Pk.table nw)) false),some (.vec Bn AG false)]))))))):=by kernel_rfl
theorem av (c0 c1 c2 c3 c4 c5 c6 lim:Int) (bs nw:List (ByteArray × ByteArray)) (cost:Int) (AG:List (Bool × ByteArray × ByteArray)) (pl:Bool) (k a b:Int) (key val:ByteArray) (e:Int) (sv:ByteArray) (Q:Value→List (Option AJ)→Prop):FD ef Wq Ag [9,10,11,12] Q 2000 (st Ag 66 [p9,Ei k a b key val,LB e sv] (BF ⟨.leaf,9⟩ (en c0 c1 c2 c3 c4 c5 c6 lim bs nw cost AG 0 pl)))=(
 (HW k a b key val)∧(bif LI k a b key val != 0 then(bif e==2&&(ByteArray.toList sv==ByteArray.toList { data:=#[] }&&true)then(Q (.int .i64 0) [some (.cells [(.int .i64 c0),(.int .i64 c1),(.int .i64 c2),(.int .i64 c3),(.int .i64 c4),(.int .i64 c5),(.int .i64 c6),(.int .i64 lim),(.pointer (some ⟨10,0,none⟩)),(.pointer (some ⟨11,0,none⟩)),(.int .i64 cost),(.slice (some ⟨12,0,(some 0)⟩) (List.length AG) 18446744073709551616),(.pointer none),(.int .i64 0),(.bool pl)] 0 false),some (.abs (AX.pack (Pk.table bs)) false),some (.abs (AX.pack (Pk.table nw)) false),some (.vec Bn AG false)])else(Q (.int .i64 7) [some (.cells [(.int .i64 c0),(.int .i64 c1),(.int .i64 c2),(.int .i64 c3),(.int .i64 c4),(.int .i64 c5),(.int .i64 c6),(.int .i64 lim),(.pointer (some ⟨10,0,none⟩)),(.pointer (some ⟨11,0,none⟩)),(.int .i64 cost),(.slice (some ⟨12,0,(some 0)⟩) (List.length AG) 18446744073709551616),(.pointer none),(.int .i64 0),(.bool pl)] 0 false),some (.abs (AX.pack (Pk.table bs)) false),some (.abs (AX.pack (Pk.table nw)) false),some (.vec Bn AG false)]))else(bif k==7 then(bif e==0&&(ByteArray.toList sv==ByteArray.toList { data:=#[] }&&true)then(bif a==0 then(bif decide (a > 0)then(Q (.int .i64 0) [some (.cells [(.int .i64 c0),(.int .i64 c1),(.int .i64 c2),(.int .i64 c3),(.int .i64 c4),(.int .i64 c5),(.int .i64 c6),(.int .i64 lim),(.pointer (some ⟨10,0,none⟩)),(.pointer (some ⟨11,0,none⟩)),(.int .i64 cost),(.slice (some ⟨12,0,(some 0)⟩) (List.length AG) 18446744073709551616),(.pointer none),(.int .i64 1),(.bool true)] 0 false),some (.abs (AX.pack (Pk.table bs)) false),some (.abs (AX.pack (Pk.table nw)) false),some (.vec Bn AG false)])else(Q (.int .i64 0) [some (.cells [(.int .i64 c0),(.int .i64 c1),(.int .i64 c2),(.int .i64 c3),(.int .i64 c4),(.int .i64 c5),(.int .i64 c6),(.int .i64 lim),(.pointer (some ⟨10,0,none⟩)),(.pointer (some ⟨11,0,none⟩)),(.int .i64 cost),(.slice (some ⟨12,0,(some 0)⟩) (List.length AG) 18446744073709551616),(.pointer none),(.int .i64 1),(.bool false)] 0 false),some (.abs (AX.pack (Pk.table bs)) false),some (.abs (AX.pack (Pk.table nw)) false),some (.vec Bn AG false)]))else(bif decide (a > 0)then(Q (.int .i64 0) [some (.cells [(.int .i64 c0),(.int .i64 c1),(.int .i64 c2),(.int .i64 c3),(.int .i64 c4),(.int .i64 c5),(.int .i64 c6),(.int .i64 lim),(.pointer (some ⟨10,0,none⟩)),(.pointer (some ⟨11,0,none⟩)),(.int .i64 cost),(.slice (some ⟨12,0,(some 0)⟩) (List.length AG) 18446744073709551616),(.pointer none),(.int .i64 0),(.bool true)] 0 false),some (.abs (AX.pack (Pk.table bs)) false),some (.abs (AX.pack (Pk.table nw)) false),some (.vec Bn AG false)])else(Q (.int .i64 0) [some (.cells [(.int .i64 c0),(.int .i64 c1),(.int .i64 c2),(.int .i64 c3),(.int .i64 c4),(.int .i64 c5),(.int .i64 c6),(.int .i64 lim),(.pointer (some ⟨10,0,none⟩)),(.pointer (some ⟨11,0,none⟩)),(.int .i64 cost),(.slice (some ⟨12,0,(some 0)⟩) (List.length AG) 18446744073709551616),(.pointer none),(.int .i64 0),(.bool false)] 0 false),some (.abs (AX.pack (Pk.table bs)) false),some (.abs (AX.pack (Pk.table nw)) false),some (.vec Bn AG false)])))else
 (Q (.int .i64 7) [some (.cells [(.int .i64 c0),(.int .i64 c1),(.int .i64 c2),(.int .i64 c3),(.int .i64 c4),(.int .i64 c5),(.int .i64 c6),(.int .i64 lim),(.pointer (some ⟨10,0,none⟩)),(.pointer (some ⟨11,0,none⟩)),(.int .i64 cost),(.slice (some ⟨12,0,(some 0)⟩) (List.length AG) 18446744073709551616),(.pointer none),(.int .i64 0),(.bool pl)] 0 false),some (.abs (AX.pack (Pk.table bs)) false),some (.abs (AX.pack (Pk.table nw)) false),some (.vec Bn AG false)]))else False))):=by kernel_rfl
end Go.AD

set_option maxRecDepth 1000000
namespace Go.AD
open Go.Proofs
noncomputable def VP (l:List (EK.C AT)) (del:Bool) (key val:ByteArray):List (EK.C AT):=bif del then Ej l key else EW l key val
noncomputable def Sy (args:List Value) (objs:List AJ):GT:=
 match args,objs with
 | [.agg ⟨[.bool del,.string key,.string val]⟩,.pointer (some ⟨9,0,none⟩)],[.abs (.pack (.table l)) _]=> .ask (A8 l∧l.length < 1000000) (.ret ⟨.tuple ⟨[]⟩,[some (.abs (.pack (.table (VP l del key val))) false)],[]⟩)
 | _,_=> .fail
theorem XN:Dr Tryz.prog AM Bx (Ay AM 9 [true] Sy):=by
 refine BZ allM (by kernel_rfl) (n:=16) (by kernel_rfl) (by kernel_rfl) fun argsc objs x hx hro=>?_
 unfold Sy at hx
 split at hx
 ·rename_i del key val l ro
  simp only[GT.run]at hx
  split at hx
  ·rename_i hok
   obtain⟨hs,hn⟩:=hok
   cases hx
   have hr0:ro=false:=hro 0 _ rfl rfl
   subst hr0
   refine⟨by simp,?_⟩
   have hE:Ai XM 10 Bx (fun v H=>v= .tuple ⟨[]⟩∧H.get 9=some (.abs (.pack (.table (VP l del key val))) false)) (st Bx 16 [.agg ⟨[.bool del,.string key,.string val]⟩,p9] (BF ⟨.leaf,9⟩ [.abs (.pack (.table l)) false])):=by
    refine(Bc.GF (B4 Hq (ids:=[9]) (Q:=fun v os=>v= .tuple ⟨[]⟩∧os=[some (.abs (.pack (.table (VP l del key val))) false)]) 200 _ ?_)).mono ?_
    ·rw[YT]
     unfold VP
     refine As (fun h=>⟨⟨hs,hn,key,rfl⟩,rfl,?_⟩) (fun h=>⟨⟨hs,hn,key,val,rfl⟩,rfl,?_⟩)
     ·rw[h];rfl
     ·rw[h];rfl
    ·rintro v H ⟨rfl,h⟩
     have h:[H.get 9]=_:=h
     simp only[List.cons.injEq,and_true]at h
     exact⟨rfl,h⟩
   refine hE.I3.mono ?_
   rintro v H ⟨rfl,h⟩
   exact SY rfl h
  ·cases hx
 ·cases hx
noncomputable def GZ:Fg:=⟨fun _ rest=>rest=[],fun m _=> .bool (m.state==2),fun m _=>m⟩
theorem UN:Dr Tryz.prog AM By (Ay AM 9 [true] GZ.G):=by
 refine LV allM (by kernel_rfl) (n:=12) ?_
 rintro m rest rfl
 refine⟨by simp,rfl,?_⟩
 have hE:Ai XM 10 By (fun v H=>v= .bool (m.state==2)∧([9,10,11,12]++Ac 4 v).map H.get=[some (.cells (BJ m 10 11 (.slice (some ⟨12,0,some 0⟩) m.AG.length AE)) 0 false),some (Ch m.base),some (Ch m.now),some (.vec Bn m.AG false)]) (st By 12 [p9] (BF ⟨.leaf,9⟩ (LW m))):=by
  refine Bc.GF (B4 Hq (ids:=[9,10,11,12]) (Q:=fun v os=>v= .bool (m.state==2)∧os=[some (.cells (BJ m 10 11 (.slice (some ⟨12,0,some 0⟩) m.AG.length AE)) 0 false),some (Ch m.base),some (Ch m.now),some (.vec Bn m.AG false)]) 100 _ ?_)
  rw[Vd]
  refine As (fun h=>⟨by rw[h],by unfold AE;rfl⟩) (fun h=>⟨by rw[h],by unfold AE;rfl⟩)
 refine hE.mono ?_
 rintro v H ⟨rfl,h⟩
 have h:[H.get 9,H.get 10,H.get 11,H.get 12]=_:=h
 simp only[List.cons.injEq,and_true]at h
 exact⟨rfl,10,11,12,by decide,by decide,by decide,by decide,by decide,by decide,h.2.1,h.2.2.1,h.1,h.2.2.2⟩
noncomputable def Fp (l:List (EK.C AT)) (ks vs:List (EK.C kS)):Bool:=Cn ks (B2 l)&&Cn vs (B9 l)
abbrev fa (l:List (EK.C AT)) (b:Bool) (v:Value) (H:AA):Prop:=v= .bool b∧H.get 9=some (CS 12 l.length)∧H.get 12=some (.vec AT l false)
theorem Ts (x:EK.C AT) (l:List (EK.C AT)) (a b:ByteArray) (ks vs:List (EK.C kS)):Fp (x::l) (a::ks) (b::vs)=((ByteArray.toList a==ByteArray.toList x.1&&Cn ks (B2 l))&&(ByteArray.toList b==ByteArray.toList x.2&&Cn vs (B9 l))):=rfl
theorem Yt (l:List (EK.C AT)) (ks vs:List (EK.C kS)) (h1:l.length=ks.length) (h2:l.length=vs.length) (hs:l.length < 1000000):∀(q i:Nat),l.length - i=q→i≤l.length→
 Ai X0 12 BG (fa l (Fp (l.drop i) (ks.drop i) (vs.drop i))) (dE l ks vs i i):=by
 have fin:∀(b:Bool) (v:Value) (H:AA),(v= .bool b∧([9,10,11,12]++Ac 4 v).map H.get=[some (CS 12 l.length),some (.vec kS ks true),some (.vec kS vs true),some (.vec AT l false)])→fa l b v H:=by
  rintro b v H ⟨rfl,h⟩
  have h:[H.get 9,H.get 10,H.get 11,H.get 12]=_:=h
  simp only[List.cons.injEq,and_true]at h
  exact⟨rfl,h.1,h.2.2.2⟩
 intro q
 induction q with
 | zero=>
  intro i hm hi
  refine GW (Ax X0) (ids:=[9,10,11,12]) (S:=eD) (ks:=eb) (by kernel_rfl) (Q:=fun v os=>v= .bool true∧os=[some (CS 12 l.length),some (.vec kS ks true),some (.vec kS vs true),some (.vec AT l false)]) (R:=fun _=>False) (fun v H h=>?_) (fun c h=>h.elim) 600 _ ?_
  ·have e:Fp (l.drop i) (ks.drop i) (vs.drop i)=true:=by
    rw[List.drop_eq_nil_of_le (by omega),List.drop_eq_nil_of_le (by omega),List.drop_eq_nil_of_le (by omega)];rfl
   rw[e];exact fin _ v H h
  ·rw[ab]
   refine AY (fun h=>?_) (fun _=>⟨rfl,by unfold CS AE;rfl⟩)
   exfalso;have:(i:Int) < l.length:=h;omega
 | succ q ih=>
  intro i hm hi
  have hlt:i < l.length:=by omega
  have hlt1:i < ks.length:=by omega
  have hlt2:i < vs.length:=by omega
  refine GW (Ax X0) (ids:=[9,10,11,12]) (S:=eD) (ks:=eb) (by kernel_rfl) (Q:=fun v os=>Fp (l.drop i) (ks.drop i) (vs.drop i)=false∧v= .bool false∧os=[some (CS 12 l.length),some (.vec kS ks true),some (.vec kS vs true),some (.vec AT l false)])
   (R:=fun c=>Fp (l.drop i) (ks.drop i) (vs.drop i)=Fp (l.drop (i+1)) (ks.drop (i+1)) (vs.drop (i+1))∧c=dE l ks vs (i+1:Nat) (i+1:Nat)) (fun v H h=>by rw[h.1];exact fin _ v H h.2) (fun c h=>by rw[h.1,h.2];exact ih (i+1) (by omega) (by omega)) 600 _ ?_
  rw[ab]
  refine AY (fun h=>?_) (fun h=>absurd (show(i:Int) < (l.length:Int) by omega) h)
  refine AF (ca hlt) (AF (cb hlt) (AF (ca hlt1) (AF (cb hlt1) ?_)))
  rw[Cq hlt,Cq hlt1,Cq hlt2,CR (by omega),List.drop_eq_getElem_cons hlt,List.drop_eq_getElem_cons hlt1,List.drop_eq_getElem_cons hlt2,Ts]
  refine As (fun h=>?_) (fun h=>AF (ca hlt2) (AF (cb hlt2) (As (fun h3=>?_) (fun h3=>?_))))
  ·rw[Bool.not_eq_true']at h
   rw[h];exact⟨rfl,rfl,by unfold CS AE;rfl⟩
  ·rw[Bool.not_eq_true']at h3
   rw[h3];exact⟨by rw[Bool.false_and,Bool.and_false],rfl,by unfold CS AE;rfl⟩
  ·rw[Bool.not_eq_false']at h h3
   rw[h,h3];exact⟨rfl,rfl⟩
theorem Sb {l m:List (EK.C kS)} (h:Cn l m=true):l.length=m.length:=by
 have:=congrArg List.length (eq_of_beq h)
 simpa only[List.length_map] using this
noncomputable def eu (args:List Value) (objs:List AJ):GT:=
 match args,objs with
 | [.pointer (some ⟨9,0,none⟩),.slice (some ⟨10,0,some 0⟩) n c,.slice (some ⟨11,0,some 0⟩) n2 c2],[.abs (.pack (.table l)) _,.vec [.str] ks _,.vec [.str] vs _]=>
  .ask ((n=ks.length∧c=AE)∧(n2=vs.length∧c2=AE)∧ks.length=vs.length∧l.length < 1000000) (.ret ⟨.bool (Fp l ks vs),[some (.abs (.pack (.table l)) false)],[]⟩)
 | _,_=> .fail
theorem Zp {D:Nat→Prop} {v:Value} {H:AA} {l:List (EK.C AT)} (hD:D 9) (hT:MH H l):∃H2,B7 D v H H2∧H2.get 9=some (.abs (.pack (.table l)) false):=by
 rcases hT with⟨e,h9⟩ | ⟨m,hm,h9,hm2⟩
 ·refine⟨_,Ma (s:= .table l) (o:= .cells [.bool true,.slice none 0 0] 0 false) (by rw[e];exact .Cv) (.inr hD) h9 rfl rfl rfl (.refl _),?_⟩
  exact(B0 (by simp)).root 9 rfl
 ·refine⟨_,N0 (s:= .table l) (n:=m) (.table _) (.inr hD) hm h9 rfl rfl rfl rfl hm2 rfl rfl rfl (.refl _),?_⟩
  exact(B0 (by simp[Ne.symm hm])).root 9 rfl
noncomputable def aT (l:List (EK.C AT)) (ks vs:List (EK.C kS)):AA:=BF ⟨.leaf,9⟩ [.abs (.pack (.table l)) false,.vec kS ks true,.vec kS vs true]
theorem TC (l:List (EK.C AT)) (ks vs:List (EK.C kS)):∀x,12≤x→(aT l ks vs).get x=none:=by
 intro x hx
 unfold aT
 rw[EI]
 show(if x < 9 then _ else _)=_
 rw[if_neg (by omega),List.getElem?_eq_none (by simp;omega)]
 rfl
theorem Xr (l:List (EK.C AT)) (ks vs:List (EK.C kS)):((aT l ks vs).put 9 (CS 12 l.length)).alloc (.vec AT l false)=fo l ks vs:=by kernel_rfl
theorem Wu (ks vs:List (EK.C kS)):(aT [] ks vs).put 9 (.cells [.bool true,.slice none 0 0] 0 false)=dz ks vs:=by kernel_rfl
theorem cL:Dr Tryz.prog AM BG (Ay AM 9 [true] eu):=by
 refine BZ (Au.nil _ _) (by kernel_rfl) (n:=35) (by kernel_rfl) (by kernel_rfl) fun argsc objs x hx hro=>?_
 unfold eu at hx
 split at hx
 ·rename_i n c n2 c2 l ro ks r1 vs r2
  simp only[GT.run]at hx
  split at hx
  ·rename_i hok
   obtain⟨⟨rfl,rfl⟩,⟨rfl,rfl⟩,hkv,hs⟩:=hok
   cases hx
   have hr0:ro=false:=hro 0 _ rfl rfl
   subst hr0
   refine⟨by simp,?_⟩
   show At X0 12 (fun b=>9≤b∧b < 12) BG _ (st BG 35 [p9,DW 10 ks.length,DW 11 vs.length] (aT l ks vs))
   refine At.shut (Q:=fun v H=>v= .bool (Fp l ks vs)∧MH H l) ?_ ?_
   ·refine At.opened (b:=9) (s:= .table l) (ro:=false) ⟨by omega,by omega⟩ (by show(aT l ks vs).get 9=_;kernel_rfl) (fun ops p k h=>by cases h) fun objs hr=>?_
    cases hr with
    | Cv=>
     refine⟨_,J3 (H:=aT [] ks vs) (b:=9) (ro:=false) (o1:= .cells [.bool true,.slice none 0 0] 0 false) (show 9 < 12 by decide) (TC [] ks vs) rfl,?_⟩
     rw[Wu]
     have e:∀b:Bool,(b=true ↔ ks.length=0)→Fp [] ks vs=b:=by
      intro b hb
      cases ks with
      | nil=>
       rw[hb.2 rfl]
       have:vs=[]:=List.eq_nil_of_length_eq_zero hkv.symm
       rw[this];rfl
      | cons a ks=>
       cases b
       ·rfl
       ·have:=hb.1 rfl;cases this
     refine At.mono (Ai.I3 (Bc.GF (B4 (Ax X0) (ids:=[9,10,11]) (Q:=fun v os=>v= .bool (Fp [] ks vs)∧os=[some (.cells [.bool true,.slice none 0 0] 0 false),some (.vec kS ks true),some (.vec kS vs true)]) 600 _ ?_))) ?_
     ·refine(bX ks vs _).mpr ?_
      refine⟨rfl,rfl,As (fun h=>⟨?_,rfl⟩) (fun h=>⟨?_,rfl⟩)⟩
      ·rw[e false]
       refine⟨fun h=>(by cases h),fun h2=>?_⟩
       rw[h2]at h;cases h
      ·rw[e true]
       refine⟨fun _=>?_,fun _=>rfl⟩
       have:(0:Int)=Int.ofNat ks.length:=by simpa using h
       have:(0:Int)=(ks.length:Int):=this
       omega
     ·rintro v H ⟨rfl,h⟩
      have h:[H.get 9,H.get 10,H.get 11]=_:=h
      simp only[List.cons.injEq,and_true]at h
      exact⟨rfl,.inl ⟨rfl,h.1⟩⟩
    | table l=>
     refine⟨_,HT (H:=aT l ks vs) (b:=9) (ro:=false) (o1:=CS 12 l.length) (p1:= .vec AT l false) (show 9 < 12 by decide) (TC l ks vs) rfl rfl,?_⟩
     rw[Xr]
     refine At.mono (Q:=fa l (Fp l ks vs)) (Ai.I3 (GW (Ax X0) (ids:=[9,10,11,12]) (S:=eD) (ks:=eb) (by kernel_rfl) (Q:=fun v os=>Fp l ks vs=false∧v= .bool false∧os=[some (CS 12 l.length),some (.vec kS ks true),some (.vec kS vs true),some (.vec AT l false)]) (R:=fun c=>l.length=ks.length∧c=dE l ks vs 0 0) (fun v H h=>?_) (fun c h=>?_) 600 _ ?_)) ?_
     ·obtain⟨e,rfl,h⟩:=h
      have h:[H.get 9,H.get 10,H.get 11,H.get 12]=_:=h
      simp only[List.cons.injEq,and_true]at h
      exact⟨by rw[e],h.1,h.2.2.2⟩
     ·obtain⟨e,rfl⟩:=h
      have:=Yt l ks vs e (e.trans hkv) hs l.length 0 (by omega) (by omega)
      rw[List.drop_zero,List.drop_zero,List.drop_zero]at this
      exact this
     ·refine(cV l ks vs _ _).mpr ?_
      refine⟨rfl,rfl,As (fun h=>⟨?_,rfl,by unfold CS AE;rfl⟩) (fun h=>AF (by simp) ⟨?_,rfl⟩)⟩
      ·have hne:l.length≠ks.length:=by intro e;rw[e]at h;simp at h
       cases hq:Fp l ks vs
       ·rfl
       ·exfalso
        unfold Fp at hq
        simp only[Bool.and_eq_true]at hq
        have:=Sb hq.1
        unfold B2 at this
        rw[List.length_map]at this
        exact hne this.symm
      ·have:(Int.ofNat l.length)=Int.ofNat ks.length:=by simpa using h
       exact Int.ofNat.inj this
     ·rintro v H ⟨rfl,g9,g12⟩
      exact⟨rfl,.inr ⟨12,by decide,g9,g12⟩⟩
   ·rintro v H ⟨rfl,hT⟩
    obtain⟨H2,k1,k2⟩:=Zp (D:=fun b=>9≤b∧b < 9+3) (v:= .bool (Fp l ks vs)) ⟨Nat.le_refl 9,by decide⟩ hT
    refine⟨H2,k1,[],List.nodup_nil,(fun c hc=>by cases hc),rfl,rfl,(fun j c p hj hp=>by cases hj),fun j o hj hm ho=>?_⟩
    cases j with
    | zero=>cases ho;exact⟨_,rfl,k2⟩
    | succ j=>cases ho
  ·cases hx
 ·cases hx
end Go.AD

set_option maxRecDepth 1000000
namespace Go.AD
open Go.Proofs
theorem Yq:El ef Wq:=An (Td (by kernel_rfl)) (An (fun _ _ _ h=>h.elim) (Ax _))
theorem eN:Au Tryz.prog AM dq:=Au.cons TU (Au.nil _ _)
noncomputable def Il (m:AB) (k a b:Int) (key val:ByteArray) (e:Int) (sv:ByteArray):Option AB:=
 bif m.state==2 then none
 else bif LI k a b key val != 0 then(bif e==2&&(IF sv&&true)then some m else none)
 else bif k==7 then(bif e==0&&(IF sv&&true)then some { m with state:=bif a==0 then 1 else m.state,AS:=decide (a > 0) } else none)
 else bif k != 8 then(bif e==13&&(IF sv&&true)then some m else none)
 else bif e==0&&(IF sv&&true)then some { m with state:=2 }
 else bif m.AS then(bif !(e==13&&(IF sv&&true))then none else some { m with AS:=false })else none
noncomputable abbrev Vz (m:AB):List (Option AJ):=[some (.cells (BJ m 10 11 (.slice (some ⟨12,0,some 0⟩) m.AG.length 18446744073709551616)) 0 false),some (Ch m.base),some (Ch m.now),some (.vec Bn m.AG false)]
def fB (m:AB) (r:Option AB) (v:Value) (os:List (Option AJ)):Prop:=(r=none∧v= .int .i64 7∧os=Vz m)∨∃m',r=some m'∧v= .int .i64 0∧os=Vz m'
theorem fb {m:AB} {r:Option AB} {os:List (Option AJ)} (h:r=none) (hd:os=Vz m):fB m r (.int .i64 7) os:= .inl ⟨h,rfl,hd⟩
theorem aL {m:AB} {r:Option AB} {os:List (Option AJ)} (m':AB) (h:r=some m') (hd:os=Vz m'):fB m r (.int .i64 0) os:= .inr ⟨m',h,rfl,hd⟩
abbrev mY (c0 c1 c2 c3 c4 c5 c6 lim:Int) (bs nw:List (ByteArray × ByteArray)) (cost:Int) (AG:List (Bool × ByteArray × ByteArray)) (st:Int) (pl:Bool):AB:=⟨[c0,c1,c2,c3,c4,c5,c6],lim,bs,nw,cost,AG,st,pl⟩
section
variable (c0 c1 c2 c3 c4 c5 c6 lim:Int) (bs nw:List (ByteArray × ByteArray)) (cost:Int) (AG:List (Bool × ByteArray × ByteArray)) (pl:Bool) (k a b:Int) (key val:ByteArray) (e:Int) (sv:ByteArray)
abbrev cP (st':Int):Prop:=FD ef Wq Ag [9,10,11,12] (fB (mY c0 c1 c2 c3 c4 c5 c6 lim bs nw cost AG st' pl) (Il (mY c0 c1 c2 c3 c4 c5 c6 lim bs nw cost AG st' pl) k a b key val e sv)) 2000 (st Ag 66 [p9,Ei k a b key val,LB e sv] (BF ⟨.leaf,9⟩ (en c0 c1 c2 c3 c4 c5 c6 lim bs nw cost AG st' pl)))
theorem fS:cP c0 c1 c2 c3 c4 c5 c6 lim bs nw cost AG pl k a b key val e sv 2:=by
 unfold cP
 rw[cj]
 exact fb rfl rfl
theorem fG (hck:HW k a b key val):cP c0 c1 c2 c3 c4 c5 c6 lim bs nw cost AG pl k a b key val e sv 1:=by
 unfold cP
 rw[c7]
 refine⟨hck,?_⟩
 cases pl
 all_goals repeat' first
  | refine AF rfl ?_
  | refine Cm rfl ?_
  | exact fb (by unfold Il IF;simp only[*,cond_true,cond_false]<;>rfl) rfl
  | exact aL (mY c0 c1 c2 c3 c4 c5 c6 lim bs nw cost AG 1 true) (by unfold Il IF;simp only[*,cond_true,cond_false]<;>rfl) rfl
  | exact aL (mY c0 c1 c2 c3 c4 c5 c6 lim bs nw cost AG 1 false) (by unfold Il IF;simp only[*,cond_true,cond_false]<;>rfl) rfl
  | exact aL (mY c0 c1 c2 c3 c4 c5 c6 lim bs nw cost AG 2 true) (by unfold Il IF;simp only[*,cond_true,cond_false]<;>rfl) rfl
  | exact aL (mY c0 c1 c2 c3 c4 c5 c6 lim bs nw cost AG 2 false) (by unfold Il IF;simp only[*,cond_true,cond_false]<;>rfl) rfl
  | refine As (fun _=>?_) (fun _=>?_)
theorem fM (hck:HW k a b key val) (h7:k=7) (h0:LI k a b key val=0):cP c0 c1 c2 c3 c4 c5 c6 lim bs nw cost AG pl k a b key val e sv 0:=by
 unfold cP
 rw[av]
 subst h7
 have hc:(LI 7 a b key val != 0)=false:=by rw[h0];rfl
 refine⟨hck,Cm hc (AF rfl ?_)⟩
 clear h0
 repeat' first
  | exact fb (by unfold Il IF;simp only[*,cond_false]<;>rfl) rfl
  | exact aL (mY c0 c1 c2 c3 c4 c5 c6 lim bs nw cost AG 0 true) (by unfold Il IF;simp only[*,cond_true,cond_false]<;>rfl) rfl
  | exact aL (mY c0 c1 c2 c3 c4 c5 c6 lim bs nw cost AG 0 false) (by unfold Il IF;simp only[*,cond_true,cond_false]<;>rfl) rfl
  | exact aL (mY c0 c1 c2 c3 c4 c5 c6 lim bs nw cost AG 1 true) (by unfold Il IF;simp only[*,cond_true,cond_false]<;>rfl) rfl
  | exact aL (mY c0 c1 c2 c3 c4 c5 c6 lim bs nw cost AG 1 false) (by unfold Il IF;simp only[*,cond_true,cond_false]<;>rfl) rfl
  | refine AF rfl ?_
  | refine As (fun _=>?_) (fun _=>?_)
end
structure Lx (m:AB) (k a b:Int) (key val:ByteArray):Prop where
 cfg:m.cfg.length=7
 NG:HW k a b key val
 st:m.state=2∨m.state=1∨(m.state=0∧k=7∧LI k a b key val=0)
noncomputable def ek:Fg:=
 ⟨fun m rest=>match rest with
  | [.agg ⟨[.int .i64 k,.int .i64 a,.int .i64 b,.string key,.string val]⟩,.agg ⟨[.int .i64 _,.string _]⟩]=>Lx m k a b key val
  | _=>False,
  fun m rest=>match rest with
  | [.agg ⟨[.int .i64 k,.int .i64 a,.int .i64 b,.string key,.string val]⟩,.agg ⟨[.int .i64 e,.string sv]⟩]=> .int .i64 (bif (Il m k a b key val e sv).isSome then 0 else 7)
  | _=>Be,
  fun m rest=>match rest with
  | [.agg ⟨[.int .i64 k,.int .i64 a,.int .i64 b,.string key,.string val]⟩,.agg ⟨[.int .i64 e,.string sv]⟩]=>(Il m k a b key val e sv).getD m
  | _=>m⟩
theorem Zk:Dr Tryz.prog AM Ag (Ay AM 9 [true] ek.G):=by
 refine LV eN (by kernel_rfl) (n:=66) ?_
 intro m rest hok
 unfold ek at hok
 simp only at hok
 split at hok
 ·rename_i k a b key val e sv
  obtain⟨hc,hck,hst⟩:=hok
  refine⟨by simp,rfl,?_⟩
  obtain⟨cfg,lim,bs,nw,cost,AG,st0,pl⟩:=m
  simp only at hc hst
  obtain⟨c0,c1,c2,c3,c4,c5,c6,rfl⟩:=dQ hc
  have hV:cP c0 c1 c2 c3 c4 c5 c6 lim bs nw cost AG pl k a b key val e sv st0:=by
   rcases hst with rfl | rfl | ⟨rfl,h7,h0⟩
   ·exact fS c0 c1 c2 c3 c4 c5 c6 lim bs nw cost AG pl k a b key val e sv
   ·exact fG c0 c1 c2 c3 c4 c5 c6 lim bs nw cost AG pl k a b key val e sv hck
   ·exact fM c0 c1 c2 c3 c4 c5 c6 lim bs nw cost AG pl k a b key val e sv hck h7 h0
  have hE:=Bc.GF (N:=10) (B4 Yq (ids:=[9,10,11,12]) 2000 _ hV)
  refine hE.mono ?_
  have fin:∀(m':AB) (H:AA),[H.get 9,H.get 10,H.get 11,H.get 12]=Vz m'→FK H m':=by
   intro m' H h
   simp only[List.cons.injEq,and_true]at h
   exact⟨10,11,12,by decide,by decide,by decide,by decide,by decide,by decide,h.2.1,h.2.2.1,by rw[h.1,FO],h.2.2.2⟩
  rintro v H (⟨hr,rfl,h⟩ | ⟨m',hr,rfl,h⟩)
  ·refine⟨?_,?_⟩
   ·show _=Value.int .i64 (bif (Il _ k a b key val e sv).isSome then 0 else 7)
    rw[hr];rfl
   ·show FK H ((Il _ k a b key val e sv).getD _)
    rw[hr];exact fin _ H h
  ·refine⟨?_,?_⟩
   ·show _=Value.int .i64 (bif (Il _ k a b key val e sv).isSome then 0 else 7)
    rw[hr];rfl
   ·show FK H ((Il _ k a b key val e sv).getD _)
    rw[hr];exact fin _ H h
 ·exact hok.elim
end Go.AD

namespace Go.AD
noncomputable def dH (X:Ctx) (pf:Pf) (f:FuncId) (ids:List Nat) (S S2:Stop) (ks:List (FuncId × List Nat)) (Q:Value→List (Option AJ)→Prop) (R R2:A5→Prop) (n:Nat):A5→Prop:=
 Nat.rec (motive:=fun _=>A5→Prop) (fun _=>False) (fun _ ih c=>match DR X f c with
  | some (v,H)=>Q v ((ids++Ac 4 v).map H.get)
  | none=>bif S.here c then(match S.KD X ks c with
   | some c2=>R c2
   | none=>False)
   else bif S2.here c then(match S2.KD X ks c with
    | some c2=>R2 c2
    | none=>False)
   else Fk X pf c ih) n
theorem LQ {X:Ctx} {S:Stop} {ks:List (FuncId × List Nat)} (hl:(X.laid.all fun p=>Nat.blt p.1 S.N)=true) {c c2:A5} {Φ:A5→Prop} (hc:S.KD X ks c=some c2) (h:BB X S.N c2 Φ):BB X S.N c Φ:=by
 unfold Stop.KD at hc
 split at hc
 ·rename_i c1 h1
  cases hd:(Cu c1.fr.todo&&(c1.cs.all fun f=>Cu f.todo))
  ·simp only[hd,cond_false]at hc;cases hc
  ·simp only[hd,cond_true]at hc
   simp only[Bool.and_eq_true]at hd
   cases hb:(Nat.ble S.N (Gv ks (S.ids c1) c1).H.next&&(S.ids (Gv ks (S.ids c1) c1)).all (fun b=>Nat.blt b (Gv ks (S.ids c1) c1).H.next))
   ·simp only[hb,cond_false]at hc;cases hc
   ·simp only[hb,cond_true]at hc
    simp only[Bool.and_eq_true]at hb
    have hr:=Oc (X:=X) hl (Nat.le_of_ble_eq_true hb.1) hb.2 hc h
    exact BB.bind (Reach.GF ((NI.step h1).reach (Φ:=fun c'=>c'=c1) rfl)) fun c' e=>e ▸ PY hd.1 hd.2 hr
 ·cases hc
theorem Lo {X:Ctx} {pf:Pf} (hpf:El X pf) {f:FuncId} {ids:List Nat} {N:Nat} {S S2:Stop} {ks:List (FuncId × List Nat)} (hl:(X.laid.all fun p=>Nat.blt p.1 N)=true) (hN:S.N=N) (hN2:S2.N=N) {Q:Value→List (Option AJ)→Prop} {R R2:A5→Prop} {Q':Value→AA→Prop}
 (hQ:∀v H,Q v ((ids++Ac 4 v).map H.get)→Q' v H) (hR:∀c,R c→Ai X N f Q' c) (hR2:∀c,R2 c→Ai X N f Q' c):∀(n:Nat) (c:A5),dH X pf f ids S S2 ks Q R R2 n c→Ai X N f Q' c:=by
 intro n
 induction n with
 | zero=>intro c h;cases h
 | succ n ih=>
  intro c h
  have h:(match DR X f c with
   | some (v,H)=>Q v ((ids++Ac 4 v).map H.get)
   | none=>bif S.here c then(match S.KD X ks c with
    | some c2=>R c2
    | none=>False)
    else bif S2.here c then(match S2.KD X ks c with
     | some c2=>R2 c2
     | none=>False)
    else Fk X pf c (dH X pf f ids S S2 ks Q R R2 n)):=h
  split at h
  ·rename_i v H e;exact BB.here ⟨v,H,e,hQ v H h⟩
  ·cases hs:S.here c
   ·simp only[hs,cond_false]at h
    cases hs2:S2.here c
    ·simp only[hs2,cond_false]at h
     exact BB.bind (Reach.GF (Ga hpf h)) fun c' hc=>ih c' hc
    ·simp only[hs2,cond_true]at h
     split at h
     ·rename_i c2 hc
      have hr:=LQ (X:=X) (S:=S2) (Φ:=fun c'=>∃v H,DR X f c'=some (v,H)∧Q' v H) (by rw[hN2];exact hl) hc (by rw[hN2];exact hR2 c2 h)
      rw[hN2]at hr;exact hr
     ·cases h
   ·simp only[hs,cond_true]at h
    split at h
    ·rename_i c2 hc
     have hr:=LQ (X:=X) (S:=S) (Φ:=fun c'=>∃v H,DR X f c'=some (v,H)∧Q' v H) (by rw[hN];exact hl) hc (by rw[hN];exact hR c2 h)
     rw[hN]at hr;exact hr
    ·cases h
end Go.AD

set_option maxRecDepth 1000000
namespace Go.AD
open Go.Proofs
theorem Y7 (l:List (EK.C AT)) (Q:Value→List (Option AJ)→Prop):FD X0 Cp BU [9,10,11] Q 100 (st BU 4 [p9] (BF ⟨.leaf,9⟩ (J7 l)))=(
 (Q (.func (Fn.func 51) ⟨[]⟩ ⟨[(.pointer (some ⟨11,0,none⟩))]⟩) [some (.cells [(.bool true),(.slice (some ⟨10,0,(some 0)⟩) (List.length l) 18446744073709551616)] 0 false),some (.vec AT l false),some (.cells [(.pointer (some ⟨9,0,none⟩))] 0 false),some (.cells [(.pointer (some ⟨9,0,none⟩))] 0 false)])):=by kernel_rfl
theorem Xg (Q:Value→List (Option AJ)→Prop):FD X0 Cp BU [9,10] Q 100 (st BU 4 [p9] (BF ⟨.leaf,9⟩ Lp))=(
 (Q (.func (Fn.func 51) ⟨[]⟩ ⟨[(.pointer (some ⟨10,0,none⟩))]⟩) [some (.cells [(.bool true),(.slice none 0 0)] 0 false),some (.cells [(.pointer (some ⟨9,0,none⟩))] 0 false),some (.cells [(.pointer (some ⟨9,0,none⟩))] 0 false)])):=by kernel_rfl
end Go.AD

set_option maxRecDepth 1000000
namespace Go.AD
open Go.Proofs
noncomputable def W9 (b:Nat):Value:= .func (.func A6) ⟨[]⟩ ⟨[De b]⟩
noncomputable def TP (args:List Value) (objs:List AJ):GT:=
 match args,objs with
 | [.pointer (some ⟨9,0,none⟩)],[.abs (.pack (.table l)) _]=> .ret ⟨W9 11,[some (CS 10 l.length)],[.vec AT l false,.cells [De 9] 0 false]⟩
 | _,_=> .fail
theorem Xu:Dr Tryz.prog AM BU (Ay AM 9 [true] TP):=by
 refine BZ (Au.nil _ _) (by kernel_rfl) (n:=4) (by kernel_rfl) (by kernel_rfl) fun argsc objs x hx hro=>?_
 unfold TP at hx
 split at hx
 ·rename_i l ro
  simp only[GT.run]at hx
  cases hx
  have hr0:ro=false:=hro 0 _ rfl rfl
  subst hr0
  refine⟨by simp,?_⟩
  refine At.mono (Q:=fun v H=>∃z b,z≠b∧10≤z∧10≤b∧v=W9 b∧H.get 9=some (CS z l.length)∧H.get z=some (.vec AT l false)∧H.get b=some (.cells [De 9] 0 false)) ?_ ?_
  ·show At X0 10 (fun b=>9≤b∧b < 10) BU _ (st BU 4 [p9] (Hg l))
   refine At.opened (b:=9) (s:= .table l) (ro:=false) ⟨by omega,by omega⟩ (by rfl) (fun ops p k h=>by cases h) fun objs hr=>?_
   cases hr with
   | Cv=>
    have hE:Ai X0 10 BU (fun v H=>v=W9 10∧H.get 9=some (.cells [.bool true,.slice none 0 0] 0 false)∧H.get 10=some (.cells [De 9] 0 false)) (st BU 4 [p9] (BF ⟨.leaf,9⟩ Lp)):=by
     refine(Bc.GF (B4 (Ax X0) (ids:=[9,10]) (Q:=fun v os=>v=W9 10∧os=[some (.cells [.bool true,.slice none 0 0] 0 false),some (.cells [De 9] 0 false),some (.cells [De 9] 0 false)]) 100 _ (by rw[Xg];exact⟨rfl,rfl⟩))).mono ?_
     rintro v H ⟨rfl,h⟩
     have h:[H.get 9,H.get 10,H.get 10]=_:=h
     simp only[List.cons.injEq,and_true]at h
     exact⟨rfl,h.1,h.2.1⟩
    refine⟨_,J3 (H:=Hg []) (b:=9) (ro:=false) (o1:= .cells [.bool true,.slice none 0 0] 0 false) (show 9 < 10 by decide) (Gu []) rfl,?_⟩
    rw[M0]
    refine At.tell hE.I3 ?_
    rintro v H ⟨rfl,g9,Kj⟩
    have n1:=H.D7
    refine⟨_,(H.CO AT).put 9 (.cells ([.bool true]++ .slice (some ⟨H.Bu,0,some 0⟩) 0 AE::[]) 0 false),fun base W0 μ W v' hd hv hH=>?_,H.Bu,10,by omega,by omega,by decide,rfl,?_,?_,?_⟩
    ·obtain⟨μ2,a1,a2⟩:=hH.Lv (k:=AT) (b:=9) (pre:=[.bool true]) (post:=[]) (e:=0) (ro:=false) (hd 9 ⟨Nat.le_refl 9,Nat.lt_succ_self 9⟩) (fun _=>Fq) g9 (by decide)
     exact⟨μ2,a1,a2,hv.mono a1⟩
    ·rw[AA.AN,if_pos rfl];rfl
    ·rw[AA.AN,if_neg (by omega),AA.CM,if_pos rfl]
    ·rw[AA.AN,if_neg (by decide),AA.CM,if_neg (by omega)];exact Kj
   | table l=>
    refine⟨_,HT (H:=Hg l) (b:=9) (ro:=false) (o1:= .cells [.bool true,.slice (some ⟨10,0,some 0⟩) l.length AE] 0 false) (p1:= .vec AT l false) (show 9 < 10 by decide) (Gu l) rfl rfl,?_⟩
    rw[MI]
    refine At.mono (Ai.I3 (Bc.GF (B4 (Ax X0) (ids:=[9,10,11]) (Q:=fun v os=>v=W9 11∧os=[some (CS 10 l.length),some (.vec AT l false),some (.cells [De 9] 0 false),some (.cells [De 9] 0 false)]) 100 _ ((Y7 l _).mpr ⟨rfl,by unfold CS AE;rfl⟩)))) ?_
    rintro v H ⟨rfl,h⟩
    have h:[H.get 9,H.get 10,H.get 11,H.get 11]=_:=h
    simp only[List.cons.injEq,and_true]at h
    exact⟨10,11,by decide,by decide,by decide,rfl,h.1,h.2.1,h.2.2.1⟩
  ·rintro v H ⟨z,b,hzb,hz,hb,rfl,g9,gz,gb⟩
   refine⟨[z,b],by simp[hzb],fun c hc=>by simp at hc;show 10≤c;omega,rfl,rfl,fun j c p hj hp=>?_,fun j o hj hm ho=>?_⟩
   ·match j,hj,hp with
    | 0,hj,hp=>cases hj;cases hp;exact⟨_,rfl,gz⟩
    | 1,hj,hp=>cases hj;cases hp;exact⟨_,rfl,gb⟩
    | j+2,hj,hp=>cases hj
   ·cases j with
    | zero=>cases ho;exact⟨_,rfl,g9⟩
    | succ j=>exact absurd hj (by show ¬(j+1 < 1);omega)
 ·cases hx
noncomputable def Of (args:List Value) (objs:List AJ):GT:=
 match args,objs with
 | [.pointer (some ⟨9,0,none⟩)],[.abs (.pack (.table l)) _]=> .ask (l.length < 1000000) (.ret ⟨.pointer (some ⟨10,0,none⟩),[some (.abs (.pack (.table l)) false)],[.abs (.pack (.table l)) false]⟩)
 | [.pointer (some ⟨9,0,none⟩)],[.cells [.bool true,.slice (some ⟨10,0,some 0⟩) n c] 0 _,.vec [.str,.str] l _]=> .ask ((n=l.length∧c=AE)∧l.length < 1000000) (.ret ⟨.pointer (some ⟨11,0,none⟩),[some (CS 10 l.length),some (.vec AT l false)],[.abs (.pack (.table l)) false]⟩)
 | _,_=> .fail
theorem UI:Dr Tryz.prog AM AR (Ay AM 9 [true,true] Of):=by
 refine BZ (Au.nil _ _) (by kernel_rfl) (n:=34) (by kernel_rfl) (by kernel_rfl) fun argsc objs x hx hro=>?_
 unfold Of at hx
 split at hx
 ·rename_i l ro
  simp only[GT.run]at hx
  split at hx
  ·rename_i hn
   cases hx
   have hr0:ro=false:=hro 0 _ rfl rfl
   subst hr0
   refine⟨by simp,?_⟩
   refine At.mono (Nl hn) ?_
   rintro v H ⟨b,hb,rfl,h9,h⟩
   refine⟨[b],by simp,fun c hc=>by simp at hc;show 10≤c;omega,rfl,rfl,fun j c p hj hp=>?_,fun j o hj hm ho=>?_⟩
   ·cases j with
    | zero=>cases hj;cases hp;exact⟨_,rfl,h⟩
    | succ j=>cases j<;>cases hj
   ·cases j with
    | zero=>cases ho;exact⟨_,rfl,h9⟩
    | succ j=>exact absurd hj (by show ¬(j+1 < 1);omega)
  ·cases hx
 ·rename_i n c r0 l r1
  simp only[GT.run]at hx
  split at hx
  ·rename_i hok
   obtain⟨⟨rfl,rfl⟩,hn⟩:=hok
   cases hx
   have e0:r0=false:=hro 0 _ rfl rfl
   have e1:r1=false:=hro 1 _ rfl rfl
   subst e0 e1
   refine⟨by simp,?_⟩
   show At X0 11 (fun b=>9≤b∧b < 11) AR _ (st AR 34 [p9] (BF ⟨.leaf,9⟩ (J7 l)))
   refine At.shut (Q:=Nf l) (Qr hn).I3 ?_
   rintro v H ⟨rfl,h9,h10,h14⟩
   have fin:∀H2:AA,H2.get 9=H.get 9→H2.get 10=H.get 10→H2.get 14=some (.abs (.pack (.table l)) false)→Ck AM 9 2 [true,true] ⟨.pointer (some ⟨11,0,none⟩),[some (CS 10 l.length),some (.vec AT l false)],[.abs (.pack (.table l)) false]⟩ (De 14) H2:=by
    intro H2 k9 k10 k14
    refine⟨[14],by simp,fun c hc=>by simp at hc;show 11≤c;omega,rfl,rfl,fun j c p hj hp=>?_,fun j o hj hm ho=>?_⟩
    ·cases j with
     | zero=>cases hj;cases hp;exact⟨_,rfl,k14⟩
     | succ j=>cases j<;>cases hj
    ·match j,ho with
     | 0,ho=>cases ho;exact⟨_,rfl,by rw[k9];exact h9⟩
     | 1,ho=>cases ho;exact⟨_,rfl,by rw[k10];exact h10⟩
     | j+2,ho=>cases ho
   rcases h14 with⟨e,h14⟩ | ⟨h14,h15⟩
   ·have s2:=B0 (s:= .table l) (bs:=[14]) (H:=H) (by simp)
    exact⟨C1 (.table l) [14] H,Ma (s:= .table l) (o:= .cells [.bool true,.slice none 0 0] 0 false) (by rw[e];exact .Cv) (.inl (by simp[Ac,De])) h14 rfl rfl rfl (.refl _),fin _ (s2.C2 9 (by simp)) (s2.C2 10 (by simp)) (s2.root 14 rfl)⟩
   ·have s2:=B0 (s:= .table l) (bs:=[14,15]) (H:=H) (by simp)
    exact⟨C1 (.table l) [14,15] H,N0 (s:= .table l) (b:=14) (n:=15) (.table l) (.inl (by simp[Ac,De])) (by decide) h14 rfl rfl rfl rfl h15 rfl rfl rfl (.refl _),fin _ (s2.C2 9 (by simp)) (s2.C2 10 (by simp)) (s2.root 14 rfl)⟩
  ·cases hx
 ·cases hx
end Go.AD

set_option maxRecDepth 1000000
namespace Go.AD
open Go.Proofs
noncomputable def Tl (m:AB) (l1 l2:List (EK.C kS)):AA:=BF ⟨.leaf,9⟩ [.cells (BJ m 12 13 (.slice (some ⟨14,0,some 0⟩) m.AG.length AE)) 0 false,.vec kS l1 true,.vec kS l2 true,.abs (.pack (.table m.base)) false,.abs (.pack (.table m.now)) false,.vec Bn m.AG false]
end Go.AD

set_option maxRecDepth 1000000
namespace Go.AD
open Go.Proofs
theorem BB.Yg {X:Ctx} {N:Nat} {Φ:A5→Prop} {fn:FuncId} {t:Tr Value} {n:Nat} {todo:List CI} {ds:List Deferred} {r:Bool} {kd:CallKind} {rd:Option Nat} {cs:List Ab} {H:AA} (j:Nat) {a o b:Nat} {q:Option Nat} {s:Pk} {ro:Bool}
 (hd:Cu todo=true) (hj:look t j= .pointer (some ⟨a,o,q⟩)) (hreach:b∈Ah H 0 200 [a] []) (hb:H.get b=some (.abs (.pack s) ro))
 (h:∀objs,DU s objs→∃H',I6 H b ro objs H' (D9 s)∧BB X N ⟨⟨fn,t,n,todo,ds,r,kd,rd⟩,cs,H'⟩ Φ):BB X N ⟨⟨fn,t,n,todo,ds,r,kd,rd⟩,cs,H⟩ Φ:=by
 intro base W0 hb0 hok hplan cs0 μ fr cs' W hm
 obtain⟨hH,hlaid,g,gs,hfr,hcs,hnd⟩:=hm
 cases hfr with
 | plain fn t n tm todo todo' ds ds' r kd rd rd' ht hi hd hr=>
  have hj2:=ht.2 j
  rw[hj]at hj2
  have hr2:=FY hH (N:=0) 200 [a] [] (fun x hx=>by
   rw[List.mem_singleton]at hx;subst hx
   exact S5 hj2) ⟨List.nodup_nil,fun b hb=>by cases hb⟩
  obtain⟨T,hT⟩:=(hr2.2 b hreach).2
  obtain⟨objs,hr4,ho⟩:=hH.opened hb hT
  obtain⟨H',hO,hrun⟩:=h objs hr4
  obtain⟨μ',hH',hE⟩:=ho H' hO
  exact hrun base W0 hb0 hok hplan cs0 μ' _ cs' W ⟨hH',hlaid.mono hE.le,[],gs,.plain fn t n tm todo todo' ds ds' _ kd rd rd' (ht.mono hE.le) (hi.mono hE.le) (hd.mono hE.le) (hr.mono hE.le),hcs.mono (hE.keeps _),hnd⟩
 | drawn fn t n tm ops Bj idx D G k k' ds ds' kd rd rd' hD hk2 hd2 hr2=>cases hd
structure gB (m:AB):Prop where
 st:m.state=0
noncomputable def Pb (m:AB) (l1 l2:List (EK.C kS)):AA:=BF ⟨.leaf,9⟩ [.abs (.pack (.model m)) false,.vec kS l1 true,.vec kS l2 true]
theorem XP (m:AB) (l1 l2:List (EK.C kS)):∀x,12≤x→(Pb m l1 l2).get x=none:=by
 intro x hx
 unfold Pb
 rw[EI]
 show(if x < 9 then _ else _)=_
 rw[if_neg (by omega),List.getElem?_eq_none (by simp;omega)]
 rfl
theorem ZV (m:AB) (l1 l2:List (EK.C kS)):Dp ((Pb m l1 l2).put 9 (.cells (BJ m 12 13 (.slice (some ⟨14,0,some 0⟩) m.AG.length AE)) 0 false)) [.abs (.pack (.table m.base)) false,.abs (.pack (.table m.now)) false,.vec Bn m.AG false]=Tl m l1 l2:=by kernel_rfl
structure fh (s c1 c2 c3 c4 c5 c6:Int):Prop where
 lo:32 < s
 hi:s < 1000000
 e1:c1=100
 e2:c2=2
 e3:c3=200
 e4:c4=8
 e5:c5=16
 e6:c6=1
structure fv (m:AB) (k a b:Int) (key val:ByteArray) (e:Int) (sv:ByteArray):Prop where
 ok:HP m k a b key val e sv
 same:Dq m k a b key val e sv=m
end Go.AD

set_option maxRecDepth 1000000
namespace Go.AD
open Go.Proofs
noncomputable abbrev fq:List (FuncId × Ci):=[(BG,Ay AM 9 [true] eu),(Bx,Ay AM 9 [true] Sy),(AR,Ay AM 9 [true,true] Of),(BU,Ay AM 9 [true] TP)]
noncomputable def XO:Ctx:=Cf Tryz.prog AM fq
noncomputable def dp:Pf:=fun g=>bif Nat.beq g BG then some (Bh AM 9 [true] eu)else bif Nat.beq g Bx then some (Bh AM 9 [true] Sy)else bif Nat.beq g AR then some (Bh AM 9 [true,true] Of)else bif Nat.beq g BU then some (Bh AM 9 [true] TP)else Cp g
def mW (m:AB) (c:Int):AB:={ m with state:=2,cost:=c }
noncomputable def dJ (a b c d:Nat):Tr Value:=HQ [(3,De a),(4,De b),(5,De c),(6,De d)]
noncomputable def dK (m:AB) (s:Pk) (ks vs:List (EK.C kS)) (i:Int):A5:=
 ⟨⟨Aa,HQ [(0,.func (.yield 16) ⟨[]⟩ ⟨[]⟩),(1,De 12),(3,De 13),(14,.slice (some ⟨14,0,some 0⟩) m.AG.length AE),(15,.int .i64 m.AG.length),(16,.int .i64 i)],49,[.code (BH Tryz.prog Aa [1,0,1,0,0]),.inLoop (BH Tryz.prog Aa [1,0,1,0,0]),.inBlock 0,.code (BH Tryz.prog Aa [1,1])],[],false,.normal,none⟩,
  [⟨AI,dJ 17 19 18 20,68,[.inRangeFunc 16,.inBlock 1,.code (BH Tryz.prog AI [1,1,1])],[⟨.collected 15,⟨[]⟩⟩],false,.normal,none⟩],
  BF ⟨.leaf,9⟩ [Dc (mW m m.cost) 21 22 14,.vec kS ks true,.vec kS vs true,.cells [De 9] 0 false,.abs (.pack s) false,.vec Bn m.AG false,.deferred (some []),
   .loop ⟨.ready,none,AI,dJ 17 19 18 20,68,#[29],BH Tryz.prog AI [1,1,0,1,0,0],BH Tryz.prog AI [1,1,0,1,0,1],15⟩,
   .cells [De 9] 0 false,.cells [DW 11 vs.length] 0 false,.cells [DW 10 ks.length] 0 false,.cells [.int .i64 0] 0 false,Ch m.base,Ch m.now]⟩
noncomputable def fw:Nat→List CI
 | 8=>[Is (BH Tryz.prog Aa [1,0,1,0,0,1,1,0,0,1,0,0]) 2,.code (BH Tryz.prog Aa [1,0,1,0,0,1,1,0,0,1,0,1]),.code (BH Tryz.prog Aa [1,0,1,0,0,1,1,0,0,1,1]),.inBlock 1,.code (BH Tryz.prog Aa [1,0,1,0,0,1,1,1]),.inLoop (BH Tryz.prog Aa [1,0,1,0,0]),.inBlock 0,.code (BH Tryz.prog Aa [1,1])]
 | _=>[Is (BH Tryz.prog Aa [1,1,0]) 2,.code (BH Tryz.prog Aa [1,1,1])]
noncomputable def X8 (td:Nat) (m:AB) (l:List (EK.C AT)) (s:Pk) (ks vs:List (EK.C kS)) (c i j:Int):A5:=
 ⟨⟨Av,HQ [(2,.func (.yield 14) ⟨[]⟩ ⟨[]⟩),(11,.slice (some ⟨12,0,some 0⟩) l.length AE),(12,.int .i64 l.length),(13,.int .i64 i)],25,[.code (BH Tryz.prog Av [1,0,0]),.inLoop (BH Tryz.prog Av [1,0,0]),.inBlock 0],[],false,.normal,none⟩,
  [⟨A6,HQ [],6,[Is (BH Tryz.prog A6 []) 2],[],false,.normal,none⟩,
   ⟨AI,dJ 15 17 16 18,68,[.inRangeFunc 14,.inBlock 3,.code (BH Tryz.prog AI [1,1,0,1,0,1,0,1,1,1,1]),.inBlock 2],[],false,.normal,some 13⟩,
   ⟨Aa,HQ [(0,.func (.yield 13) ⟨[]⟩ ⟨[]⟩),(1,De 20),(3,De 19),(14,.slice (some ⟨21,0,some 0⟩) m.AG.length AE),(15,.int .i64 m.AG.length),(16,.int .i64 j)],49,fw td,[],false,.normal,none⟩,
   ⟨AI,dJ 15 17 16 18,68,[.inRangeFunc 13,.inBlock 1,.code (BH Tryz.prog AI [1,1,1])],[⟨.collected 22,⟨[]⟩⟩],false,.normal,none⟩],
  BF ⟨.leaf,9⟩ [Dc (mW m c) 23 24 21,.vec kS ks true,.vec kS vs true,.vec AT l false,
   .loop ⟨.busy,none,AI,dJ 15 17 16 18,68,#[29],BH Tryz.prog AI [1,1,0,1,0,0],BH Tryz.prog AI [1,1,0,1,0,1],22⟩,
   .loop ⟨.ready,none,AI,dJ 15 17 16 18,68,#[48,49],BH Tryz.prog AI [1,1,0,1,0,1,0,1,1,1,0,1,0,0],BH Tryz.prog AI [1,1,0,1,0,1,0,1,1,1,0,1,0,1],22⟩,
   .cells [De 9] 0 false,.cells [DW 11 vs.length] 0 false,.cells [DW 10 ks.length] 0 false,.cells [.int .i64 0] 0 false,.abs (.pack s) false,.cells [De 9] 0 false,.vec Bn m.AG false,.deferred (some []),Ch m.base,CS 12 l.length]⟩
def ZE:Stop:=⟨Aa,1,3,12,[9,10,11],[0,1,3,14,15,16]⟩
def Oq:Stop:=⟨Av,4,2,12,[9,10,11],[2,11,12,13]⟩
def Yy:List (FuncId × List Nat):=[(A6,[]),(Aa,[0,1,3,14,15,16]),(AI,[3,4,5,6])]
theorem az (m:AB) (ks vs:List (EK.C kS)) (Q:Value→List (Option AJ)→Prop) (R R2:A5→Prop):dH XO dp AI [9,12,13,14] ZE Oq Yy Q R R2 1000 (st AI 68 [p9,DW 10 ks.length,DW 11 vs.length] (Tl (mW m m.cost) ks vs))=(
 (bif Int.ofNat (List.length ks) != Int.ofNat (List.length vs)then(Q (.int .i64 7) [some (.cells [(.int .i64 (List.getD (AB.cfg (mW m (AB.cost m))) 0 0)),(.int .i64 (List.getD (AB.cfg (mW m (AB.cost m))) 1 0)),(.int .i64 (List.getD (AB.cfg (mW m (AB.cost m))) 2 0)),(.int .i64 (List.getD (AB.cfg (mW m (AB.cost m))) 3 0)),(.int .i64 (List.getD (AB.cfg (mW m (AB.cost m))) 4 0)),(.int .i64 (List.getD (AB.cfg (mW m (AB.cost m))) 5 0)),(.int .i64 (List.getD (AB.cfg (mW m (AB.cost m))) 6 0)),(.int .i64 (AB.Al (mW m (AB.cost m)))),(.pointer (some ⟨12,0,none⟩)),(.pointer (some ⟨13,0,none⟩)),(.int .i64 (AB.cost (mW m (AB.cost m)))),(.slice (some ⟨14,0,(some 0)⟩) (List.length (AB.AG (mW m (AB.cost m)))) 18446744073709551616),(.pointer none),(.int .i64 (AB.state (mW m (AB.cost m)))),(.bool (AB.AS (mW m (AB.cost m))))] 0 false),some (.abs (AX.pack (Pk.table (AB.base (mW m (AB.cost m))))) false),some (.abs (AX.pack (Pk.table (AB.now (mW m (AB.cost m))))) false),some (.vec Bn (AB.AG (mW m (AB.cost m))) false)])else(List.length (AB.base (mW m (AB.cost m))) < 1000000)∧(R (dK m (Pk.table (AB.base (mW m (AB.cost m)))) ks vs 0)))):=by kernel_rfl
theorem ad (m:AB) (t:List (EK.C AT)) (ks vs:List (EK.C kS)) (i:Int) (Q:Value→List (Option AJ)→Prop) (R R2:A5→Prop):dH XO dp AI [9,14,21,22] ZE Oq Yy Q R R2 1000 (dK m (.table t) ks vs i)=(
 (bif decide (i < ((List.length (AB.AG m)):Int))then(bif decide (0≤i)&&Nat.blt (Int.toNat i) (List.length (AB.AG m))then(bif Nat.blt (0+Int.toNat i) (List.length (AB.AG m))then((List.length ks=List.length ks∧AE=AE)∧(List.length vs=List.length vs∧AE=AE)∧List.length ks=List.length vs∧List.length t < 1000000)∧(bif Fp t ks vs then(List.length t < 1000000)∧(((.pointer (some ⟨9,0,none⟩)):Value)=(.pointer (some ⟨9,0,none⟩)))∧(bif decide (0≤Int.ofNat (List.length t))&&Nat.ble (Int.toNat (Int.ofNat (List.length t))) (List.length t)&&decide (0≤0)&&Nat.ble 0 (Int.toNat (Int.ofNat (List.length t)))then(R2 (X8 8 m t (Pk.table t) ks vs 0 0 i))else False)else(A8 t∧List.length t < 1000000)∧(R (dK m (Pk.table (VP t (Prod.fst (List.getD (AB.AG m) (0+Int.toNat i) (EK.AU Bn))) (Prod.fst (Prod.snd (List.getD (AB.AG m) (0+Int.toNat i) (EK.AU Bn)))) (Prod.snd (Prod.snd (List.getD (AB.AG m) (0+Int.toNat i) (EK.AU Bn)))))) ks vs (IntKind.wrap .i64 (i+1)))))else False)else False)else((List.length ks=List.length ks∧AE=AE)∧(List.length vs=List.length vs∧AE=AE)∧List.length ks=List.length vs∧List.length t < 1000000)∧(bif Fp t ks vs then(List.length t < 1000000)∧(((.pointer (some ⟨9,0,none⟩)):Value)=(.pointer (some ⟨9,0,none⟩)))∧(bif decide (0≤Int.ofNat (List.length t))&&Nat.ble (Int.toNat (Int.ofNat (List.length t))) (List.length t)&&decide (0≤0)&&Nat.ble 0 (Int.toNat (Int.ofNat (List.length t)))then(R2 (X8 2 m t (Pk.table t) ks vs 0 0 i))else False)else(Q (.int .i64 7) [some (.cells [(.int .i64 (List.getD (AB.cfg (mW m (AB.cost m))) 0 0)),(.int .i64 (List.getD (AB.cfg (mW m (AB.cost m))) 1 0)),(.int .i64 (List.getD (AB.cfg (mW m (AB.cost m))) 2 0)),(.int .i64 (List.getD (AB.cfg (mW m (AB.cost m))) 3 0)),(.int .i64 (List.getD (AB.cfg (mW m (AB.cost m))) 4 0)),(.int .i64 (List.getD (AB.cfg (mW m (AB.cost m))) 5 0)),(.int .i64 (List.getD (AB.cfg (mW m (AB.cost m))) 6 0)),(.int .i64 (AB.Al (mW m (AB.cost m)))),(.pointer (some ⟨21,0,none⟩)),(.pointer (some ⟨22,0,none⟩)),(.int .i64 (AB.cost (mW m (AB.cost m)))),(.slice (some ⟨14,0,(some 0)⟩) (List.length (AB.AG (mW m (AB.cost m)))) 18446744073709551616),(.pointer none),(.int .i64 (AB.state (mW m (AB.cost m)))),(.bool (AB.AS (mW m (AB.cost m))))] 0 false),some (.vec Bn (AB.AG m) false),some (.abs (AX.pack (Pk.table (AB.base m))) false),some (.abs (AX.pack (Pk.table (AB.now m))) false)])))):=by kernel_rfl
theorem VV (m:AB) (l t:List (EK.C AT)) (ks vs:List (EK.C kS)) (c i j:Int) (Q:Value→List (Option AJ)→Prop) (R R2:A5→Prop):dH XO dp AI [9,12,24,25] ZE Oq Yy Q R R2 1000 (X8 8 m l (.table t) ks vs c i j)=(
 (bif decide (i < ((List.length l):Int))then(bif decide (0≤i)&&Nat.blt (Int.toNat i) (List.length l)then(bif Nat.blt (0+Int.toNat i) (List.length l)then(((.int .i64 (AB.cost (mW m c))):Value)=(.int .i64 (AB.cost (mW m c))))∧(((.pointer (some ⟨9,10,none⟩)):Value)=(.pointer (some ⟨9,10,none⟩)))∧(((.pointer (some ⟨9,0,none⟩)):Value)=(.pointer (some ⟨9,0,none⟩)))∧(((.pointer (some ⟨9,0,none⟩)):Value)=(.pointer (some ⟨9,0,none⟩)))∧(R2 (X8 8 m l (Pk.table t) ks vs (IntKind.wrap .i64 (AB.cost (mW m c)+IntKind.wrap .i64 (IntKind.wrap .i64 (16+Int.ofNat (ByteArray.size (Prod.fst (List.getD l (0+Int.toNat i) (EK.AU AT)))))+Int.ofNat (ByteArray.size (Prod.snd (List.getD l (0+Int.toNat i) (EK.AU AT))))))) (IntKind.wrap .i64 (i+1)) j))else False)else False)else((List.length l=List.length l∧AE=AE)∧List.length l < 1000000)∧(((.pointer (some ⟨9,0,none⟩)):Value)=(.pointer (some ⟨9,0,none⟩)))∧(Q (.int .i64 0) [some (.cells [(.int .i64 (List.getD (AB.cfg (mW m c)) 0 0)),(.int .i64 (List.getD (AB.cfg (mW m c)) 1 0)),(.int .i64 (List.getD (AB.cfg (mW m c)) 2 0)),(.int .i64 (List.getD (AB.cfg (mW m c)) 3 0)),(.int .i64 (List.getD (AB.cfg (mW m c)) 4 0)),(.int .i64 (List.getD (AB.cfg (mW m c)) 5 0)),(.int .i64 (List.getD (AB.cfg (mW m c)) 6 0)),(.int .i64 (AB.Al (mW m c))),(.pointer (some ⟨25,0,none⟩)),(.pointer (some ⟨24,0,none⟩)),(.int .i64 (AB.cost (mW m c))),(.slice none 0 0),(.pointer none),(.int .i64 0),(.bool (AB.AS (mW m c)))] 0 false),some (.vec ([SK.str,SK.str]) l false),some (.cells [(.bool true),(.slice (some ⟨12,0,(some 0)⟩) (List.length l) 18446744073709551616)] 0 false),some (.abs (AX.pack (Pk.table l)) false)]))):=by kernel_rfl
theorem Vr (m:AB) (l t:List (EK.C AT)) (ks vs:List (EK.C kS)) (c i j:Int) (Q:Value→List (Option AJ)→Prop) (R R2:A5→Prop):dH XO dp AI [9,12,24,25] ZE Oq Yy Q R R2 1000 (X8 2 m l (.table t) ks vs c i j)=(
 (bif decide (i < ((List.length l):Int))then(bif decide (0≤i)&&Nat.blt (Int.toNat i) (List.length l)then(bif Nat.blt (0+Int.toNat i) (List.length l)then(((.int .i64 (AB.cost (mW m c))):Value)=(.int .i64 (AB.cost (mW m c))))∧(((.pointer (some ⟨9,10,none⟩)):Value)=(.pointer (some ⟨9,10,none⟩)))∧(((.pointer (some ⟨9,0,none⟩)):Value)=(.pointer (some ⟨9,0,none⟩)))∧(((.pointer (some ⟨9,0,none⟩)):Value)=(.pointer (some ⟨9,0,none⟩)))∧(R2 (X8 2 m l (Pk.table t) ks vs (IntKind.wrap .i64 (AB.cost (mW m c)+IntKind.wrap .i64 (IntKind.wrap .i64 (16+Int.ofNat (ByteArray.size (Prod.fst (List.getD l (0+Int.toNat i) (EK.AU AT)))))+Int.ofNat (ByteArray.size (Prod.snd (List.getD l (0+Int.toNat i) (EK.AU AT))))))) (IntKind.wrap .i64 (i+1)) j))else False)else False)else((List.length l=List.length l∧AE=AE)∧List.length l < 1000000)∧(((.pointer (some ⟨9,0,none⟩)):Value)=(.pointer (some ⟨9,0,none⟩)))∧(Q (.int .i64 0) [some (.cells [(.int .i64 (List.getD (AB.cfg (mW m c)) 0 0)),(.int .i64 (List.getD (AB.cfg (mW m c)) 1 0)),(.int .i64 (List.getD (AB.cfg (mW m c)) 2 0)),(.int .i64 (List.getD (AB.cfg (mW m c)) 3 0)),(.int .i64 (List.getD (AB.cfg (mW m c)) 4 0)),(.int .i64 (List.getD (AB.cfg (mW m c)) 5 0)),(.int .i64 (List.getD (AB.cfg (mW m c)) 6 0)),(.int .i64 (AB.Al (mW m c))),(.pointer (some ⟨25,0,none⟩)),(.pointer (some ⟨24,0,none⟩)),(.int .i64 (AB.cost (mW m c))),(.slice none 0 0),(.pointer none),(.int .i64 0),(.bool (AB.AS (mW m c)))] 0 false),some (.vec ([SK.str,SK.str]) l false),some (.cells [(.bool true),(.slice (some ⟨12,0,(some 0)⟩) (List.length l) 18446744073709551616)] 0 false),some (.abs (AX.pack (Pk.table l)) false)]))):=by kernel_rfl
noncomputable def dZ:Pf:=fun g=>bif Nat.beq g HN then some (fun _ _ _=>False)else Cp g
theorem bK (m:AB) (ks vs:List (EK.C kS)) (n1 c1 n2 c2 j:Nat) (Q:Value→List (Option AJ)→Prop):FD XO dZ AI [9,12,13,14] Q 600 (st AI 68 [p9,.slice (some ⟨10,0,some 0⟩) n1 c1,.slice (some ⟨11,0,some j⟩) n2 c2] (Tl (mW m m.cost) ks vs))=(
 (bif Int.ofNat n1 != Int.ofNat n2 then(Q (.int .i64 7) [some (.cells [(.int .i64 (List.getD (AB.cfg (mW m (AB.cost m))) 0 0)),(.int .i64 (List.getD (AB.cfg (mW m (AB.cost m))) 1 0)),(.int .i64 (List.getD (AB.cfg (mW m (AB.cost m))) 2 0)),(.int .i64 (List.getD (AB.cfg (mW m (AB.cost m))) 3 0)),(.int .i64 (List.getD (AB.cfg (mW m (AB.cost m))) 4 0)),(.int .i64 (List.getD (AB.cfg (mW m (AB.cost m))) 5 0)),(.int .i64 (List.getD (AB.cfg (mW m (AB.cost m))) 6 0)),(.int .i64 (AB.Al (mW m (AB.cost m)))),(.pointer (some ⟨12,0,none⟩)),(.pointer (some ⟨13,0,none⟩)),(.int .i64 (AB.cost (mW m (AB.cost m)))),(.slice (some ⟨14,0,(some 0)⟩) (List.length (AB.AG (mW m (AB.cost m)))) 18446744073709551616),(.pointer none),(.int .i64 (AB.state (mW m (AB.cost m)))),(.bool (AB.AS (mW m (AB.cost m))))] 0 false),some (.abs (AX.pack (Pk.table (AB.base (mW m (AB.cost m))))) false),some (.abs (AX.pack (Pk.table (AB.now (mW m (AB.cost m))))) false),some (.vec Bn (AB.AG (mW m (AB.cost m))) false)])else False)):=by kernel_rfl
end Go.AD

set_option maxRecDepth 1000000
namespace Go.AD
open Go.Proofs
noncomputable def CN:List (EK.C AT)→List (EK.C Bn)→List (List (EK.C AT))
 | b,[]=>[b]
 | b,u::us=>b::CN (VP b u.1 u.2.1 u.2.2) us
def P4 (L:List (List (EK.C AT))):Prop:=∀l∈L,A8 l∧Fu l
noncomputable def ET (L:List (List (EK.C AT))) (ks vs:List (EK.C kS)):Option (List (EK.C AT)):=L.find? fun l=>Fp l ks vs
noncomputable def mO (m:AB) (l:List (EK.C AT)):AB:=⟨m.cfg,m.Al,l,l,BA l,[],0,m.AS⟩
def ej (m:AB) (r:Option (List (EK.C AT))) (v:Value) (H:AA):Prop:=match r with
 | none=>v= .int .i64 7∧H.get 9=some (Dc (mW m m.cost) 21 22 14)∧H.get 14=some (.vec Bn m.AG false)∧H.get 21=some (Ch m.base)∧H.get 22=some (Ch m.now)
 | some l=>v= .int .i64 0∧H.get 9=some (.cells (BJ (mO m l) 25 24 (.slice none 0 0)) 0 false)∧H.get 12=some (.vec AT l false)∧H.get 24=some (CS 12 l.length)∧H.get 25=some (Ch l)
theorem Mo:El XO dp:=An (fun _ _ _ h=>Ap (by kernel_rfl) h) (An (fun _ _ _ h=>Ap (by kernel_rfl) h) (An (fun _ _ _ h=>Ap (by kernel_rfl) h) (An (fun _ _ _ h=>Ap (by kernel_rfl) h) (Ax _))))
theorem Zy:El XO dZ:=An (fun _ _ _ h=>h.elim) (Ax _)
theorem fC:Au Tryz.prog AM fq:=Au.cons cL (Au.cons XN (Au.cons UI (Au.cons Xu (Au.nil _ _))))
section
variable {m:AB} {ks vs:List (EK.C kS)} {l t:List (EK.C AT)}
theorem Nb (hs:Fu l) {i:Nat} (hlt:i < l.length):IntKind.wrap .i64 (BA (l.take i)+IntKind.wrap .i64 (IntKind.wrap .i64 (16+Int.ofNat (l[i]).1.size)+Int.ofNat (l[i]).2.size))=BA (l.take (i+1)):=by
 have hx:l.take (i+1)=l.take i++[l[i]]:=by rw[List.take_succ_eq_append_getElem hlt]
 have hc:BA (l.take (i+1))=BA (l.take i)+CY l[i]:=by rw[hx];unfold BA;rw[List.map_append,List.sum_append];simp
 have hb1:=I1 (l.take i) (fun y hy=>hs.2 y (List.mem_of_mem_take hy))
 have hb2:=hs.2 l[i] (List.getElem_mem hlt)
 have hlen:(l.take i).length≤1000000:=by rw[List.length_take];have:=hs.1;omega
 rw[hc]
 have hsz1:(Int.ofNat (l[i]).1.size)=((l[i]).1.size:Int):=rfl
 have hsz2:(Int.ofNat (l[i]).2.size)=((l[i]).2.size:Int):=rfl
 rw[hsz1,hsz2,FV (x:=16+((l[i]).1.size:Int)) (by omega) (by omega),FV (x:=16+((l[i]).1.size:Int)+((l[i]).2.size:Int)) (by omega) (by omega)]
 have hp:CY l[i]=16+((l[i]).1.size:Int)+((l[i]).2.size:Int):=rfl
 rw[FV (by omega) (by omega),hp]
theorem br {v:Value} {H:AA} (h:v= .int .i64 0∧([9,12,24,25]++Ac 4 v).map H.get=[some (.cells (BJ (mO m l) 25 24 (.slice none 0 0)) 0 false),some (.vec AT l false),some (CS 12 l.length),some (Ch l)]):ej m (some l) v H:=by
 obtain⟨rfl,h⟩:=h
 have h:[H.get 9,H.get 12,H.get 24,H.get 25]=_:=h
 simp only[List.cons.injEq,and_true]at h
 exact⟨rfl,h.1,h.2.1,h.2.2.1,h.2.2.2⟩
theorem al (hs:Fu l) (td:Nat) (htd:td=8∨td=2) (j:Int):∀(q i:Nat),l.length - i=q→i≤l.length→
 Ai XO 12 AI (ej m (some l)) (X8 td m l (.table t) ks vs (BA (l.take i)) i j):=by
 intro q
 induction q with
 | zero=>
  intro i hm hi
  have he:i=l.length:=by omega
  subst he
  refine Lo Mo (ids:=[9,12,24,25]) (S:=ZE) (S2:=Oq) (ks:=Yy) (by kernel_rfl) rfl rfl (Q:=fun v os=>v= .int .i64 0∧os=[some (.cells (BJ (mO m l) 25 24 (.slice none 0 0)) 0 false),some (.vec AT l false),some (CS 12 l.length),some (Ch l)]) (R:=fun _=>False) (R2:=fun _=>False) (fun v H h=>br h) (fun c h=>h.elim) (fun c h=>h.elim) 1000 _ ?_
  rw[List.take_length]
  have hno:¬((l.length:Nat):Int) < ((List.length l:Nat):Int):=Int.lt_irrefl _
  rcases htd with rfl | rfl
  ·rw[VV]
   exact AY (fun h=>absurd h hno) (fun _=>⟨⟨⟨rfl,rfl⟩,hs.1⟩,rfl,rfl,by unfold CS AE;rfl⟩)
  ·rw[Vr]
   exact AY (fun h=>absurd h hno) (fun _=>⟨⟨⟨rfl,rfl⟩,hs.1⟩,rfl,rfl,by unfold CS AE;rfl⟩)
 | succ q ih=>
  intro i hm hi
  have hlt:i < l.length:=by omega
  refine Lo Mo (ids:=[9,12,24,25]) (S:=ZE) (S2:=Oq) (ks:=Yy) (by kernel_rfl) rfl rfl (Q:=fun _ _=>False) (R:=fun _=>False) (R2:=fun c=>c=X8 td m l (.table t) ks vs (BA (l.take (i+1))) (i+1:Nat) j) (fun v H h=>h.elim) (fun c h=>h.elim) (fun c h=>by rw[h];exact ih (i+1) (by omega) (by omega)) 1000 _ ?_
  have hl2:((i:Nat):Int) < ((List.length l:Nat):Int):=by omega
  have hw:AB.cost (mW m (BA (l.take i)))=BA (l.take i):=rfl
  rcases htd with rfl | rfl
  ·rw[VV,Cq hlt,hw,Nb hs hlt,CR (by have:=hs.1;omega)]
   exact AY (fun _=>AF (ca hlt) (AF (cb hlt) ⟨rfl,rfl,rfl,rfl,rfl⟩)) (fun h=>absurd hl2 h)
  ·rw[Vr,Cq hlt,hw,Nb hs hlt,CR (by have:=hs.1;omega)]
   exact AY (fun _=>AF (ca hlt) (AF (cb hlt) ⟨rfl,rfl,rfl,rfl,rfl⟩)) (fun h=>absurd hl2 h)
theorem Zu (hkv:ks.length=vs.length) (hu:m.AG.length < 1000000):∀(us:List (EK.C Bn)) (i:Nat) (t:List (EK.C AT)),m.AG.drop i=us→i≤m.AG.length→P4 (CN t us)→
 Ai XO 12 AI (ej m (ET (CN t us) ks vs)) (dK m (.table t) ks vs i):=by
 intro us
 induction us with
 | nil=>
  intro i t hd hi hg
  have he:i=m.AG.length:=by
   have:=congrArg List.length hd
   rw[List.length_drop,List.length_nil]at this
   omega
  subst he
  obtain⟨h1,h2⟩:=hg t (by unfold CN;simp)
  refine Lo Mo (ids:=[9,14,21,22]) (S:=ZE) (S2:=Oq) (ks:=Yy) (by kernel_rfl) rfl rfl (Q:=fun v os=>Fp t ks vs=false∧v= .int .i64 7∧os=[some (Dc (mW m m.cost) 21 22 14),some (.vec Bn m.AG false),some (Ch m.base),some (Ch m.now)]) (R:=fun _=>False)
   (R2:=fun c=>Fp t ks vs=true∧∃j,c=X8 2 m t (.table t) ks vs 0 0 j) (fun v H h=>?_) (fun c h=>h.elim) (fun c h=>?_) 1000 _ ?_
  ·obtain⟨e,rfl,h⟩:=h
   have h:[H.get 9,H.get 14,H.get 21,H.get 22]=_:=h
   simp only[List.cons.injEq,and_true]at h
   have:ET (CN t []) ks vs=none:=by unfold ET CN;simp[e]
   rw[this]
   exact⟨rfl,h.1,h.2.1,h.2.2.1,h.2.2.2⟩
  ·obtain⟨e,j,rfl⟩:=h
   have:ET (CN t []) ks vs=some t:=by unfold ET CN;simp[e]
   rw[this]
   have:=al (m:=m) (t:=t) (ks:=ks) (vs:=vs) h2 2 (.inr rfl) j t.length 0 (by omega) (by omega)
   exact this
  ·rw[ad]
   refine AY (fun h=>absurd h (by show ¬((m.AG.length:Nat):Int) < ((List.length m.AG:Nat):Int);omega)) (fun _=>⟨⟨⟨rfl,rfl⟩,⟨rfl,rfl⟩,hkv,h2.1⟩,As (fun e=>⟨h2.1,rfl,AF (by simp) ⟨e,_,rfl⟩⟩) (fun e=>⟨e,rfl,by unfold Dc AE;rfl⟩)⟩)
 | cons u us ih=>
  intro i t hd hi hg
  have hlt:i < m.AG.length:=by
   have:=congrArg List.length hd
   rw[List.length_drop,List.length_cons]at this
   omega
  rw[List.drop_eq_getElem_cons hlt]at hd
  simp only[List.cons.injEq]at hd
  obtain⟨hd1,hd2⟩:=hd
  obtain⟨h1,h2⟩:=hg t (by unfold CN;simp)
  have hg2:P4 (CN (VP t u.1 u.2.1 u.2.2) us):=fun l hl=>hg l (by unfold CN;exact List.mem_cons_of_mem _ hl)
  refine Lo Mo (ids:=[9,14,21,22]) (S:=ZE) (S2:=Oq) (ks:=Yy) (by kernel_rfl) rfl rfl (Q:=fun _ _=>False) (R:=fun c=>Fp t ks vs=false∧c=dK m (.table (VP t u.1 u.2.1 u.2.2)) ks vs (i+1:Nat))
   (R2:=fun c=>Fp t ks vs=true∧∃j,c=X8 8 m t (.table t) ks vs 0 0 j) (fun v H h=>h.elim) (fun c h=>?_) (fun c h=>?_) 1000 _ ?_
  ·obtain⟨e,rfl⟩:=h
   have:ET (CN t (u::us)) ks vs=ET (CN (VP t u.1 u.2.1 u.2.2) us) ks vs:=by
    unfold ET;rw[CN,List.find?_cons,e]
   rw[this]
   exact ih (i+1) _ hd2 hlt hg2
  ·obtain⟨e,j,rfl⟩:=h
   have:ET (CN t (u::us)) ks vs=some t:=by
    unfold ET;rw[CN,List.find?_cons,e]
   rw[this]
   exact al (m:=m) (t:=t) (ks:=ks) (vs:=vs) h2 8 (.inl rfl) j t.length 0 (by omega) (by omega)
  ·rw[ad]
   refine AY (fun _=>?_) (fun h=>absurd (show(i:Int) < ((List.length m.AG:Nat):Int) by omega) h)
   refine AF (ca hlt) (AF (cb hlt) ⟨⟨⟨rfl,rfl⟩,⟨rfl,rfl⟩,hkv,h2.1⟩,As (fun e=>⟨h2.1,rfl,AF (by simp) ⟨e,_,rfl⟩⟩) (fun e=>⟨⟨h1,h2.1⟩,e,?_⟩)⟩)
   rw[Cq hlt,hd1,CR (by omega)]
end
end Go.AD

set_option maxRecDepth 1000000
namespace Go.AD
open Go.Proofs
structure aD (m:AB) (ks vs:List (EK.C kS)):Prop where
 st:m.state=2
 AG:m.AG.length < 1000000
 Sq:P4 (CN m.base m.AG)
 kv:ks.length=vs.length
noncomputable def cq (m:AB) (ks vs:List (EK.C kS)):AB:=match ET (CN m.base m.AG) ks vs with
 | some l=>mO m l
 | none=>m
noncomputable def dO (m:AB) (ks vs:List (EK.C kS)):Int:=match ET (CN m.base m.AG) ks vs with
 | some _=>0
 | none=>7
structure dy (m:AB) (n1 n2:Nat):Prop where
 st:m.state=2
 ne:n1≠n2
noncomputable def ev (args:List Value) (objs:List AJ):GT:=
 match args,objs with
 | [.pointer (some ⟨9,0,none⟩),.slice (some ⟨10,0,some 0⟩) n1 c1,.slice (some ⟨11,0,some 0⟩) n2 c2],[.abs (.pack (.model m)) _,.vec [.str] ks _,.vec [.str] vs _]=>
  .ask ((n1=ks.length∧c1=AE)∧(n2=vs.length∧c2=AE)∧aD m ks vs) (.ret ⟨.int .i64 (dO m ks vs),[some (.abs (.pack (.model (cq m ks vs))) false)],[]⟩)
 | [.pointer (some ⟨9,0,none⟩),.slice (some ⟨10,0,some 0⟩) n1 _,.slice (some ⟨11,0,some _⟩) n2 _],[.abs (.pack (.model m)) _,.vec [.str] _ _,.vec [.str] _ _]=>
  .ask (dy m n1 n2) (.ret ⟨.int .i64 7,[some (.abs (.pack (.model m)) false)],[]⟩)
 | _,_=> .fail
theorem Pe {m:AB} (h:m.state=2):mW m m.cost=m:=by
 obtain⟨cfg,lim,bs,nw,cost,AG,st0,pl⟩:=m
 cases h;rfl
theorem TD {m:AB} {l1 l2:List (EK.C kS)} {args:List Value} {Q:Value→AA→Prop} (h:At XO 12 (fun b=>9≤b∧b < 12) AI Q (st AI 68 args (Tl m l1 l2))):
 At XO 12 (fun b=>9≤b∧b < 12) AI Q (st AI 68 args (Pb m l1 l2)):=by
 refine At.opened (b:=9) (s:= .model m) (ro:=false) ⟨by omega,by omega⟩ (by show(Pb m l1 l2).get 9=_;kernel_rfl) (fun ops p k h=>by cases h) fun objs hr=>?_
 cases hr with
 | model=>
  refine⟨_,J6 (H:=Pb m l1 l2) (b:=9) (ro:=false) (o1:= .cells (BJ m 12 13 (.slice (some ⟨14,0,some 0⟩) m.AG.length AE)) 0 false) (ps1:=[.abs (.pack (.table m.base)) false,.abs (.pack (.table m.now)) false,.vec Bn m.AG false]) (show 9 < 12 by decide) (XP m l1 l2) rfl rfl (fun i p hp=>?_),?_⟩
  ·cases i with
   | zero=>cases hp;exact⟨_,rfl,rfl⟩
   | succ i=>cases i with
    | zero=>cases hp;exact⟨_,rfl,rfl⟩
    | succ i=>cases i with
     | zero=>cases hp;exact⟨_,rfl,rfl⟩
     | succ i=>cases i<;>cases hp
  ·rw[ZV];exact h
theorem bF {m:AB} {ks vs:List (EK.C kS)} (hok:aD m ks vs):At XO 12 (fun b=>9≤b∧b < 12) AI (fun v H=>v= .int .i64 (dO m ks vs)∧FK H (cq m ks vs)) (st AI 68 [p9,DW 10 ks.length,DW 11 vs.length] (Tl m ks vs)):=by
 obtain⟨hst,hu,hg,hkv⟩:=hok
 have hE:Ai XO 12 AI (ej m (ET (CN m.base m.AG) ks vs)) (st AI 68 [p9,DW 10 ks.length,DW 11 vs.length] (Tl (mW m m.cost) ks vs)):=by
  refine Lo Mo (ids:=[9,12,13,14]) (S:=ZE) (S2:=Oq) (ks:=Yy) (by kernel_rfl) rfl rfl (Q:=fun _ _=>False) (R:=fun c=>c=dK m (.table m.base) ks vs 0) (R2:=fun _=>False) (fun v H h=>h.elim) (fun c h=>?_) (fun c h=>h.elim) 1000 _ ?_
  ·rw[h];exact Zu hkv hu m.AG 0 m.base rfl (Nat.zero_le _) hg
  ·rw[az]
   have hb:m.base.length < 1000000:=by
    have:=(hg m.base (by cases m.AG<;>(unfold CN;simp))).2
    exact this.1
   refine Cm (by rw[hkv];simp) ⟨hb,rfl⟩
 rw[Pe hst]at hE
 refine At.tell (At.shut (Q':=fun v H=>match ET (CN m.base m.AG) ks vs with
  | none=>v= .int .i64 7∧FK H m
  | some l=>v= .int .i64 0∧H.get 9=some (.cells (BJ (mO m l) 25 24 (.slice none 0 0)) 0 false)∧H.get 24=some (Ch l)∧H.get 25=some (Ch l)) hE.I3 fun v H h=>?_) ?_
 ·generalize ET (CN m.base m.AG) ks vs=r at h
  cases r with
  | none=>
   obtain⟨rfl,g9,g14,g21,g22⟩:=h
   rw[Pe hst]at g9
   exact⟨H,.refl _,rfl,21,22,14,by decide,by decide,by decide,by decide,by decide,by decide,g21,g22,g9,g14⟩
  | some l=>
   obtain⟨rfl,g9,g12,g24,g25⟩:=h
   have s2:=B0 (s:= .table l) (bs:=[24,12]) (H:=H) (by simp)
   have hR:∀y,y=24∨y=12→y∈Ah H 0 200 [9] []:=by
    intro y hy
    rw[Az g9 rfl]
    show y∈Ah H 0 199 [25,24] [9]
    rw[Az g25 rfl]
    show y∈Ah H 0 198 [24] [9,25]
    rw[Az g24 rfl]
    show y∈Ah H 0 197 [12] [9,25,24]
    rw[Az g12 rfl]
    exact Bg H 0 _ _ _ y (by rcases hy with rfl | rfl<;>simp)
   refine⟨C1 (.table l) [24,12] H,Ol (s:= .table l) (b:=24) (n:=12) (rs:=[9]) (.table l) (fun b hb=>by rw[List.mem_singleton]at hb;subst hb;exact .inr ⟨by decide,by decide⟩) (hR 24 (.inl rfl)) (hR 12 (.inr rfl)) (by decide) g24 rfl rfl rfl g12 rfl rfl rfl (.refl _),rfl,?_,s2.root 24 rfl,?_⟩
   ·rw[s2.C2 9 (by simp)];exact g9
   ·rw[s2.C2 25 (by simp)];exact g25
 ·intro v H h
  unfold dO cq
  generalize ET (CN m.base m.AG) ks vs=r at h ⊢
  cases r with
  | none=>exact⟨v,H,fun base W0 μ W v' _ hv hH=>⟨μ,Ad.le_refl _,hH,hv⟩,h⟩
  | some l=>
   obtain⟨rfl,g9,g24,g25⟩:=h
   obtain⟨v2,H2,k1,rfl,k2⟩:=PB (D:=fun b=>9≤b∧b < 12) (v:= .int .i64 0) (m:=mO m l) rfl (by decide) (by decide) (by decide) (by decide) (by decide) g9 g25 g24 ⟨by decide,by decide⟩
   exact⟨_,H2,k1,rfl,k2⟩
theorem cD:Dr Tryz.prog AM AI (Ay AM 9 [true] ev):=by
 refine BZ fC (by kernel_rfl) (n:=68) (by kernel_rfl) (by kernel_rfl) fun argsc objs x hx hro=>?_
 have fin:∀(v:Value) (m:AB) (H:AA),Cd 6 v=true→FK H m→∃H2,B7 (fun b=>9≤b∧b < 9+3) v H H2∧Ck AM 9 3 [true] ⟨v,[some (.abs (.pack (.model m)) false)],[]⟩ v H2:=by
  intro v m H hv hM
  obtain⟨H2,k1,k2⟩:=TG (D:=fun b=>9≤b∧b < 9+3) (v:=v) ⟨Nat.le_refl 9,by decide⟩ hM
  refine⟨H2,k1,[],List.nodup_nil,(fun c hc=>by cases hc),rfl,Jr 6 v hv,(fun j c p hj hp=>by cases hj),fun j o hj hm ho=>?_⟩
  cases j with
  | zero=>cases ho;exact⟨_,rfl,k2⟩
  | succ j=>cases ho
 unfold ev at hx
 split at hx
 ·rename_i n1 c1 n2 c2 m ro ks r1 vs r2
  simp only[GT.run]at hx
  split at hx
  ·rename_i hok
   obtain⟨⟨rfl,rfl⟩,⟨rfl,rfl⟩,hok⟩:=hok
   cases hx
   have hr0:ro=false:=hro 0 _ rfl rfl
   subst hr0
   refine⟨by simp,?_⟩
   show At XO 12 (fun b=>9≤b∧b < 12) AI _ (st AI 68 [p9,DW 10 ks.length,DW 11 vs.length] (Pb m ks vs))
   refine At.shut (TD (bF hok)) ?_
   rintro v H ⟨rfl,hM⟩
   exact fin _ _ H rfl hM
  ·cases hx
 ·rename_i n1 c1 j n2 c2 m ro ks r1 vs r2 _
  simp only[GT.run]at hx
  split at hx
  ·rename_i hok
   obtain⟨hst,hne⟩:=hok
   cases hx
   have hr0:ro=false:=hro 0 _ rfl rfl
   subst hr0
   refine⟨by simp,?_⟩
   show At XO 12 (fun b=>9≤b∧b < 12) AI _ (st AI 68 [p9,.slice (some ⟨10,0,some 0⟩) n1 c1,.slice (some ⟨11,0,some j⟩) n2 c2] (Pb m ks vs))
   refine At.shut (Q:=fun v H=>v= .int .i64 7∧FK H m) (TD ?_) ?_
   ·rw[←Pe hst]
    refine At.mono (Ai.I3 (Bc.GF (B4 Zy (ids:=[9,12,13,14]) (Q:=fun v os=>v= .int .i64 7∧os=[some (Dc m 12 13 14),some (Ch m.base),some (Ch m.now),some (.vec Bn m.AG false)]) 600 _ ?_))) ?_
    ·rw[bK]
     refine AF ?_ ⟨rfl,by rw[Pe hst];unfold Dc AE;rfl⟩
     have:Int.ofNat n1≠Int.ofNat n2:=fun e=>hne (Int.ofNat.inj e)
     simpa using this
    ·rintro v H ⟨rfl,h⟩
     have h:[H.get 9,H.get 12,H.get 13,H.get 14]=_:=h
     simp only[List.cons.injEq,and_true]at h
     rw[Pe hst]
     exact⟨rfl,12,13,14,by decide,by decide,by decide,by decide,by decide,by decide,h.2.1,h.2.2.1,h.1,h.2.2.2⟩
   ·rintro v H ⟨rfl,hM⟩
    exact fin _ _ H rfl hM
  ·cases hx
 ·cases hx
end Go.AD

namespace Go.AD
def ID (b:Nat) (c:A5):Bool:=match c.fr.todo with
 | _:: .inBlock k::_=>Nat.beq k b
 | _=>false
noncomputable def dC (X:Ctx) (pf:Pf) (f:FuncId) (ids:List Nat) (S:Stop) (b:Nat) (S2:Stop) (b2:Nat) (ks:List (FuncId × List Nat)) (Q:Value→List (Option AJ)→Prop) (R R2:A5→Prop) (n:Nat):A5→Prop:=
 Nat.rec (motive:=fun _=>A5→Prop) (fun _=>False) (fun _ ih c=>match DR X f c with
  | some (v,H)=>Q v ((ids++Ac 4 v).map H.get)
  | none=>bif S.here c&&ID b c then(match S.KD X ks c with
   | some c2=>R c2
   | none=>False)
   else bif S2.here c&&ID b2 c then(match S2.KD X ks c with
    | some c2=>R2 c2
    | none=>False)
   else Fk X pf c ih) n
theorem KU {X:Ctx} {pf:Pf} (hpf:El X pf) {f:FuncId} {ids:List Nat} {N:Nat} {S S2:Stop} {b b2:Nat} {ks:List (FuncId × List Nat)} (hl:(X.laid.all fun p=>Nat.blt p.1 N)=true) (hN:S.N=N) (hN2:S2.N=N) {Q:Value→List (Option AJ)→Prop} {R R2:A5→Prop} {Q':Value→AA→Prop}
 (hQ:∀v H,Q v ((ids++Ac 4 v).map H.get)→Q' v H) (hR:∀c,R c→Ai X N f Q' c) (hR2:∀c,R2 c→Ai X N f Q' c):∀(n:Nat) (c:A5),dC X pf f ids S b S2 b2 ks Q R R2 n c→Ai X N f Q' c:=by
 intro n
 induction n with
 | zero=>intro c h;cases h
 | succ n ih=>
  intro c h
  have h:(match DR X f c with
   | some (v,H)=>Q v ((ids++Ac 4 v).map H.get)
   | none=>bif S.here c&&ID b c then(match S.KD X ks c with
    | some c2=>R c2
    | none=>False)
    else bif S2.here c&&ID b2 c then(match S2.KD X ks c with
     | some c2=>R2 c2
     | none=>False)
    else Fk X pf c (dC X pf f ids S b S2 b2 ks Q R R2 n)):=h
  split at h
  ·rename_i v H e;exact BB.here ⟨v,H,e,hQ v H h⟩
  ·cases hs:S.here c&&ID b c
   ·simp only[hs,cond_false]at h
    cases hs2:S2.here c&&ID b2 c
    ·simp only[hs2,cond_false]at h
     exact BB.bind (Reach.GF (Ga hpf h)) fun c' hc=>ih c' hc
    ·simp only[hs2,cond_true]at h
     split at h
     ·rename_i c2 hc
      have hr:=LQ (X:=X) (S:=S2) (Φ:=fun c'=>∃v H,DR X f c'=some (v,H)∧Q' v H) (by rw[hN2];exact hl) hc (by rw[hN2];exact hR2 c2 h)
      rw[hN2]at hr;exact hr
     ·cases h
   ·simp only[hs,cond_true]at h
    split at h
    ·rename_i c2 hc
     have hr:=LQ (X:=X) (S:=S) (Φ:=fun c'=>∃v H,DR X f c'=some (v,H)∧Q' v H) (by rw[hN];exact hl) hc (by rw[hN];exact hR c2 h)
     rw[hN]at hr;exact hr
    ·cases h
end Go.AD

set_option maxRecDepth 1000000
namespace Go.AD
open Go.Proofs
noncomputable def NH (m:AB) (k a b:Int) (key val:ByteArray) (e:Int) (sv:ByteArray):Int:=bif (Il m k a b key val e sv).isSome then 0 else 7
noncomputable def H5 (m:AB) (k a b:Int) (key val:ByteArray) (e:Int) (sv:ByteArray):AB:=(Il m k a b key val e sv).getD m
noncomputable def Zr (args:List Value) (objs:List AJ):GT:=
 match args,objs with
 | [.pointer (some ⟨9,0,none⟩),.agg ⟨[.int .i64 k,.int .i64 a,.int .i64 b,.string key,.string val]⟩,.agg ⟨[.int .i64 e,.string sv]⟩],[.abs (.pack (.model m)) _]=>
  .ask (Lx m k a b key val) (.ret ⟨.int .i64 (NH m k a b key val e sv),[some (.abs (.pack (.model (H5 m k a b key val e sv))) false)],[]⟩)
 | _,_=> .fail
theorem W3:Dr Tryz.prog AM Ag (Ay AM 9 [true] Zr):=by
 refine Dr.sub Zk (MF fun args objs x hx=>?_)
 unfold Zr at hx
 split at hx
 ·rename_i k a b key val e sv m ro
  simp only[GT.run]at hx
  split at hx
  ·rename_i hok
   cases hx
   show(GT.ask (ek.ok m [Ei k a b key val,LB e sv]) _).run=_
   simp only[GT.run]
   rw[if_pos (show ek.ok m [Ei k a b key val,LB e sv]from hok)];rfl
  ·cases hx
 ·cases hx
end Go.AD

set_option maxRecDepth 1000000
namespace Go.AD
open Go.Proofs
noncomputable def vi (n:Nat):Value:= .int .i64 (.ofNat n)
noncomputable def vy (n:Nat):Value:= .int .u8 (.ofNat n)
noncomputable def vT:Value:= .bool true
noncomputable def vF:Value:= .bool false
noncomputable def vN:Value:= .slice none 0 0
noncomputable def vs (b n c:Nat):Value:=sl b 0 n (18446744073709551616+c)
noncomputable def vb (l:List Nat):Value:= .string (dP l)
noncomputable def pq (f:FuncId) (l:List Nat):Code:=BH Tryz.prog f l
end Go.AD
