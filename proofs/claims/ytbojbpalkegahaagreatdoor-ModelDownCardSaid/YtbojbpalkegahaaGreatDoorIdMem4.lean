/-
  Part of the proof: the machine that runs a program by fixed orders, and that each of its runs is a run of the model; or a run of it in parts. No conditions.
-/
import Derived.Test.YtbojbpalkegahaaGreatDoorC42gc
import Derived.Test.YtbojbpalkegahaaGreatDoorC42b
set_option maxRecDepth 1000000
namespace Go.AD
open Go.Proofs
noncomputable abbrev eS:List (FuncId × Ci):=(Bw,Ay AM 9 Jn (J8 Oa))::ei
noncomputable def ez:Ctx:=Cf Tryz.prog AM eS
noncomputable def cK:Pf:=fun g=>bif Nat.beq g Bw then some (Bh AM 9 Jn (J8 Oa))else Ws g
theorem ba (m:AB) (k a b:Int) (key val:ByteArray) (Q:Value→List (Option AJ)→Prop):FD ez cK BO [10,11] Q 2000 (st BO 97 [p9,Ei k a b key val] (BF ⟨.leaf,9⟩ (dG m)))=(
 (Aj.ok A4 (AB.now m) [Value.string key])∧(bif Option.isSome (DH (AB.now m) key)then(((.bool (Option.isSome (DH (AB.now m) key))):Value)=(.bool true))∧(bif decide (Int.ofNat (ByteArray.size key) > List.getD (AB.cfg m) 4 0)then(bif k==3 then(bif k==1 then(Q (.tuple ⟨[(.agg ⟨[(.int .i64 12),(.string ({ data:=#[] }))]⟩),(.pointer none),(.bool false)]⟩) [some (.abs (AX.pack (Pk.table (AB.base m))) false),some (.abs (AX.pack (Pk.table (Aj.nx A4 (AB.now m) [Value.string key]))) false)])else(bif k==2 then(Q (.tuple ⟨[(.agg ⟨[(.int .i64 12),(.string ({ data:=#[] }))]⟩),(.pointer none),(.bool false)]⟩) [some (.abs (AX.pack (Pk.table (AB.base m))) false),some (.abs (AX.pack (Pk.table (Aj.nx A4 (AB.now m) [Value.string key]))) false)])else(bif k==3 then(Q (.tuple ⟨[(.agg ⟨[(.int .i64 12),(.string ({ data:=#[] }))]⟩),(.pointer none),(.bool false)]⟩) [some (.abs (AX.pack (Pk.table (AB.base m))) false),some (.abs (AX.pack (Pk.table (Aj.nx A4 (AB.now m) [Value.string key]))) false)])else(Q (.tuple ⟨[(.agg ⟨[(.int .i64 0),(.string ({ data:=#[] }))]⟩),(.pointer none),(.bool false)]⟩) [some (.abs (AX.pack (Pk.table (AB.base m))) false),some (.abs (AX.pack (Pk.table (Aj.nx A4 (AB.now m) [Value.string key]))) false)]))))else(bif k==1 then(Q (.tuple ⟨[(.agg ⟨[(.int .i64 12),(.string ({ data:=#[] }))]⟩),(.pointer none),(.bool false)]⟩) [some (.abs (AX.pack (Pk.table (AB.base m))) false),some (.abs (AX.pack (Pk.table (Aj.nx A4 (AB.now m) [Value.string key]))) false)])else(bif k==2 then(Q (.tuple ⟨[(.agg ⟨[(.int .i64 12),(.string ({ data:=#[] }))]⟩),(.pointer none),(.bool false)]⟩) [some (.abs (AX.pack (Pk.table (AB.base m))) false),some (.abs (AX.pack (Pk.table (Aj.nx A4 (AB.now m) [Value.string key]))) false)])else(bif k==3 then(Q (.tuple ⟨[(.agg ⟨[(.int .i64 12),(.string ({ data:=#[] }))]⟩),(.pointer none),(.bool false)]⟩) [some (.abs (AX.pack (Pk.table (AB.base m))) false),some (.abs (AX.pack (Pk.table (Aj.nx A4 (AB.now m) [Value.string key]))) false)])else(Q (.tuple ⟨[(.agg ⟨[(.int .i64 0),(.string ({ data:=#[] }))]⟩),(.pointer none),(.bool false)]⟩) [some (.abs (AX.pack (Pk.table (AB.base m))) false),some (.abs (AX.pack (Pk.table (Aj.nx A4 (AB.now m) [Value.string key]))) false)])))))else(bif k==3 then(bif k==1 then(bif decide (Int.ofNat (ByteArray.size val) > List.getD (AB.cfg m) 5 0)then(Q (.tuple ⟨[(.agg ⟨[(.int .i64 12),(.string ({ data:=#[] }))]⟩),(.pointer none),(.bool false)]⟩) [some (.abs (AX.pack (Pk.table (AB.base m))) false),some (.abs (AX.pack (Pk.table (Aj.nx A4 (AB.now m) [Value.string key]))) false)])else(List.length (AB.AG m)=List.length (AB.AG { cfg:=[List.getD (AB.cfg m) 0 0,List.getD (AB.cfg m) 1 0,List.getD (AB.cfg m) 2 0,List.getD (AB.cfg m) 3 0,List.getD (AB.cfg m) 4 0,List.getD (AB.cfg m) 5 0,List.getD (AB.cfg m) 6 0],Al:=AB.Al m,base:=AB.base m,now:=Aj.nx A4 (AB.now m) [Value.string key],cost:=AB.cost m,AG:=AB.AG m,state:=AB.state m,AS:=AB.AS m })∧AE=AE)∧
 (A8 (AB.now { cfg:=[List.getD (AB.cfg m) 0 0,List.getD (AB.cfg m) 1 0,List.getD (AB.cfg m) 2 0,List.getD (AB.cfg m) 3 0,List.getD (AB.cfg m) 4 0,List.getD (AB.cfg m) 5 0,List.getD (AB.cfg m) 6 0],Al:=AB.Al m,base:=AB.base m,now:=Aj.nx A4 (AB.now m) [Value.string key],cost:=AB.cost m,AG:=AB.AG m,state:=AB.state m,AS:=AB.AS m })∧List.length (AB.now { cfg:=[List.getD (AB.cfg m) 0 0,List.getD (AB.cfg m) 1 0,List.getD (AB.cfg m) 2 0,List.getD (AB.cfg m) 3 0,List.getD (AB.cfg m) 4 0,List.getD (AB.cfg m) 5 0,List.getD (AB.cfg m) 6 0],Al:=AB.Al m,base:=AB.base m,now:=Aj.nx A4 (AB.now m) [Value.string key],cost:=AB.cost m,AG:=AB.AG m,state:=AB.state m,AS:=AB.AS m }) < 1000000)∧(((.int .i64 (AB.Al m)):Value)=(.int .i64 (AB.Al m)))∧(((.pointer (some ⟨9,7,none⟩)):Value)=(.pointer (some ⟨9,7,none⟩)))∧(((.pointer (some ⟨9,0,none⟩)):Value)=(.pointer (some ⟨9,0,none⟩)))∧(((.pointer (some ⟨9,0,none⟩)):Value)=(.pointer (some ⟨9,0,none⟩)))∧(bif decide (D4 { cfg:=[List.getD (AB.cfg m) 0 0,List.getD (AB.cfg m) 1 0,List.getD (AB.cfg m) 2 0,List.getD (AB.cfg m) 3 0,List.getD (AB.cfg m) 4 0,List.getD (AB.cfg m) 5 0,List.getD (AB.cfg m) 6 0],Al:=AB.Al m,base:=AB.base m,now:=Aj.nx A4 (AB.now m) [Value.string key],cost:=AB.cost m,AG:=AB.AG m,state:=AB.state m,AS:=AB.AS m } true key val > AB.Al m)then(Q (.tuple ⟨[(.agg ⟨[(.int .i64 4),(.string ({ data:=#[] }))]⟩),(.pointer none),(.bool false)]⟩) [some (.abs (AX.pack (Pk.table (AB.base { cfg:=[List.getD (AB.cfg m) 0 0,List.getD (AB.cfg m) 1 0,List.getD (AB.cfg m) 2 0,List.getD (AB.cfg m) 3 0,List.getD (AB.cfg m) 4 0,List.getD (AB.cfg m) 5 0,List.getD (AB.cfg m) 6 0],Al:=AB.Al m,base:=AB.base m,now:=Aj.nx A4 (AB.now m) [Value.string key],cost:=AB.cost m,AG:=AB.AG m,state:=AB.state m,AS:=AB.AS m }))) false),some (.abs (AX.pack (Pk.table (AB.now { cfg:=[List.getD (AB.cfg m) 0 0,List.getD (AB.cfg m) 1 0,List.getD (AB.cfg m) 2 0,List.getD (AB.cfg m) 3 0,List.getD (AB.cfg m) 4 0,List.getD (AB.cfg m) 5 0,List.getD (AB.cfg m) 6 0],Al:=AB.Al m,base:=AB.base m,now:=Aj.nx A4 (AB.now m) [Value.string key],cost:=AB.cost m,AG:=AB.AG m,state:=AB.state m,AS:=AB.AS m }))) false)])else(Q (.tuple ⟨[(.agg ⟨[(.int .i64 0),(.string ({ data:=#[] }))]⟩),(.pointer (some ⟨15,0,none⟩)),(.bool true)]⟩) [some (.abs (AX.pack (Pk.table (AB.base { cfg:=[List.getD (AB.cfg m) 0 0,List.getD (AB.cfg m) 1 0,List.getD (AB.cfg m) 2 0,List.getD (AB.cfg m) 3 0,List.getD (AB.cfg m) 4 0,List.getD (AB.cfg m) 5 0,List.getD (AB.cfg m) 6 0],Al:=AB.Al m,base:=AB.base m,now:=Aj.nx A4 (AB.now m) [Value.string key],cost:=AB.cost m,AG:=AB.AG m,state:=AB.state m,AS:=AB.AS m }))) false),some (.abs (AX.pack (Pk.table (AB.now { cfg:=[List.getD (AB.cfg m) 0 0,List.getD (AB.cfg m) 1 0,List.getD (AB.cfg m) 2 0,List.getD (AB.cfg m) 3 0,List.getD (AB.cfg m) 4 0,List.getD (AB.cfg m) 5 0,List.getD (AB.cfg m) 6 0],Al:=AB.Al m,base:=AB.base m,now:=Aj.nx A4 (AB.now m) [Value.string key],cost:=AB.cost m,AG:=AB.AG m,state:=AB.state m,AS:=AB.AS m }))) false),some (.cells [(.bool true),(.string key),(.string val)] 0 false)])))else(bif k==2 then(bif k==3 then(Q (.tuple ⟨[(.agg ⟨[(.int .i64 0),(.string ({ data:=#[] }))]⟩),(.pointer (some ⟨15,0,none⟩)),(.bool true)]⟩) [some (.abs (AX.pack (Pk.table (AB.base m))) false),some (.abs (AX.pack (Pk.table (Aj.nx A4 (AB.now m) [Value.string key]))) false),some (.cells [(.bool true),(.string key),(.string val)] 0 false)])else
 (bif k==2 then(bif k==2 then(Q (.tuple ⟨[(.agg ⟨[(.int .i64 0),(.string (Option.getD (DH (AB.now m) key) { data:=#[] }))]⟩),(.pointer none),(.bool false)]⟩) [some (.abs (AX.pack (Pk.table (AB.base m))) false),some (.abs (AX.pack (Pk.table (Aj.nx A4 (AB.now m) [Value.string key]))) false)])else(Q (.tuple ⟨[(.agg ⟨[(.int .i64 0),(.string ({ data:=#[] }))]⟩),(.pointer none),(.bool false)]⟩) [some (.abs (AX.pack (Pk.table (AB.base m))) false),some (.abs (AX.pack (Pk.table (Aj.nx A4 (AB.now m) [Value.string key]))) false)]))else(bif k==2 then(Q (.tuple ⟨[(.agg ⟨[(.int .i64 0),(.string (Option.getD (DH (AB.now m) key) { data:=#[] }))]⟩),(.pointer none),(.bool false)]⟩) [some (.abs (AX.pack (Pk.table (AB.base m))) false),some (.abs (AX.pack (Pk.table (Aj.nx A4 (AB.now m) [Value.string key]))) false)])else(Q (.tuple ⟨[(.agg ⟨[(.int .i64 0),(.string ({ data:=#[] }))]⟩),(.pointer none),(.bool false)]⟩) [some (.abs (AX.pack (Pk.table (AB.base m))) false),some (.abs (AX.pack (Pk.table (Aj.nx A4 (AB.now m) [Value.string key]))) false)]))))else(bif k==3 then(bif k==3 then(Q (.tuple ⟨[(.agg ⟨[(.int .i64 0),(.string ({ data:=#[] }))]⟩),(.pointer (some ⟨15,0,none⟩)),(.bool true)]⟩) [some (.abs (AX.pack (Pk.table (AB.base m))) false),some (.abs (AX.pack (Pk.table (Aj.nx A4 (AB.now m) [Value.string key]))) false),some (.cells [(.bool true),(.string key),(.string val)] 0 false)])else(bif k==2 then(bif k==2 then(Q (.tuple ⟨[(.agg ⟨[(.int .i64 0),(.string (Option.getD (DH (AB.now m) key) { data:=#[] }))]⟩),(.pointer none),(.bool false)]⟩) [some (.abs (AX.pack (Pk.table (AB.base m))) false),some (.abs (AX.pack (Pk.table (Aj.nx A4 (AB.now m) [Value.string key]))) false)])else(Q (.tuple ⟨[(.agg ⟨[(.int .i64 0),(.string ({ data:=#[] }))]⟩),(.pointer none),(.bool false)]⟩) [some (.abs (AX.pack (Pk.table (AB.base m))) false),some (.abs (AX.pack (Pk.table (Aj.nx A4 (AB.now m) [Value.string key]))) false)]))else(bif k==2 then(Q (.tuple ⟨[(.agg ⟨[(.int .i64 0),(.string (Option.getD (DH (AB.now m) key) { data:=#[] }))]⟩),(.pointer none),(.bool false)]⟩) [some (.abs (AX.pack (Pk.table (AB.base m))) false),some (.abs (AX.pack (Pk.table (Aj.nx A4 (AB.now m) [Value.string key]))) false)])else(Q (.tuple ⟨[(.agg ⟨[(.int .i64 0),(.string ({ data:=#[] }))]⟩),(.pointer none),(.bool false)]⟩) [some (.abs (AX.pack (Pk.table (AB.base m))) false),some (.abs (AX.pack (Pk.table (Aj.nx A4 (AB.now m) [Value.string key]))) false)]))))else(Q (.tuple ⟨[(.agg ⟨[(.int .i64 0),(.string ({ data:=#[] }))]⟩),(.pointer none),(.bool false)]⟩) [some (.abs (AX.pack (Pk.table (AB.base m))) false),some (.abs (AX.pack (Pk.table (Aj.nx A4 (AB.now m) [Value.string key]))) false)]))))else(bif k==1 then(bif decide (Int.ofNat (ByteArray.size val) > List.getD (AB.cfg m) 5 0)then(Q (.tuple ⟨[(.agg ⟨[(.int .i64 12),(.string ({ data:=#[] }))]⟩),(.pointer none),(.bool false)]⟩) [some (.abs (AX.pack (Pk.table (AB.base m))) false),some (.abs (AX.pack (Pk.table (Aj.nx A4 (AB.now m) [Value.string key]))) false)])else(List.length (AB.AG m)=List.length (AB.AG { cfg:=[List.getD (AB.cfg m) 0 0,List.getD (AB.cfg m) 1 0,List.getD (AB.cfg m) 2 0,List.getD (AB.cfg m) 3 0,List.getD (AB.cfg m) 4 0,List.getD (AB.cfg m) 5 0,List.getD (AB.cfg m) 6 0],Al:=AB.Al m,base:=AB.base m,now:=Aj.nx A4 (AB.now m) [Value.string key],cost:=AB.cost m,AG:=AB.AG m,state:=AB.state m,AS:=AB.AS m })∧AE=AE)∧
 (A8 (AB.now { cfg:=[List.getD (AB.cfg m) 0 0,List.getD (AB.cfg m) 1 0,List.getD (AB.cfg m) 2 0,List.getD (AB.cfg m) 3 0,List.getD (AB.cfg m) 4 0,List.getD (AB.cfg m) 5 0,List.getD (AB.cfg m) 6 0],Al:=AB.Al m,base:=AB.base m,now:=Aj.nx A4 (AB.now m) [Value.string key],cost:=AB.cost m,AG:=AB.AG m,state:=AB.state m,AS:=AB.AS m })∧List.length (AB.now { cfg:=[List.getD (AB.cfg m) 0 0,List.getD (AB.cfg m) 1 0,List.getD (AB.cfg m) 2 0,List.getD (AB.cfg m) 3 0,List.getD (AB.cfg m) 4 0,List.getD (AB.cfg m) 5 0,List.getD (AB.cfg m) 6 0],Al:=AB.Al m,base:=AB.base m,now:=Aj.nx A4 (AB.now m) [Value.string key],cost:=AB.cost m,AG:=AB.AG m,state:=AB.state m,AS:=AB.AS m }) < 1000000)∧(((.int .i64 (AB.Al m)):Value)=(.int .i64 (AB.Al m)))∧(((.pointer (some ⟨9,7,none⟩)):Value)=(.pointer (some ⟨9,7,none⟩)))∧(((.pointer (some ⟨9,0,none⟩)):Value)=(.pointer (some ⟨9,0,none⟩)))∧(((.pointer (some ⟨9,0,none⟩)):Value)=(.pointer (some ⟨9,0,none⟩)))∧(bif decide (D4 { cfg:=[List.getD (AB.cfg m) 0 0,List.getD (AB.cfg m) 1 0,List.getD (AB.cfg m) 2 0,List.getD (AB.cfg m) 3 0,List.getD (AB.cfg m) 4 0,List.getD (AB.cfg m) 5 0,List.getD (AB.cfg m) 6 0],Al:=AB.Al m,base:=AB.base m,now:=Aj.nx A4 (AB.now m) [Value.string key],cost:=AB.cost m,AG:=AB.AG m,state:=AB.state m,AS:=AB.AS m } false key val > AB.Al m)then(Q (.tuple ⟨[(.agg ⟨[(.int .i64 4),(.string ({ data:=#[] }))]⟩),(.pointer none),(.bool false)]⟩) [some (.abs (AX.pack (Pk.table (AB.base { cfg:=[List.getD (AB.cfg m) 0 0,List.getD (AB.cfg m) 1 0,List.getD (AB.cfg m) 2 0,List.getD (AB.cfg m) 3 0,List.getD (AB.cfg m) 4 0,List.getD (AB.cfg m) 5 0,List.getD (AB.cfg m) 6 0],Al:=AB.Al m,base:=AB.base m,now:=Aj.nx A4 (AB.now m) [Value.string key],cost:=AB.cost m,AG:=AB.AG m,state:=AB.state m,AS:=AB.AS m }))) false),some (.abs (AX.pack (Pk.table (AB.now { cfg:=[List.getD (AB.cfg m) 0 0,List.getD (AB.cfg m) 1 0,List.getD (AB.cfg m) 2 0,List.getD (AB.cfg m) 3 0,List.getD (AB.cfg m) 4 0,List.getD (AB.cfg m) 5 0,List.getD (AB.cfg m) 6 0],Al:=AB.Al m,base:=AB.base m,now:=Aj.nx A4 (AB.now m) [Value.string key],cost:=AB.cost m,AG:=AB.AG m,state:=AB.state m,AS:=AB.AS m }))) false)])else(Q (.tuple ⟨[(.agg ⟨[(.int .i64 0),(.string ({ data:=#[] }))]⟩),(.pointer (some ⟨15,0,none⟩)),(.bool true)]⟩) [some (.abs (AX.pack (Pk.table (AB.base { cfg:=[List.getD (AB.cfg m) 0 0,List.getD (AB.cfg m) 1 0,List.getD (AB.cfg m) 2 0,List.getD (AB.cfg m) 3 0,List.getD (AB.cfg m) 4 0,List.getD (AB.cfg m) 5 0,List.getD (AB.cfg m) 6 0],Al:=AB.Al m,base:=AB.base m,now:=Aj.nx A4 (AB.now m) [Value.string key],cost:=AB.cost m,AG:=AB.AG m,state:=AB.state m,AS:=AB.AS m }))) false),some (.abs (AX.pack (Pk.table (AB.now { cfg:=[List.getD (AB.cfg m) 0 0,List.getD (AB.cfg m) 1 0,List.getD (AB.cfg m) 2 0,List.getD (AB.cfg m) 3 0,List.getD (AB.cfg m) 4 0,List.getD (AB.cfg m) 5 0,List.getD (AB.cfg m) 6 0],Al:=AB.Al m,base:=AB.base m,now:=Aj.nx A4 (AB.now m) [Value.string key],cost:=AB.cost m,AG:=AB.AG m,state:=AB.state m,AS:=AB.AS m }))) false),some (.cells [(.bool false),(.string key),(.string val)] 0 false)])))else(bif k==2 then(bif k==3 then(Q (.tuple ⟨[(.agg ⟨[(.int .i64 0),(.string ({ data:=#[] }))]⟩),(.pointer (some ⟨15,0,none⟩)),(.bool true)]⟩) [some (.abs (AX.pack (Pk.table (AB.base m))) false),some (.abs (AX.pack (Pk.table (Aj.nx A4 (AB.now m) [Value.string key]))) false),some (.cells [(.bool false),(.string key),(.string val)] 0 false)])else
 (bif k==2 then(bif k==2 then(Q (.tuple ⟨[(.agg ⟨[(.int .i64 0),(.string (Option.getD (DH (AB.now m) key) { data:=#[] }))]⟩),(.pointer none),(.bool false)]⟩) [some (.abs (AX.pack (Pk.table (AB.base m))) false),some (.abs (AX.pack (Pk.table (Aj.nx A4 (AB.now m) [Value.string key]))) false)])else(Q (.tuple ⟨[(.agg ⟨[(.int .i64 0),(.string ({ data:=#[] }))]⟩),(.pointer none),(.bool false)]⟩) [some (.abs (AX.pack (Pk.table (AB.base m))) false),some (.abs (AX.pack (Pk.table (Aj.nx A4 (AB.now m) [Value.string key]))) false)]))else(bif k==2 then(Q (.tuple ⟨[(.agg ⟨[(.int .i64 0),(.string (Option.getD (DH (AB.now m) key) { data:=#[] }))]⟩),(.pointer none),(.bool false)]⟩) [some (.abs (AX.pack (Pk.table (AB.base m))) false),some (.abs (AX.pack (Pk.table (Aj.nx A4 (AB.now m) [Value.string key]))) false)])else(Q (.tuple ⟨[(.agg ⟨[(.int .i64 0),(.string ({ data:=#[] }))]⟩),(.pointer none),(.bool false)]⟩) [some (.abs (AX.pack (Pk.table (AB.base m))) false),some (.abs (AX.pack (Pk.table (Aj.nx A4 (AB.now m) [Value.string key]))) false)]))))else(bif k==3 then(bif k==3 then(Q (.tuple ⟨[(.agg ⟨[(.int .i64 0),(.string ({ data:=#[] }))]⟩),(.pointer (some ⟨15,0,none⟩)),(.bool true)]⟩) [some (.abs (AX.pack (Pk.table (AB.base m))) false),some (.abs (AX.pack (Pk.table (Aj.nx A4 (AB.now m) [Value.string key]))) false),some (.cells [(.bool false),(.string key),(.string val)] 0 false)])else(bif k==2 then(bif k==2 then(Q (.tuple ⟨[(.agg ⟨[(.int .i64 0),(.string (Option.getD (DH (AB.now m) key) { data:=#[] }))]⟩),(.pointer none),(.bool false)]⟩) [some (.abs (AX.pack (Pk.table (AB.base m))) false),some (.abs (AX.pack (Pk.table (Aj.nx A4 (AB.now m) [Value.string key]))) false)])else(Q (.tuple ⟨[(.agg ⟨[(.int .i64 0),(.string ({ data:=#[] }))]⟩),(.pointer none),(.bool false)]⟩) [some (.abs (AX.pack (Pk.table (AB.base m))) false),some (.abs (AX.pack (Pk.table (Aj.nx A4 (AB.now m) [Value.string key]))) false)]))else(bif k==2 then(Q (.tuple ⟨[(.agg ⟨[(.int .i64 0),(.string (Option.getD (DH (AB.now m) key) { data:=#[] }))]⟩),(.pointer none),(.bool false)]⟩) [some (.abs (AX.pack (Pk.table (AB.base m))) false),some (.abs (AX.pack (Pk.table (Aj.nx A4 (AB.now m) [Value.string key]))) false)])else(Q (.tuple ⟨[(.agg ⟨[(.int .i64 0),(.string ({ data:=#[] }))]⟩),(.pointer none),(.bool false)]⟩) [some (.abs (AX.pack (Pk.table (AB.base m))) false),some (.abs (AX.pack (Pk.table (Aj.nx A4 (AB.now m) [Value.string key]))) false)]))))else(Q (.tuple ⟨[(.agg ⟨[(.int .i64 0),(.string ({ data:=#[] }))]⟩),(.pointer none),(.bool false)]⟩) [some (.abs (AX.pack (Pk.table (AB.base m))) false),some (.abs (AX.pack (Pk.table (Aj.nx A4 (AB.now m) [Value.string key]))) false)]))))))else(((.bool (Option.isSome (DH (AB.now m) key))):Value)=(.bool false))∧(bif decide (Int.ofNat (ByteArray.size key) > List.getD (AB.cfg m) 4 0)then(bif k==3 then(bif k==1 then(Q (.tuple ⟨[(.agg ⟨[(.int .i64 12),(.string ({ data:=#[] }))]⟩),(.pointer none),(.bool false)]⟩) [some (.abs (AX.pack (Pk.table (AB.base m))) false),some (.abs (AX.pack (Pk.table (Aj.nx A4 (AB.now m) [Value.string key]))) false)])else(bif k==2 then(Q (.tuple ⟨[(.agg ⟨[(.int .i64 12),(.string ({ data:=#[] }))]⟩),(.pointer none),(.bool false)]⟩) [some (.abs (AX.pack (Pk.table (AB.base m))) false),some (.abs (AX.pack (Pk.table (Aj.nx A4 (AB.now m) [Value.string key]))) false)])else(bif k==3 then(Q (.tuple ⟨[(.agg ⟨[(.int .i64 12),(.string ({ data:=#[] }))]⟩),(.pointer none),(.bool false)]⟩) [some (.abs (AX.pack (Pk.table (AB.base m))) false),some (.abs (AX.pack (Pk.table (Aj.nx A4 (AB.now m) [Value.string key]))) false)])else
 (Q (.tuple ⟨[(.agg ⟨[(.int .i64 0),(.string ({ data:=#[] }))]⟩),(.pointer none),(.bool false)]⟩) [some (.abs (AX.pack (Pk.table (AB.base m))) false),some (.abs (AX.pack (Pk.table (Aj.nx A4 (AB.now m) [Value.string key]))) false)]))))else(bif k==1 then(Q (.tuple ⟨[(.agg ⟨[(.int .i64 12),(.string ({ data:=#[] }))]⟩),(.pointer none),(.bool false)]⟩) [some (.abs (AX.pack (Pk.table (AB.base m))) false),some (.abs (AX.pack (Pk.table (Aj.nx A4 (AB.now m) [Value.string key]))) false)])else(bif k==2 then(Q (.tuple ⟨[(.agg ⟨[(.int .i64 12),(.string ({ data:=#[] }))]⟩),(.pointer none),(.bool false)]⟩) [some (.abs (AX.pack (Pk.table (AB.base m))) false),some (.abs (AX.pack (Pk.table (Aj.nx A4 (AB.now m) [Value.string key]))) false)])else(bif k==3 then(Q (.tuple ⟨[(.agg ⟨[(.int .i64 12),(.string ({ data:=#[] }))]⟩),(.pointer none),(.bool false)]⟩) [some (.abs (AX.pack (Pk.table (AB.base m))) false),some (.abs (AX.pack (Pk.table (Aj.nx A4 (AB.now m) [Value.string key]))) false)])else(Q (.tuple ⟨[(.agg ⟨[(.int .i64 0),(.string ({ data:=#[] }))]⟩),(.pointer none),(.bool false)]⟩) [some (.abs (AX.pack (Pk.table (AB.base m))) false),some (.abs (AX.pack (Pk.table (Aj.nx A4 (AB.now m) [Value.string key]))) false)])))))else(bif k==3 then(bif k==1 then(bif decide (Int.ofNat (ByteArray.size val) > List.getD (AB.cfg m) 5 0)then(Q (.tuple ⟨[(.agg ⟨[(.int .i64 12),(.string ({ data:=#[] }))]⟩),(.pointer none),(.bool false)]⟩) [some (.abs (AX.pack (Pk.table (AB.base m))) false),some (.abs (AX.pack (Pk.table (Aj.nx A4 (AB.now m) [Value.string key]))) false)])else(List.length (AB.AG m)=List.length (AB.AG { cfg:=[List.getD (AB.cfg m) 0 0,List.getD (AB.cfg m) 1 0,List.getD (AB.cfg m) 2 0,List.getD (AB.cfg m) 3 0,List.getD (AB.cfg m) 4 0,List.getD (AB.cfg m) 5 0,List.getD (AB.cfg m) 6 0],Al:=AB.Al m,base:=AB.base m,now:=Aj.nx A4 (AB.now m) [Value.string key],cost:=AB.cost m,AG:=AB.AG m,state:=AB.state m,AS:=AB.AS m })∧AE=AE)∧(A8 (AB.now { cfg:=[List.getD (AB.cfg m) 0 0,List.getD (AB.cfg m) 1 0,List.getD (AB.cfg m) 2 0,List.getD (AB.cfg m) 3 0,List.getD (AB.cfg m) 4 0,List.getD (AB.cfg m) 5 0,List.getD (AB.cfg m) 6 0],Al:=AB.Al m,base:=AB.base m,now:=Aj.nx A4 (AB.now m) [Value.string key],cost:=AB.cost m,AG:=AB.AG m,state:=AB.state m,AS:=AB.AS m })∧List.length (AB.now { cfg:=[List.getD (AB.cfg m) 0 0,List.getD (AB.cfg m) 1 0,List.getD (AB.cfg m) 2 0,List.getD (AB.cfg m) 3 0,List.getD (AB.cfg m) 4 0,List.getD (AB.cfg m) 5 0,List.getD (AB.cfg m) 6 0],Al:=AB.Al m,base:=AB.base m,now:=Aj.nx A4 (AB.now m) [Value.string key],cost:=AB.cost m,AG:=AB.AG m,state:=AB.state m,AS:=AB.AS m }) < 1000000)∧(((.int .i64 (AB.Al m)):Value)=(.int .i64 (AB.Al m)))∧(((.pointer (some ⟨9,7,none⟩)):Value)=(.pointer (some ⟨9,7,none⟩)))∧(((.pointer (some ⟨9,0,none⟩)):Value)=(.pointer (some ⟨9,0,none⟩)))∧(((.pointer (some ⟨9,0,none⟩)):Value)=(.pointer (some ⟨9,0,none⟩)))∧(bif decide (D4 { cfg:=[List.getD (AB.cfg m) 0 0,List.getD (AB.cfg m) 1 0,List.getD (AB.cfg m) 2 0,List.getD (AB.cfg m) 3 0,List.getD (AB.cfg m) 4 0,List.getD (AB.cfg m) 5 0,List.getD (AB.cfg m) 6 0],Al:=AB.Al m,base:=AB.base m,now:=Aj.nx A4 (AB.now m) [Value.string key],cost:=AB.cost m,AG:=AB.AG m,state:=AB.state m,AS:=AB.AS m } true key val > AB.Al m)then
 (Q (.tuple ⟨[(.agg ⟨[(.int .i64 4),(.string ({ data:=#[] }))]⟩),(.pointer none),(.bool false)]⟩) [some (.abs (AX.pack (Pk.table (AB.base { cfg:=[List.getD (AB.cfg m) 0 0,List.getD (AB.cfg m) 1 0,List.getD (AB.cfg m) 2 0,List.getD (AB.cfg m) 3 0,List.getD (AB.cfg m) 4 0,List.getD (AB.cfg m) 5 0,List.getD (AB.cfg m) 6 0],Al:=AB.Al m,base:=AB.base m,now:=Aj.nx A4 (AB.now m) [Value.string key],cost:=AB.cost m,AG:=AB.AG m,state:=AB.state m,AS:=AB.AS m }))) false),some (.abs (AX.pack (Pk.table (AB.now { cfg:=[List.getD (AB.cfg m) 0 0,List.getD (AB.cfg m) 1 0,List.getD (AB.cfg m) 2 0,List.getD (AB.cfg m) 3 0,List.getD (AB.cfg m) 4 0,List.getD (AB.cfg m) 5 0,List.getD (AB.cfg m) 6 0],Al:=AB.Al m,base:=AB.base m,now:=Aj.nx A4 (AB.now m) [Value.string key],cost:=AB.cost m,AG:=AB.AG m,state:=AB.state m,AS:=AB.AS m }))) false)])else(Q (.tuple ⟨[(.agg ⟨[(.int .i64 0),(.string ({ data:=#[] }))]⟩),(.pointer (some ⟨15,0,none⟩)),(.bool true)]⟩) [some (.abs (AX.pack (Pk.table (AB.base { cfg:=[List.getD (AB.cfg m) 0 0,List.getD (AB.cfg m) 1 0,List.getD (AB.cfg m) 2 0,List.getD (AB.cfg m) 3 0,List.getD (AB.cfg m) 4 0,List.getD (AB.cfg m) 5 0,List.getD (AB.cfg m) 6 0],Al:=AB.Al m,base:=AB.base m,now:=Aj.nx A4 (AB.now m) [Value.string key],cost:=AB.cost m,AG:=AB.AG m,state:=AB.state m,AS:=AB.AS m }))) false),some (.abs (AX.pack (Pk.table (AB.now { cfg:=[List.getD (AB.cfg m) 0 0,List.getD (AB.cfg m) 1 0,List.getD (AB.cfg m) 2 0,List.getD (AB.cfg m) 3 0,List.getD (AB.cfg m) 4 0,List.getD (AB.cfg m) 5 0,List.getD (AB.cfg m) 6 0],Al:=AB.Al m,base:=AB.base m,now:=Aj.nx A4 (AB.now m) [Value.string key],cost:=AB.cost m,AG:=AB.AG m,state:=AB.state m,AS:=AB.AS m }))) false),some (.cells [(.bool true),(.string key),(.string val)] 0 false)])))else(bif k==2 then(bif k==3 then(bif k==2 then(Q (.tuple ⟨[(.agg ⟨[(.int .i64 5),(.string ({ data:=#[] }))]⟩),(.pointer none),(.bool false)]⟩) [some (.abs (AX.pack (Pk.table (AB.base m))) false),some (.abs (AX.pack (Pk.table (Aj.nx A4 (AB.now m) [Value.string key]))) false)])else(bif k==2 then(Q (.tuple ⟨[(.agg ⟨[(.int .i64 0),(.string (Option.getD (DH (AB.now m) key) { data:=#[] }))]⟩),(.pointer none),(.bool false)]⟩) [some (.abs (AX.pack (Pk.table (AB.base m))) false),some (.abs (AX.pack (Pk.table (Aj.nx A4 (AB.now m) [Value.string key]))) false)])else(Q (.tuple ⟨[(.agg ⟨[(.int .i64 0),(.string ({ data:=#[] }))]⟩),(.pointer none),(.bool false)]⟩) [some (.abs (AX.pack (Pk.table (AB.base m))) false),some (.abs (AX.pack (Pk.table (Aj.nx A4 (AB.now m) [Value.string key]))) false)])))else(bif k==2 then(Q (.tuple ⟨[(.agg ⟨[(.int .i64 5),(.string ({ data:=#[] }))]⟩),(.pointer none),(.bool false)]⟩) [some (.abs (AX.pack (Pk.table (AB.base m))) false),some (.abs (AX.pack (Pk.table (Aj.nx A4 (AB.now m) [Value.string key]))) false)])else(bif k==2 then(Q (.tuple ⟨[(.agg ⟨[(.int .i64 0),(.string (Option.getD (DH (AB.now m) key) { data:=#[] }))]⟩),(.pointer none),(.bool false)]⟩) [some (.abs (AX.pack (Pk.table (AB.base m))) false),some (.abs (AX.pack (Pk.table (Aj.nx A4 (AB.now m) [Value.string key]))) false)])else(Q (.tuple ⟨[(.agg ⟨[(.int .i64 0),(.string ({ data:=#[] }))]⟩),(.pointer none),(.bool false)]⟩) [some (.abs (AX.pack (Pk.table (AB.base m))) false),some (.abs (AX.pack (Pk.table (Aj.nx A4 (AB.now m) [Value.string key]))) false)]))))else(bif k==3 then(bif k==3 then(bif k==2 then
 (Q (.tuple ⟨[(.agg ⟨[(.int .i64 5),(.string ({ data:=#[] }))]⟩),(.pointer none),(.bool false)]⟩) [some (.abs (AX.pack (Pk.table (AB.base m))) false),some (.abs (AX.pack (Pk.table (Aj.nx A4 (AB.now m) [Value.string key]))) false)])else(bif k==2 then(Q (.tuple ⟨[(.agg ⟨[(.int .i64 0),(.string (Option.getD (DH (AB.now m) key) { data:=#[] }))]⟩),(.pointer none),(.bool false)]⟩) [some (.abs (AX.pack (Pk.table (AB.base m))) false),some (.abs (AX.pack (Pk.table (Aj.nx A4 (AB.now m) [Value.string key]))) false)])else(Q (.tuple ⟨[(.agg ⟨[(.int .i64 0),(.string ({ data:=#[] }))]⟩),(.pointer none),(.bool false)]⟩) [some (.abs (AX.pack (Pk.table (AB.base m))) false),some (.abs (AX.pack (Pk.table (Aj.nx A4 (AB.now m) [Value.string key]))) false)])))else(bif k==2 then(Q (.tuple ⟨[(.agg ⟨[(.int .i64 5),(.string ({ data:=#[] }))]⟩),(.pointer none),(.bool false)]⟩) [some (.abs (AX.pack (Pk.table (AB.base m))) false),some (.abs (AX.pack (Pk.table (Aj.nx A4 (AB.now m) [Value.string key]))) false)])else(bif k==2 then(Q (.tuple ⟨[(.agg ⟨[(.int .i64 0),(.string (Option.getD (DH (AB.now m) key) { data:=#[] }))]⟩),(.pointer none),(.bool false)]⟩) [some (.abs (AX.pack (Pk.table (AB.base m))) false),some (.abs (AX.pack (Pk.table (Aj.nx A4 (AB.now m) [Value.string key]))) false)])else(Q (.tuple ⟨[(.agg ⟨[(.int .i64 0),(.string ({ data:=#[] }))]⟩),(.pointer none),(.bool false)]⟩) [some (.abs (AX.pack (Pk.table (AB.base m))) false),some (.abs (AX.pack (Pk.table (Aj.nx A4 (AB.now m) [Value.string key]))) false)]))))else(Q (.tuple ⟨[(.agg ⟨[(.int .i64 0),(.string ({ data:=#[] }))]⟩),(.pointer none),(.bool false)]⟩) [some (.abs (AX.pack (Pk.table (AB.base m))) false),some (.abs (AX.pack (Pk.table (Aj.nx A4 (AB.now m) [Value.string key]))) false)]))))else(bif k==1 then(bif decide (Int.ofNat (ByteArray.size val) > List.getD (AB.cfg m) 5 0)then(Q (.tuple ⟨[(.agg ⟨[(.int .i64 12),(.string ({ data:=#[] }))]⟩),(.pointer none),(.bool false)]⟩) [some (.abs (AX.pack (Pk.table (AB.base m))) false),some (.abs (AX.pack (Pk.table (Aj.nx A4 (AB.now m) [Value.string key]))) false)])else(List.length (AB.AG m)=List.length (AB.AG { cfg:=[List.getD (AB.cfg m) 0 0,List.getD (AB.cfg m) 1 0,List.getD (AB.cfg m) 2 0,List.getD (AB.cfg m) 3 0,List.getD (AB.cfg m) 4 0,List.getD (AB.cfg m) 5 0,List.getD (AB.cfg m) 6 0],Al:=AB.Al m,base:=AB.base m,now:=Aj.nx A4 (AB.now m) [Value.string key],cost:=AB.cost m,AG:=AB.AG m,state:=AB.state m,AS:=AB.AS m })∧AE=AE)∧(A8 (AB.now { cfg:=[List.getD (AB.cfg m) 0 0,List.getD (AB.cfg m) 1 0,List.getD (AB.cfg m) 2 0,List.getD (AB.cfg m) 3 0,List.getD (AB.cfg m) 4 0,List.getD (AB.cfg m) 5 0,List.getD (AB.cfg m) 6 0],Al:=AB.Al m,base:=AB.base m,now:=Aj.nx A4 (AB.now m) [Value.string key],cost:=AB.cost m,AG:=AB.AG m,state:=AB.state m,AS:=AB.AS m })∧List.length (AB.now { cfg:=[List.getD (AB.cfg m) 0 0,List.getD (AB.cfg m) 1 0,List.getD (AB.cfg m) 2 0,List.getD (AB.cfg m) 3 0,List.getD (AB.cfg m) 4 0,List.getD (AB.cfg m) 5 0,List.getD (AB.cfg m) 6 0],Al:=AB.Al m,base:=AB.base m,now:=Aj.nx A4 (AB.now m) [Value.string key],cost:=AB.cost m,AG:=AB.AG m,state:=AB.state m,AS:=AB.AS m }) < 1000000)∧(((.int .i64 (AB.Al m)):Value)=(.int .i64 (AB.Al m)))∧(((.pointer (some ⟨9,7,none⟩)):Value)=(.pointer (some ⟨9,7,none⟩)))∧(((.pointer (some ⟨9,0,none⟩)):Value)=(.pointer (some ⟨9,0,none⟩)))∧(((.pointer (some ⟨9,0,none⟩)):Value)=(.pointer (some ⟨9,0,none⟩)))∧
 (bif decide (D4 { cfg:=[List.getD (AB.cfg m) 0 0,List.getD (AB.cfg m) 1 0,List.getD (AB.cfg m) 2 0,List.getD (AB.cfg m) 3 0,List.getD (AB.cfg m) 4 0,List.getD (AB.cfg m) 5 0,List.getD (AB.cfg m) 6 0],Al:=AB.Al m,base:=AB.base m,now:=Aj.nx A4 (AB.now m) [Value.string key],cost:=AB.cost m,AG:=AB.AG m,state:=AB.state m,AS:=AB.AS m } false key val > AB.Al m)then(Q (.tuple ⟨[(.agg ⟨[(.int .i64 4),(.string ({ data:=#[] }))]⟩),(.pointer none),(.bool false)]⟩) [some (.abs (AX.pack (Pk.table (AB.base { cfg:=[List.getD (AB.cfg m) 0 0,List.getD (AB.cfg m) 1 0,List.getD (AB.cfg m) 2 0,List.getD (AB.cfg m) 3 0,List.getD (AB.cfg m) 4 0,List.getD (AB.cfg m) 5 0,List.getD (AB.cfg m) 6 0],Al:=AB.Al m,base:=AB.base m,now:=Aj.nx A4 (AB.now m) [Value.string key],cost:=AB.cost m,AG:=AB.AG m,state:=AB.state m,AS:=AB.AS m }))) false),some (.abs (AX.pack (Pk.table (AB.now { cfg:=[List.getD (AB.cfg m) 0 0,List.getD (AB.cfg m) 1 0,List.getD (AB.cfg m) 2 0,List.getD (AB.cfg m) 3 0,List.getD (AB.cfg m) 4 0,List.getD (AB.cfg m) 5 0,List.getD (AB.cfg m) 6 0],Al:=AB.Al m,base:=AB.base m,now:=Aj.nx A4 (AB.now m) [Value.string key],cost:=AB.cost m,AG:=AB.AG m,state:=AB.state m,AS:=AB.AS m }))) false)])else(Q (.tuple ⟨[(.agg ⟨[(.int .i64 0),(.string ({ data:=#[] }))]⟩),(.pointer (some ⟨15,0,none⟩)),(.bool true)]⟩) [some (.abs (AX.pack (Pk.table (AB.base { cfg:=[List.getD (AB.cfg m) 0 0,List.getD (AB.cfg m) 1 0,List.getD (AB.cfg m) 2 0,List.getD (AB.cfg m) 3 0,List.getD (AB.cfg m) 4 0,List.getD (AB.cfg m) 5 0,List.getD (AB.cfg m) 6 0],Al:=AB.Al m,base:=AB.base m,now:=Aj.nx A4 (AB.now m) [Value.string key],cost:=AB.cost m,AG:=AB.AG m,state:=AB.state m,AS:=AB.AS m }))) false),some (.abs (AX.pack (Pk.table (AB.now { cfg:=[List.getD (AB.cfg m) 0 0,List.getD (AB.cfg m) 1 0,List.getD (AB.cfg m) 2 0,List.getD (AB.cfg m) 3 0,List.getD (AB.cfg m) 4 0,List.getD (AB.cfg m) 5 0,List.getD (AB.cfg m) 6 0],Al:=AB.Al m,base:=AB.base m,now:=Aj.nx A4 (AB.now m) [Value.string key],cost:=AB.cost m,AG:=AB.AG m,state:=AB.state m,AS:=AB.AS m }))) false),some (.cells [(.bool false),(.string key),(.string val)] 0 false)])))else(bif k==2 then(bif k==3 then(bif k==2 then(Q (.tuple ⟨[(.agg ⟨[(.int .i64 5),(.string ({ data:=#[] }))]⟩),(.pointer none),(.bool false)]⟩) [some (.abs (AX.pack (Pk.table (AB.base m))) false),some (.abs (AX.pack (Pk.table (Aj.nx A4 (AB.now m) [Value.string key]))) false)])else(bif k==2 then(Q (.tuple ⟨[(.agg ⟨[(.int .i64 0),(.string (Option.getD (DH (AB.now m) key) { data:=#[] }))]⟩),(.pointer none),(.bool false)]⟩) [some (.abs (AX.pack (Pk.table (AB.base m))) false),some (.abs (AX.pack (Pk.table (Aj.nx A4 (AB.now m) [Value.string key]))) false)])else(Q (.tuple ⟨[(.agg ⟨[(.int .i64 0),(.string ({ data:=#[] }))]⟩),(.pointer none),(.bool false)]⟩) [some (.abs (AX.pack (Pk.table (AB.base m))) false),some (.abs (AX.pack (Pk.table (Aj.nx A4 (AB.now m) [Value.string key]))) false)])))else(bif k==2 then(Q (.tuple ⟨[(.agg ⟨[(.int .i64 5),(.string ({ data:=#[] }))]⟩),(.pointer none),(.bool false)]⟩) [some (.abs (AX.pack (Pk.table (AB.base m))) false),some (.abs (AX.pack (Pk.table (Aj.nx A4 (AB.now m) [Value.string key]))) false)])else(bif k==2 then(Q (.tuple ⟨[(.agg ⟨[(.int .i64 0),(.string (Option.getD (DH (AB.now m) key) { data:=#[] }))]⟩),(.pointer none),(.bool false)]⟩) [some (.abs (AX.pack (Pk.table (AB.base m))) false),some (.abs (AX.pack (Pk.table (Aj.nx A4 (AB.now m) [Value.string key]))) false)])else
 (Q (.tuple ⟨[(.agg ⟨[(.int .i64 0),(.string ({ data:=#[] }))]⟩),(.pointer none),(.bool false)]⟩) [some (.abs (AX.pack (Pk.table (AB.base m))) false),some (.abs (AX.pack (Pk.table (Aj.nx A4 (AB.now m) [Value.string key]))) false)]))))else(bif k==3 then(bif k==3 then(bif k==2 then(Q (.tuple ⟨[(.agg ⟨[(.int .i64 5),(.string ({ data:=#[] }))]⟩),(.pointer none),(.bool false)]⟩) [some (.abs (AX.pack (Pk.table (AB.base m))) false),some (.abs (AX.pack (Pk.table (Aj.nx A4 (AB.now m) [Value.string key]))) false)])else(bif k==2 then(Q (.tuple ⟨[(.agg ⟨[(.int .i64 0),(.string (Option.getD (DH (AB.now m) key) { data:=#[] }))]⟩),(.pointer none),(.bool false)]⟩) [some (.abs (AX.pack (Pk.table (AB.base m))) false),some (.abs (AX.pack (Pk.table (Aj.nx A4 (AB.now m) [Value.string key]))) false)])else(Q (.tuple ⟨[(.agg ⟨[(.int .i64 0),(.string ({ data:=#[] }))]⟩),(.pointer none),(.bool false)]⟩) [some (.abs (AX.pack (Pk.table (AB.base m))) false),some (.abs (AX.pack (Pk.table (Aj.nx A4 (AB.now m) [Value.string key]))) false)])))else(bif k==2 then(Q (.tuple ⟨[(.agg ⟨[(.int .i64 5),(.string ({ data:=#[] }))]⟩),(.pointer none),(.bool false)]⟩) [some (.abs (AX.pack (Pk.table (AB.base m))) false),some (.abs (AX.pack (Pk.table (Aj.nx A4 (AB.now m) [Value.string key]))) false)])else(bif k==2 then(Q (.tuple ⟨[(.agg ⟨[(.int .i64 0),(.string (Option.getD (DH (AB.now m) key) { data:=#[] }))]⟩),(.pointer none),(.bool false)]⟩) [some (.abs (AX.pack (Pk.table (AB.base m))) false),some (.abs (AX.pack (Pk.table (Aj.nx A4 (AB.now m) [Value.string key]))) false)])else(Q (.tuple ⟨[(.agg ⟨[(.int .i64 0),(.string ({ data:=#[] }))]⟩),(.pointer none),(.bool false)]⟩) [some (.abs (AX.pack (Pk.table (AB.base m))) false),some (.abs (AX.pack (Pk.table (Aj.nx A4 (AB.now m) [Value.string key]))) false)]))))else(Q (.tuple ⟨[(.agg ⟨[(.int .i64 0),(.string ({ data:=#[] }))]⟩),(.pointer none),(.bool false)]⟩) [some (.abs (AX.pack (Pk.table (AB.base m))) false),some (.abs (AX.pack (Pk.table (Aj.nx A4 (AB.now m) [Value.string key]))) false)])))))))):=by kernel_rfl
end Go.AD

set_option maxRecDepth 1000000
namespace Go.AD
open Go.Proofs
theorem ZG:El ez cK:=An (fun _ _ _ h=>Ap (by kernel_rfl) h) (An (fun _ _ _ h=>Ap (by kernel_rfl) h) (An (fun _ _ _ h=>Ap (by kernel_rfl) h) (An (fun _ _ _ h=>Ap (by kernel_rfl) h) (An (fun _ _ _ h=>Ap (by kernel_rfl) h)
 (An (fun _ _ _ h=>Ap (by kernel_rfl) h) (An (fun _ _ _ h=>Ap (by kernel_rfl) h) (Ax _)))))))
theorem dY:Au Tryz.prog AM eS:=Au.cons Rv allM
def e0:ByteArray:={ data:=#[] }
def U8 (m:AB) (key:ByteArray):Bool:=decide (Int.ofNat (ByteArray.size key) > List.getD m.cfg 4 0)
def Yw (m:AB) (val:ByteArray):Bool:=decide (Int.ofNat (ByteArray.size val) > List.getD m.cfg 5 0)
noncomputable def V5 (m:AB) (key:ByteArray):Bool:=Option.isSome (DH m.now key)
noncomputable def Te (m:AB) (key val:ByteArray):Bool:=decide (D4 m false key val > m.Al)
noncomputable def Cj (m:AB) (k:Int) (key val:ByteArray):Int × ByteArray × Bool:=
 bif k==1 then(bif U8 m key||Yw m val then(12,e0,false)else bif Te m key val then(4,e0,false)else(0,e0,true))
 else bif k==2 then(bif U8 m key then(12,e0,false)else bif V5 m key then(0,(DH m.now key).getD e0,false)else(5,e0,false))
 else bif k==3 then(bif U8 m key then(12,e0,false)else bif V5 m key then(0,e0,true)else(0,e0,false))
 else(0,e0,false)
noncomputable def SZ (k:Int) (key val:ByteArray):AJ:= .cells [.bool (k==3),.string key,.string val] 0 false
noncomputable def YZ (m:AB) (rest:List Value):GT:=
 match rest with
 | [.agg ⟨[.int .i64 k,.int .i64 _,.int .i64 _,.string key,.string val]⟩]=> .ask (A8 m.now∧m.now.length < 1000000)
  (.test (Cj m k key val).2.2 (.ret ⟨.tuple ⟨[.agg ⟨[.int .i64 (Cj m k key val).1,.string (Cj m k key val).2.1]⟩,.pointer (some ⟨13,0,none⟩),.bool true]⟩,[none,some (Ch m.base),some (Ch m.now),none],[SZ k key val]⟩)
   (.ret ⟨.tuple ⟨[.agg ⟨[.int .i64 (Cj m k key val).1,.string (Cj m k key val).2.1]⟩,.pointer none,.bool false]⟩,[none,some (Ch m.base),some (Ch m.now),none],[]⟩))
 | _=> .fail
def bR (m:AB) (k:Int) (key val:ByteArray) (v:Value) (os:List (Option AJ)):Prop:=
 ∃e s,((Cj m k key val=(e,s,true)∧v= .tuple ⟨[.agg ⟨[.int .i64 e,.string s]⟩,.pointer (some ⟨15,0,none⟩),.bool true]⟩∧os=[some (Ch m.base),some (Ch m.now),some (SZ k key val)])∨
  (Cj m k key val=(e,s,false)∧v= .tuple ⟨[.agg ⟨[.int .i64 e,.string s]⟩,.pointer none,.bool false]⟩∧os=[some (Ch m.base),some (Ch m.now)]))
theorem bZ (m:AB) (k a b:Int) (key val:ByteArray) (hs:A8 m.now) (hn:m.now.length < 1000000):
 FD ez cK BO [10,11] (bR m k key val) 2000 (st BO 97 [p9,Ei k a b key val] (BF ⟨.leaf,9⟩ (dG m))):=by
 have hok:Aj.ok A4 (AB.now m) [Value.string key]:=⟨hs,by omega,key,rfl⟩
 rw[ba]
 refine⟨hok,?_⟩
 have hc:(k==1)=true∧(k==2)=false∧(k==3)=false∨(k==1)=false∧(k==2)=true∧(k==3)=false∨(k==1)=false∧(k==2)=false∧(k==3)=true∨(k==1)=false∧(k==2)=false∧(k==3)=false:=by
  simp only[beq_iff_eq,beq_eq_false_iff_ne,ne_eq]
  omega
 rcases hc with⟨c1,c2,c3⟩ | ⟨c1,c2,c3⟩ | ⟨c1,c2,c3⟩ | ⟨c1,c2,c3⟩
 all_goals
  simp only[c1,c2,c3,cond_true,cond_false]
  repeat' first
   | exact⟨_,_,.inl ⟨by unfold Cj;simp only[*,cond_true,cond_false,Bool.or_true,Bool.or_false,Bool.true_or]<;>rfl,rfl,by unfold SZ;simp only[*]<;>rfl⟩⟩
   | exact⟨_,_,.inr ⟨by unfold Cj;simp only[*,cond_true,cond_false,Bool.or_true,Bool.or_false,Bool.true_or]<;>rfl,rfl,rfl⟩⟩
   | refine As (b:=V5 m key) (fun _=>?_) (fun _=>?_)
   | refine As (b:=U8 m key) (fun _=>?_) (fun _=>?_)
   | refine As (b:=Yw m val) (fun _=>?_) (fun _=>?_)
   | refine As (b:=Te m key val) (fun _=>?_) (fun _=>?_)
   | refine⟨by first | exact trivial | exact⟨trivial,trivial⟩ | exact rfl | exact⟨hs,hn⟩ | exact congrArg Value.bool (by assumption),?_⟩
end Go.AD

set_option maxRecDepth 1000000
namespace Go.AD
open Go.Proofs
theorem Wn:Dr Tryz.prog AM BO (Ay AM 9 Jn (J8 YZ)):=by
 refine QP dY (by kernel_rfl) (n:=97) fun m rest x hx=>?_
 unfold YZ at hx
 split at hx
 ·rename_i k a b key val
  simp only[GT.run]at hx
  split at hx
  ·rename_i hok
   obtain⟨hs,hn⟩:=hok
   refine⟨by simp,?_⟩
   have hE:Ai ez 13 BO (fun v H=>bR m k key val v (([10,11]++Ac 4 v).map H.get)) (st BO 97 [p9,Ei k a b key val] (BF ⟨.leaf,9⟩ (dG m))):=
    Bc.GF (B4 ZG (ids:=[10,11]) (Q:=bR m k key val) 2000 _ (bZ m k a b key val hs hn))
   refine hE.I3.mono ?_
   rintro v H ⟨e,s,⟨h1,rfl,h⟩ | ⟨h1,rfl,h⟩⟩
   ·rw[h1]at hx
    cases hx
    have h:[H.get 10,H.get 11,H.get 15]=_:=h
    simp only[List.cons.injEq,and_true]at h
    refine On (ns:=[15]) h.1 h.2.1 rfl (by simp) (fun b hb=>by simp at hb;omega) rfl (fun j b o hj ho=>?_)
    cases j with
    | zero=>cases hj;cases ho;exact⟨_,rfl,h.2.2⟩
    | succ j=>cases hj
   ·rw[h1]at hx
    cases hx
    have h:[H.get 10,H.get 11]=_:=h
    simp only[List.cons.injEq,and_true]at h
    exact On (ns:=[]) h.1 h.2 rfl List.nodup_nil (fun b hb=>by cases hb) rfl (fun j b o hj=>by cases hj)
  ·cases hx
 ·cases hx
noncomputable def Z1 (m:AB) (rest:List Value):GT:=
 match rest with
 | [.agg ⟨[.bool del,.string key,.string val]⟩]=> .ask (A8 m.now∧m.now.length < 1000000∧m.AG.length < 1000000)
  (.ret ⟨.tuple ⟨[]⟩,[some (.cells (BJ (Bz m del key val) 10 11 (.slice (some ⟨13,0,some 0⟩) (m.AG.length+1) AE)) 0 false),some (Ch m.base),some (Ch (Bz m del key val).now),none],[.vec Bn (m.AG++[(del,key,val)]) false]⟩)
 | _=> .fail
theorem XQ:Dr Tryz.prog AM Bl (Ay AM 9 P7 (J8 Z1)):=by
 refine WY allM (by kernel_rfl) (n:=26) fun m rest x hx=>?_
 unfold Z1 at hx
 split at hx
 ·rename_i del key val
  simp only[GT.run]at hx
  split at hx
  ·rename_i hok
   obtain⟨hs,hn,hu⟩:=hok
   cases hx
   refine⟨by simp,?_⟩
   refine(Wv m del key val hs hn hu).I3.mono ?_
   rintro v H ⟨rfl,h⟩
   have h:[H.get 9,H.get 10,H.get 11,H.get 17]=_:=h
   simp only[List.cons.injEq,and_true]at h
   obtain⟨g9,Kj,g11,g17⟩:=h
   refine⟨[17],by simp,fun b hb=>by simp at hb;omega,rfl,rfl,fun j b o hj ho=>?_,fun j o hj _ ho=>?_⟩
   ·cases j with
    | zero=>cases hj;cases ho;exact⟨_,rfl,g17⟩
    | succ j=>cases hj
   ·cases j with
    | zero=>cases ho;exact⟨_,rfl,by rw[g9];unfold AE;rfl⟩
    | succ j=>cases j with
     | zero=>cases ho;exact⟨_,rfl,Kj⟩
     | succ j=>cases j with
      | zero=>cases ho;exact⟨_,rfl,g11⟩
      | succ j=>cases j with
       | zero=>cases ho
       | succ j=>omega
  ·cases hx
 ·cases hx
end Go.AD

set_option maxRecDepth 1000000
namespace Go.AD
open Go.Proofs
noncomputable abbrev fk:List (FuncId × Ci):=(AW,RW.F)::(BO,Ay AM 9 Jn (J8 YZ))::(Bl,Ay AM 9 P7 (J8 Z1))::ei
noncomputable def XD:Ctx:=Cf Tryz.prog AM fk
noncomputable def fV:Pf:=fun g=>bif Nat.beq g AW then some YM else(fun g=>bif Nat.beq g BO then some (Bh AM 9 Jn (J8 YZ))else(fun g=>bif Nat.beq g Bl then some (Bh AM 9 P7 (J8 Z1))else Ws g) g) g
abbrev mX (c0 c1 c2 c3 c4 c5 c6 lim:Int) (bs nw:List (ByteArray × ByteArray)) (cost:Int) (AG:List (Bool × ByteArray × ByteArray)):AB:=⟨[c0,c1,c2,c3,c4,c5,c6],lim,bs,nw,cost,AG,0,false⟩
noncomputable def fN (c0 c1 c2 c3 c4 c5 c6 lim:Int) (bs nw:List (ByteArray × ByteArray)) (cost:Int) (AG:List (Bool × ByteArray × ByteArray)):List AJ:=
 [.cells [.int .i64 c0,.int .i64 c1,.int .i64 c2,.int .i64 c3,.int .i64 c4,.int .i64 c5,.int .i64 c6,.int .i64 lim,.pointer (some ⟨10,0,none⟩),.pointer (some ⟨11,0,none⟩),.int .i64 cost,.slice (some ⟨12,0,some 0⟩) AG.length AE,.pointer none,.int .i64 0,.bool false] 0 false,
  .abs (.pack (.table bs)) false,.abs (.pack (.table nw)) false,.vec Bn AG false]
noncomputable def LB (e:Int) (s:ByteArray):Value:= .agg ⟨[.int .i64 e,.string s]⟩
abbrev Ye:List Nat:=[9,10,11,12,18,19,20]
noncomputable abbrev vc_do_0 (c0:Int) (c1:Int) (c2:Int) (c3:Int) (c4:Int) (c5:Int) (c6:Int) (lim:Int) (bs:List (ByteArray × ByteArray)) (nw:List (ByteArray × ByteArray)) (cost:Int) (AG:List (Bool × ByteArray × ByteArray)) (k:Int) (key:ByteArray) (val:ByteArray):AJ:=(.cells [(.int .i64 (List.getD (AB.cfg (Bz (mX c0 c1 c2 c3 c4 c5 c6 lim bs nw cost AG) (k==3) key val)) 0 0)),(.int .i64 (List.getD (AB.cfg (Bz (mX c0 c1 c2 c3 c4 c5 c6 lim bs nw cost AG) (k==3) key val)) 1 0)),(.int .i64 (List.getD (AB.cfg (Bz (mX c0 c1 c2 c3 c4 c5 c6 lim bs nw cost AG) (k==3) key val)) 2 0)),(.int .i64 (List.getD (AB.cfg (Bz (mX c0 c1 c2 c3 c4 c5 c6 lim bs nw cost AG) (k==3) key val)) 3 0)),(.int .i64 (List.getD (AB.cfg (Bz (mX c0 c1 c2 c3 c4 c5 c6 lim bs nw cost AG) (k==3) key val)) 4 0)),(.int .i64 (List.getD (AB.cfg (Bz (mX c0 c1 c2 c3 c4 c5 c6 lim bs nw cost AG) (k==3) key val)) 5 0)),(.int .i64 (List.getD (AB.cfg (Bz (mX c0 c1 c2 c3 c4 c5 c6 lim bs nw cost AG) (k==3) key val)) 6 0)),(.int .i64 (AB.Al (Bz (mX c0 c1 c2 c3 c4 c5 c6 lim bs nw cost AG) (k==3) key val))),(.pointer (some ⟨10,0,none⟩)),(.pointer (some ⟨11,0,none⟩)),(.int .i64 (AB.cost (Bz (mX c0 c1 c2 c3 c4 c5 c6 lim bs nw cost AG) (k==3) key val))),(.slice (some ⟨19,0,(some 0)⟩) (List.length (AB.AG (mX c0 c1 c2 c3 c4 c5 c6 lim bs nw cost AG))+1) 18446744073709551616),(.pointer none),(.int .i64 (AB.state (Bz (mX c0 c1 c2 c3 c4 c5 c6 lim bs nw cost AG) (k==3) key val))),(.bool (AB.AS (Bz (mX c0 c1 c2 c3 c4 c5 c6 lim bs nw cost AG) (k==3) key val)))] 0 false)
noncomputable abbrev vc_do_1 (c0:Int) (c1:Int) (c2:Int) (c3:Int) (c4:Int) (c5:Int) (c6:Int) (lim:Int) (bs:List (ByteArray × ByteArray)) (nw:List (ByteArray × ByteArray)) (cost:Int) (AG:List (Bool × ByteArray × ByteArray)) (k:Int) (key:ByteArray) (val:ByteArray):AJ:=(.cells [(.int .i64 (List.getD (AB.cfg (Bz (mX c0 c1 c2 c3 c4 c5 c6 lim bs nw cost AG) (k==3) key val)) 0 0)),(.int .i64 (List.getD (AB.cfg (Bz (mX c0 c1 c2 c3 c4 c5 c6 lim bs nw cost AG) (k==3) key val)) 1 0)),(.int .i64 (List.getD (AB.cfg (Bz (mX c0 c1 c2 c3 c4 c5 c6 lim bs nw cost AG) (k==3) key val)) 2 0)),(.int .i64 (List.getD (AB.cfg (Bz (mX c0 c1 c2 c3 c4 c5 c6 lim bs nw cost AG) (k==3) key val)) 3 0)),(.int .i64 (List.getD (AB.cfg (Bz (mX c0 c1 c2 c3 c4 c5 c6 lim bs nw cost AG) (k==3) key val)) 4 0)),(.int .i64 (List.getD (AB.cfg (Bz (mX c0 c1 c2 c3 c4 c5 c6 lim bs nw cost AG) (k==3) key val)) 5 0)),(.int .i64 (List.getD (AB.cfg (Bz (mX c0 c1 c2 c3 c4 c5 c6 lim bs nw cost AG) (k==3) key val)) 6 0)),(.int .i64 (AB.Al (Bz (mX c0 c1 c2 c3 c4 c5 c6 lim bs nw cost AG) (k==3) key val))),(.pointer (some ⟨20,0,none⟩)),(.pointer (some ⟨11,0,none⟩)),(.int .i64 (AB.cost (Bz (mX c0 c1 c2 c3 c4 c5 c6 lim bs nw cost AG) (k==3) key val))),(.slice none 0 0),(.pointer none),(.int .i64 (AB.state (Bz (mX c0 c1 c2 c3 c4 c5 c6 lim bs nw cost AG) (k==3) key val))),(.bool (AB.AS (Bz (mX c0 c1 c2 c3 c4 c5 c6 lim bs nw cost AG) (k==3) key val)))] 0 false)
noncomputable abbrev vc_do_2 (c0:Int) (c1:Int) (c2:Int) (c3:Int) (c4:Int) (c5:Int) (c6:Int) (lim:Int) (cost:Int) (AG:List (Bool × ByteArray × ByteArray)):AJ:=(.cells [(.int .i64 c0),(.int .i64 c1),(.int .i64 c2),(.int .i64 c3),(.int .i64 c4),(.int .i64 c5),(.int .i64 c6),(.int .i64 lim),(.pointer (some ⟨10,0,none⟩)),(.pointer (some ⟨11,0,none⟩)),(.int .i64 cost),(.slice (some ⟨12,0,(some 0)⟩) (List.length AG) 18446744073709551616),(.pointer none),(.int .i64 0),(.bool false)] 0 false)
noncomputable abbrev vc_do_3 (c0:Int) (c1:Int) (c2:Int) (c3:Int) (c4:Int) (c5:Int) (c6:Int) (lim:Int) (cost:Int):AJ:=(.cells [(.int .i64 c0),(.int .i64 c1),(.int .i64 c2),(.int .i64 c3),(.int .i64 c4),(.int .i64 c5),(.int .i64 c6),(.int .i64 lim),(.pointer (some ⟨18,0,none⟩)),(.pointer (some ⟨11,0,none⟩)),(.int .i64 cost),(.slice none 0 0),(.pointer none),(.int .i64 0),(.bool false)] 0 false)
noncomputable abbrev vc_do_4 (c0:Int) (c1:Int) (c2:Int) (c3:Int) (c4:Int) (c5:Int) (c6:Int) (lim:Int) (bs:List (ByteArray × ByteArray)) (nw:List (ByteArray × ByteArray)) (cost:Int) (AG:List (Bool × ByteArray × ByteArray)) (k:Int) (key:ByteArray) (val:ByteArray):AJ:=(.cells [(.int .i64 (Prod.fst (Cj (mX c0 c1 c2 c3 c4 c5 c6 lim bs nw cost AG) k key val))),(.string (Prod.fst (Prod.snd (Cj (mX c0 c1 c2 c3 c4 c5 c6 lim bs nw cost AG) k key val))))] 0 false)
theorem di (c0 c1 c2 c3 c4 c5 c6 lim:Int) (bs nw:List (ByteArray × ByteArray)) (cost:Int) (AG:List (Bool × ByteArray × ByteArray)) (k a b:Int) (key val:ByteArray) (e:Int) (sv:ByteArray) (Q:Value→List (Option AJ)→Prop):FD XD fV Ag Ye Q 2000 (st Ag 66 [p9,Ei k a b key val,LB e sv] (BF ⟨.leaf,9⟩ (fN c0 c1 c2 c3 c4 c5 c6 lim bs nw cost AG)))=(
 (HW k a b key val)∧(bif LI k a b key val != 0 then(bif e==2&&(ByteArray.toList sv==ByteArray.toList { data:=#[] }&&true)then(Q (.int .i64 0) [some (vc_do_2 c0 c1 c2 c3 c4 c5 c6 lim cost AG),some (.abs (AX.pack (Pk.table bs)) false),some (.abs (AX.pack (Pk.table nw)) false),some (.vec Bn AG false),none,none,none])else(Q (.int .i64 7) [some (vc_do_2 c0 c1 c2 c3 c4 c5 c6 lim cost AG),some (.abs (AX.pack (Pk.table bs)) false),some (.abs (AX.pack (Pk.table nw)) false),some (.vec Bn AG false),none,none,none]))else(bif k==7 then(bif e==0&&(ByteArray.toList sv==ByteArray.toList { data:=#[] }&&true)then(bif a==0 then(bif decide (a > 0)then(Q (.int .i64 0) [some (.cells [(.int .i64 c0),(.int .i64 c1),(.int .i64 c2),(.int .i64 c3),(.int .i64 c4),(.int .i64 c5),(.int .i64 c6),(.int .i64 lim),(.pointer (some ⟨10,0,none⟩)),(.pointer (some ⟨11,0,none⟩)),(.int .i64 cost),(.slice (some ⟨12,0,(some 0)⟩) (List.length AG) 18446744073709551616),(.pointer none),(.int .i64 1),(.bool true)] 0 false),some (.abs (AX.pack (Pk.table bs)) false),some (.abs (AX.pack (Pk.table nw)) false),some (.vec Bn AG false),none,none,none])else(Q (.int .i64 0) [some (.cells [(.int .i64 c0),(.int .i64 c1),(.int .i64 c2),(.int .i64 c3),(.int .i64 c4),(.int .i64 c5),(.int .i64 c6),(.int .i64 lim),(.pointer (some ⟨10,0,none⟩)),(.pointer (some ⟨11,0,none⟩)),(.int .i64 cost),(.slice (some ⟨12,0,(some 0)⟩) (List.length AG) 18446744073709551616),(.pointer none),(.int .i64 1),(.bool false)] 0 false),some (.abs (AX.pack (Pk.table bs)) false),some (.abs (AX.pack (Pk.table nw)) false),some (.vec Bn AG false),none,none,none]))else(bif decide (a > 0)then(Q (.int .i64 0) [some (.cells [(.int .i64 c0),(.int .i64 c1),(.int .i64 c2),(.int .i64 c3),(.int .i64 c4),(.int .i64 c5),(.int .i64 c6),(.int .i64 lim),(.pointer (some ⟨10,0,none⟩)),(.pointer (some ⟨11,0,none⟩)),(.int .i64 cost),(.slice (some ⟨12,0,(some 0)⟩) (List.length AG) 18446744073709551616),(.pointer none),(.int .i64 0),(.bool true)] 0 false),some (.abs (AX.pack (Pk.table bs)) false),some (.abs (AX.pack (Pk.table nw)) false),some (.vec Bn AG false),none,none,none])else(Q (.int .i64 0) [some (vc_do_2 c0 c1 c2 c3 c4 c5 c6 lim cost AG),some (.abs (AX.pack (Pk.table bs)) false),some (.abs (AX.pack (Pk.table nw)) false),some (.vec Bn AG false),none,none,none])))else(Q (.int .i64 7) [some (vc_do_2 c0 c1 c2 c3 c4 c5 c6 lim cost AG),some (.abs (AX.pack (Pk.table bs)) false),some (.abs (AX.pack (Pk.table nw)) false),some (.vec Bn AG false),none,none,none]))else(List.length AG=List.length (AB.AG (mX c0 c1 c2 c3 c4 c5 c6 lim bs nw cost AG))∧AE=AE)∧(A8 (AB.now (mX c0 c1 c2 c3 c4 c5 c6 lim bs nw cost AG))∧List.length (AB.now (mX c0 c1 c2 c3 c4 c5 c6 lim bs nw cost AG)) < 1000000)∧(bif Prod.snd (Prod.snd (Cj (mX c0 c1 c2 c3 c4 c5 c6 lim bs nw cost AG) k key val))then(bif ByteArray.toList sv==ByteArray.toList { data:=#[] } then(bif e==13 then(bif Prod.fst (Cj (mX c0 c1 c2 c3 c4 c5 c6 lim bs nw cost AG) k key val) != 0 then(Q (.int .i64 7) [some (vc_do_2 c0 c1 c2 c3 c4 c5 c6 lim cost AG),some (.abs (AX.pack (Pk.table (AB.base (mX c0 c1 c2 c3 c4 c5 c6 lim bs nw cost AG)))) false),some (.abs (AX.pack (Pk.table (AB.now (mX c0 c1 c2 c3 c4 c5 c6 lim bs nw cost AG)))) false),some (.vec Bn AG false),some (vc_do_4 c0 c1 c2 c3 c4 c5 c6 lim bs nw cost AG k key val),none,none])else(bif k==2 then
 (Q (.int .i64 7) [some (vc_do_2 c0 c1 c2 c3 c4 c5 c6 lim cost AG),some (.abs (AX.pack (Pk.table (AB.base (mX c0 c1 c2 c3 c4 c5 c6 lim bs nw cost AG)))) false),some (.abs (AX.pack (Pk.table (AB.now (mX c0 c1 c2 c3 c4 c5 c6 lim bs nw cost AG)))) false),some (.vec Bn AG false),some (vc_do_4 c0 c1 c2 c3 c4 c5 c6 lim bs nw cost AG k key val),none,none])else(Q (.int .i64 7) [some (vc_do_2 c0 c1 c2 c3 c4 c5 c6 lim cost AG),some (.abs (AX.pack (Pk.table (AB.base (mX c0 c1 c2 c3 c4 c5 c6 lim bs nw cost AG)))) false),some (.abs (AX.pack (Pk.table (AB.now (mX c0 c1 c2 c3 c4 c5 c6 lim bs nw cost AG)))) false),some (.vec Bn AG false),some (vc_do_4 c0 c1 c2 c3 c4 c5 c6 lim bs nw cost AG k key val),none,none])))else(bif ByteArray.toList sv==ByteArray.toList { data:=#[] } then(bif e==11 then(Q (.int .i64 0) [some (vc_do_2 c0 c1 c2 c3 c4 c5 c6 lim cost AG),some (.abs (AX.pack (Pk.table (AB.base (mX c0 c1 c2 c3 c4 c5 c6 lim bs nw cost AG)))) false),some (.abs (AX.pack (Pk.table (AB.now (mX c0 c1 c2 c3 c4 c5 c6 lim bs nw cost AG)))) false),some (.vec Bn AG false),some (vc_do_4 c0 c1 c2 c3 c4 c5 c6 lim bs nw cost AG k key val),none,none])else(bif !(e==Prod.fst (Cj (mX c0 c1 c2 c3 c4 c5 c6 lim bs nw cost AG) k key val)&&(ByteArray.toList sv==ByteArray.toList (Prod.fst (Prod.snd (Cj (mX c0 c1 c2 c3 c4 c5 c6 lim bs nw cost AG) k key val)))&&true))then(Q (.int .i64 7) [some (vc_do_2 c0 c1 c2 c3 c4 c5 c6 lim cost AG),some (.abs (AX.pack (Pk.table (AB.base (mX c0 c1 c2 c3 c4 c5 c6 lim bs nw cost AG)))) false),some (.abs (AX.pack (Pk.table (AB.now (mX c0 c1 c2 c3 c4 c5 c6 lim bs nw cost AG)))) false),some (.vec Bn AG false),some (vc_do_4 c0 c1 c2 c3 c4 c5 c6 lim bs nw cost AG k key val),none,none])else(List.length AG=List.length (AB.AG (mX c0 c1 c2 c3 c4 c5 c6 lim bs nw cost AG))∧AE=AE)∧(A8 (AB.now (mX c0 c1 c2 c3 c4 c5 c6 lim bs nw cost AG))∧List.length (AB.now (mX c0 c1 c2 c3 c4 c5 c6 lim bs nw cost AG)) < 1000000∧List.length (AB.AG (mX c0 c1 c2 c3 c4 c5 c6 lim bs nw cost AG)) < 1000000)∧(bif k==4 then(List.length (AB.now (Bz (mX c0 c1 c2 c3 c4 c5 c6 lim bs nw cost AG) (k==3) key val)) < 1000000)∧(Q (.int .i64 0) [some (vc_do_1 c0 c1 c2 c3 c4 c5 c6 lim bs nw cost AG k key val),some (.abs (AX.pack (Pk.table (AB.base (mX c0 c1 c2 c3 c4 c5 c6 lim bs nw cost AG)))) false),some (.abs (AX.pack (Pk.table (AB.now (Bz (mX c0 c1 c2 c3 c4 c5 c6 lim bs nw cost AG) (k==3) key val)))) false),none,some (vc_do_4 c0 c1 c2 c3 c4 c5 c6 lim bs nw cost AG k key val),some (.vec ([SK.bool,SK.str,SK.str]) (AB.AG (mX c0 c1 c2 c3 c4 c5 c6 lim bs nw cost AG)++[(k==3,key,val)]) false),some (.abs (AX.pack (Pk.table (AB.now (Bz (mX c0 c1 c2 c3 c4 c5 c6 lim bs nw cost AG) (k==3) key val)))) false)])else(bif k==8 then(List.length (AB.now (Bz (mX c0 c1 c2 c3 c4 c5 c6 lim bs nw cost AG) (k==3) key val)) < 1000000)∧(Q (.int .i64 0) [some (vc_do_1 c0 c1 c2 c3 c4 c5 c6 lim bs nw cost AG k key val),some (.abs (AX.pack (Pk.table (AB.base (mX c0 c1 c2 c3 c4 c5 c6 lim bs nw cost AG)))) false),some (.abs (AX.pack (Pk.table (AB.now (Bz (mX c0 c1 c2 c3 c4 c5 c6 lim bs nw cost AG) (k==3) key val)))) false),none,some (vc_do_4 c0 c1 c2 c3 c4 c5 c6 lim bs nw cost AG k key val),some (.vec ([SK.bool,SK.str,SK.str]) (AB.AG (mX c0 c1 c2 c3 c4 c5 c6 lim bs nw cost AG)++[(k==3,key,val)]) false),some (.abs (AX.pack (Pk.table (AB.now (Bz (mX c0 c1 c2 c3 c4 c5 c6 lim bs nw cost AG) (k==3) key val)))) false)])else
 (Q (.int .i64 0) [some (vc_do_0 c0 c1 c2 c3 c4 c5 c6 lim bs nw cost AG k key val),some (.abs (AX.pack (Pk.table (AB.base (mX c0 c1 c2 c3 c4 c5 c6 lim bs nw cost AG)))) false),some (.abs (AX.pack (Pk.table (AB.now (Bz (mX c0 c1 c2 c3 c4 c5 c6 lim bs nw cost AG) (k==3) key val)))) false),none,some (vc_do_4 c0 c1 c2 c3 c4 c5 c6 lim bs nw cost AG k key val),some (.vec ([SK.bool,SK.str,SK.str]) (AB.AG (mX c0 c1 c2 c3 c4 c5 c6 lim bs nw cost AG)++[(k==3,key,val)]) false),none])))))else(bif !(e==Prod.fst (Cj (mX c0 c1 c2 c3 c4 c5 c6 lim bs nw cost AG) k key val)&&(ByteArray.toList sv==ByteArray.toList (Prod.fst (Prod.snd (Cj (mX c0 c1 c2 c3 c4 c5 c6 lim bs nw cost AG) k key val)))&&true))then(Q (.int .i64 7) [some (vc_do_2 c0 c1 c2 c3 c4 c5 c6 lim cost AG),some (.abs (AX.pack (Pk.table (AB.base (mX c0 c1 c2 c3 c4 c5 c6 lim bs nw cost AG)))) false),some (.abs (AX.pack (Pk.table (AB.now (mX c0 c1 c2 c3 c4 c5 c6 lim bs nw cost AG)))) false),some (.vec Bn AG false),some (vc_do_4 c0 c1 c2 c3 c4 c5 c6 lim bs nw cost AG k key val),none,none])else(List.length AG=List.length (AB.AG (mX c0 c1 c2 c3 c4 c5 c6 lim bs nw cost AG))∧AE=AE)∧(A8 (AB.now (mX c0 c1 c2 c3 c4 c5 c6 lim bs nw cost AG))∧List.length (AB.now (mX c0 c1 c2 c3 c4 c5 c6 lim bs nw cost AG)) < 1000000∧List.length (AB.AG (mX c0 c1 c2 c3 c4 c5 c6 lim bs nw cost AG)) < 1000000)∧(bif k==4 then(List.length (AB.now (Bz (mX c0 c1 c2 c3 c4 c5 c6 lim bs nw cost AG) (k==3) key val)) < 1000000)∧(Q (.int .i64 0) [some (vc_do_1 c0 c1 c2 c3 c4 c5 c6 lim bs nw cost AG k key val),some (.abs (AX.pack (Pk.table (AB.base (mX c0 c1 c2 c3 c4 c5 c6 lim bs nw cost AG)))) false),some (.abs (AX.pack (Pk.table (AB.now (Bz (mX c0 c1 c2 c3 c4 c5 c6 lim bs nw cost AG) (k==3) key val)))) false),none,some (vc_do_4 c0 c1 c2 c3 c4 c5 c6 lim bs nw cost AG k key val),some (.vec ([SK.bool,SK.str,SK.str]) (AB.AG (mX c0 c1 c2 c3 c4 c5 c6 lim bs nw cost AG)++[(k==3,key,val)]) false),some (.abs (AX.pack (Pk.table (AB.now (Bz (mX c0 c1 c2 c3 c4 c5 c6 lim bs nw cost AG) (k==3) key val)))) false)])else(bif k==8 then(List.length (AB.now (Bz (mX c0 c1 c2 c3 c4 c5 c6 lim bs nw cost AG) (k==3) key val)) < 1000000)∧(Q (.int .i64 0) [some (vc_do_1 c0 c1 c2 c3 c4 c5 c6 lim bs nw cost AG k key val),some (.abs (AX.pack (Pk.table (AB.base (mX c0 c1 c2 c3 c4 c5 c6 lim bs nw cost AG)))) false),some (.abs (AX.pack (Pk.table (AB.now (Bz (mX c0 c1 c2 c3 c4 c5 c6 lim bs nw cost AG) (k==3) key val)))) false),none,some (vc_do_4 c0 c1 c2 c3 c4 c5 c6 lim bs nw cost AG k key val),some (.vec ([SK.bool,SK.str,SK.str]) (AB.AG (mX c0 c1 c2 c3 c4 c5 c6 lim bs nw cost AG)++[(k==3,key,val)]) false),some (.abs (AX.pack (Pk.table (AB.now (Bz (mX c0 c1 c2 c3 c4 c5 c6 lim bs nw cost AG) (k==3) key val)))) false)])else(Q (.int .i64 0) [some (vc_do_0 c0 c1 c2 c3 c4 c5 c6 lim bs nw cost AG k key val),some (.abs (AX.pack (Pk.table (AB.base (mX c0 c1 c2 c3 c4 c5 c6 lim bs nw cost AG)))) false),some (.abs (AX.pack (Pk.table (AB.now (Bz (mX c0 c1 c2 c3 c4 c5 c6 lim bs nw cost AG) (k==3) key val)))) false),none,some (vc_do_4 c0 c1 c2 c3 c4 c5 c6 lim bs nw cost AG k key val),some (.vec ([SK.bool,SK.str,SK.str]) (AB.AG (mX c0 c1 c2 c3 c4 c5 c6 lim bs nw cost AG)++[(k==3,key,val)]) false),none]))))))else(bif ByteArray.toList sv==ByteArray.toList { data:=#[] } then(bif e==11 then(Q (.int .i64 0) [some (vc_do_2 c0 c1 c2 c3 c4 c5 c6 lim cost AG),some (.abs (AX.pack (Pk.table (AB.base (mX c0 c1 c2 c3 c4 c5 c6 lim bs nw cost AG)))) false),some (.abs (AX.pack (Pk.table (AB.now (mX c0 c1 c2 c3 c4 c5 c6 lim bs nw cost AG)))) false),some (.vec Bn AG false),some (vc_do_4 c0 c1 c2 c3 c4 c5 c6 lim bs nw cost AG k key val),none,none])else
 (bif !(e==Prod.fst (Cj (mX c0 c1 c2 c3 c4 c5 c6 lim bs nw cost AG) k key val)&&(ByteArray.toList sv==ByteArray.toList (Prod.fst (Prod.snd (Cj (mX c0 c1 c2 c3 c4 c5 c6 lim bs nw cost AG) k key val)))&&true))then(Q (.int .i64 7) [some (vc_do_2 c0 c1 c2 c3 c4 c5 c6 lim cost AG),some (.abs (AX.pack (Pk.table (AB.base (mX c0 c1 c2 c3 c4 c5 c6 lim bs nw cost AG)))) false),some (.abs (AX.pack (Pk.table (AB.now (mX c0 c1 c2 c3 c4 c5 c6 lim bs nw cost AG)))) false),some (.vec Bn AG false),some (vc_do_4 c0 c1 c2 c3 c4 c5 c6 lim bs nw cost AG k key val),none,none])else(List.length AG=List.length (AB.AG (mX c0 c1 c2 c3 c4 c5 c6 lim bs nw cost AG))∧AE=AE)∧(A8 (AB.now (mX c0 c1 c2 c3 c4 c5 c6 lim bs nw cost AG))∧List.length (AB.now (mX c0 c1 c2 c3 c4 c5 c6 lim bs nw cost AG)) < 1000000∧List.length (AB.AG (mX c0 c1 c2 c3 c4 c5 c6 lim bs nw cost AG)) < 1000000)∧(bif k==4 then(List.length (AB.now (Bz (mX c0 c1 c2 c3 c4 c5 c6 lim bs nw cost AG) (k==3) key val)) < 1000000)∧(Q (.int .i64 0) [some (vc_do_1 c0 c1 c2 c3 c4 c5 c6 lim bs nw cost AG k key val),some (.abs (AX.pack (Pk.table (AB.base (mX c0 c1 c2 c3 c4 c5 c6 lim bs nw cost AG)))) false),some (.abs (AX.pack (Pk.table (AB.now (Bz (mX c0 c1 c2 c3 c4 c5 c6 lim bs nw cost AG) (k==3) key val)))) false),none,some (vc_do_4 c0 c1 c2 c3 c4 c5 c6 lim bs nw cost AG k key val),some (.vec ([SK.bool,SK.str,SK.str]) (AB.AG (mX c0 c1 c2 c3 c4 c5 c6 lim bs nw cost AG)++[(k==3,key,val)]) false),some (.abs (AX.pack (Pk.table (AB.now (Bz (mX c0 c1 c2 c3 c4 c5 c6 lim bs nw cost AG) (k==3) key val)))) false)])else(bif k==8 then(List.length (AB.now (Bz (mX c0 c1 c2 c3 c4 c5 c6 lim bs nw cost AG) (k==3) key val)) < 1000000)∧(Q (.int .i64 0) [some (vc_do_1 c0 c1 c2 c3 c4 c5 c6 lim bs nw cost AG k key val),some (.abs (AX.pack (Pk.table (AB.base (mX c0 c1 c2 c3 c4 c5 c6 lim bs nw cost AG)))) false),some (.abs (AX.pack (Pk.table (AB.now (Bz (mX c0 c1 c2 c3 c4 c5 c6 lim bs nw cost AG) (k==3) key val)))) false),none,some (vc_do_4 c0 c1 c2 c3 c4 c5 c6 lim bs nw cost AG k key val),some (.vec ([SK.bool,SK.str,SK.str]) (AB.AG (mX c0 c1 c2 c3 c4 c5 c6 lim bs nw cost AG)++[(k==3,key,val)]) false),some (.abs (AX.pack (Pk.table (AB.now (Bz (mX c0 c1 c2 c3 c4 c5 c6 lim bs nw cost AG) (k==3) key val)))) false)])else(Q (.int .i64 0) [some (vc_do_0 c0 c1 c2 c3 c4 c5 c6 lim bs nw cost AG k key val),some (.abs (AX.pack (Pk.table (AB.base (mX c0 c1 c2 c3 c4 c5 c6 lim bs nw cost AG)))) false),some (.abs (AX.pack (Pk.table (AB.now (Bz (mX c0 c1 c2 c3 c4 c5 c6 lim bs nw cost AG) (k==3) key val)))) false),none,some (vc_do_4 c0 c1 c2 c3 c4 c5 c6 lim bs nw cost AG k key val),some (.vec ([SK.bool,SK.str,SK.str]) (AB.AG (mX c0 c1 c2 c3 c4 c5 c6 lim bs nw cost AG)++[(k==3,key,val)]) false),none])))))else(bif !(e==Prod.fst (Cj (mX c0 c1 c2 c3 c4 c5 c6 lim bs nw cost AG) k key val)&&(ByteArray.toList sv==ByteArray.toList (Prod.fst (Prod.snd (Cj (mX c0 c1 c2 c3 c4 c5 c6 lim bs nw cost AG) k key val)))&&true))then(Q (.int .i64 7) [some (vc_do_2 c0 c1 c2 c3 c4 c5 c6 lim cost AG),some (.abs (AX.pack (Pk.table (AB.base (mX c0 c1 c2 c3 c4 c5 c6 lim bs nw cost AG)))) false),some (.abs (AX.pack (Pk.table (AB.now (mX c0 c1 c2 c3 c4 c5 c6 lim bs nw cost AG)))) false),some (.vec Bn AG false),some (vc_do_4 c0 c1 c2 c3 c4 c5 c6 lim bs nw cost AG k key val),none,none])else(List.length AG=List.length (AB.AG (mX c0 c1 c2 c3 c4 c5 c6 lim bs nw cost AG))∧AE=AE)∧(A8 (AB.now (mX c0 c1 c2 c3 c4 c5 c6 lim bs nw cost AG))∧List.length (AB.now (mX c0 c1 c2 c3 c4 c5 c6 lim bs nw cost AG)) < 1000000∧List.length (AB.AG (mX c0 c1 c2 c3 c4 c5 c6 lim bs nw cost AG)) < 1000000)∧(bif k==4 then
 (List.length (AB.now (Bz (mX c0 c1 c2 c3 c4 c5 c6 lim bs nw cost AG) (k==3) key val)) < 1000000)∧(Q (.int .i64 0) [some (vc_do_1 c0 c1 c2 c3 c4 c5 c6 lim bs nw cost AG k key val),some (.abs (AX.pack (Pk.table (AB.base (mX c0 c1 c2 c3 c4 c5 c6 lim bs nw cost AG)))) false),some (.abs (AX.pack (Pk.table (AB.now (Bz (mX c0 c1 c2 c3 c4 c5 c6 lim bs nw cost AG) (k==3) key val)))) false),none,some (vc_do_4 c0 c1 c2 c3 c4 c5 c6 lim bs nw cost AG k key val),some (.vec ([SK.bool,SK.str,SK.str]) (AB.AG (mX c0 c1 c2 c3 c4 c5 c6 lim bs nw cost AG)++[(k==3,key,val)]) false),some (.abs (AX.pack (Pk.table (AB.now (Bz (mX c0 c1 c2 c3 c4 c5 c6 lim bs nw cost AG) (k==3) key val)))) false)])else(bif k==8 then(List.length (AB.now (Bz (mX c0 c1 c2 c3 c4 c5 c6 lim bs nw cost AG) (k==3) key val)) < 1000000)∧(Q (.int .i64 0) [some (vc_do_1 c0 c1 c2 c3 c4 c5 c6 lim bs nw cost AG k key val),some (.abs (AX.pack (Pk.table (AB.base (mX c0 c1 c2 c3 c4 c5 c6 lim bs nw cost AG)))) false),some (.abs (AX.pack (Pk.table (AB.now (Bz (mX c0 c1 c2 c3 c4 c5 c6 lim bs nw cost AG) (k==3) key val)))) false),none,some (vc_do_4 c0 c1 c2 c3 c4 c5 c6 lim bs nw cost AG k key val),some (.vec ([SK.bool,SK.str,SK.str]) (AB.AG (mX c0 c1 c2 c3 c4 c5 c6 lim bs nw cost AG)++[(k==3,key,val)]) false),some (.abs (AX.pack (Pk.table (AB.now (Bz (mX c0 c1 c2 c3 c4 c5 c6 lim bs nw cost AG) (k==3) key val)))) false)])else(Q (.int .i64 0) [some (vc_do_0 c0 c1 c2 c3 c4 c5 c6 lim bs nw cost AG k key val),some (.abs (AX.pack (Pk.table (AB.base (mX c0 c1 c2 c3 c4 c5 c6 lim bs nw cost AG)))) false),some (.abs (AX.pack (Pk.table (AB.now (Bz (mX c0 c1 c2 c3 c4 c5 c6 lim bs nw cost AG) (k==3) key val)))) false),none,some (vc_do_4 c0 c1 c2 c3 c4 c5 c6 lim bs nw cost AG k key val),some (.vec ([SK.bool,SK.str,SK.str]) (AB.AG (mX c0 c1 c2 c3 c4 c5 c6 lim bs nw cost AG)++[(k==3,key,val)]) false),none]))))))else(bif ByteArray.toList sv==ByteArray.toList { data:=#[] } then(bif e==13 then(bif Prod.fst (Cj (mX c0 c1 c2 c3 c4 c5 c6 lim bs nw cost AG) k key val) != 0 then(Q (.int .i64 7) [some (vc_do_2 c0 c1 c2 c3 c4 c5 c6 lim cost AG),some (.abs (AX.pack (Pk.table (AB.base (mX c0 c1 c2 c3 c4 c5 c6 lim bs nw cost AG)))) false),some (.abs (AX.pack (Pk.table (AB.now (mX c0 c1 c2 c3 c4 c5 c6 lim bs nw cost AG)))) false),some (.vec Bn AG false),none,none,none])else(bif k==2 then(Q (.int .i64 7) [some (vc_do_2 c0 c1 c2 c3 c4 c5 c6 lim cost AG),some (.abs (AX.pack (Pk.table (AB.base (mX c0 c1 c2 c3 c4 c5 c6 lim bs nw cost AG)))) false),some (.abs (AX.pack (Pk.table (AB.now (mX c0 c1 c2 c3 c4 c5 c6 lim bs nw cost AG)))) false),some (.vec Bn AG false),none,none,none])else(Q (.int .i64 7) [some (vc_do_2 c0 c1 c2 c3 c4 c5 c6 lim cost AG),some (.abs (AX.pack (Pk.table (AB.base (mX c0 c1 c2 c3 c4 c5 c6 lim bs nw cost AG)))) false),some (.abs (AX.pack (Pk.table (AB.now (mX c0 c1 c2 c3 c4 c5 c6 lim bs nw cost AG)))) false),some (.vec Bn AG false),none,none,none])))else(bif ByteArray.toList sv==ByteArray.toList { data:=#[] } then(bif e==11 then(Q (.int .i64 7) [some (vc_do_2 c0 c1 c2 c3 c4 c5 c6 lim cost AG),some (.abs (AX.pack (Pk.table (AB.base (mX c0 c1 c2 c3 c4 c5 c6 lim bs nw cost AG)))) false),some (.abs (AX.pack (Pk.table (AB.now (mX c0 c1 c2 c3 c4 c5 c6 lim bs nw cost AG)))) false),some (.vec Bn AG false),none,none,none])else(bif !(e==Prod.fst (Cj (mX c0 c1 c2 c3 c4 c5 c6 lim bs nw cost AG) k key val)&&(ByteArray.toList sv==ByteArray.toList (Prod.fst (Prod.snd (Cj (mX c0 c1 c2 c3 c4 c5 c6 lim bs nw cost AG) k key val)))&&true))then
 (Q (.int .i64 7) [some (vc_do_2 c0 c1 c2 c3 c4 c5 c6 lim cost AG),some (.abs (AX.pack (Pk.table (AB.base (mX c0 c1 c2 c3 c4 c5 c6 lim bs nw cost AG)))) false),some (.abs (AX.pack (Pk.table (AB.now (mX c0 c1 c2 c3 c4 c5 c6 lim bs nw cost AG)))) false),some (.vec Bn AG false),none,none,none])else(bif k==4 then(List.length (AB.now (mX c0 c1 c2 c3 c4 c5 c6 lim bs nw cost AG)) < 1000000)∧(Q (.int .i64 0) [some (vc_do_3 c0 c1 c2 c3 c4 c5 c6 lim cost),some (.abs (AX.pack (Pk.table (AB.base (mX c0 c1 c2 c3 c4 c5 c6 lim bs nw cost AG)))) false),some (.abs (AX.pack (Pk.table (AB.now (mX c0 c1 c2 c3 c4 c5 c6 lim bs nw cost AG)))) false),some (.vec Bn AG false),some (.abs (AX.pack (Pk.table (AB.now (mX c0 c1 c2 c3 c4 c5 c6 lim bs nw cost AG)))) false),none,none])else(bif k==8 then(List.length (AB.now (mX c0 c1 c2 c3 c4 c5 c6 lim bs nw cost AG)) < 1000000)∧(Q (.int .i64 0) [some (vc_do_3 c0 c1 c2 c3 c4 c5 c6 lim cost),some (.abs (AX.pack (Pk.table (AB.base (mX c0 c1 c2 c3 c4 c5 c6 lim bs nw cost AG)))) false),some (.abs (AX.pack (Pk.table (AB.now (mX c0 c1 c2 c3 c4 c5 c6 lim bs nw cost AG)))) false),some (.vec Bn AG false),some (.abs (AX.pack (Pk.table (AB.now (mX c0 c1 c2 c3 c4 c5 c6 lim bs nw cost AG)))) false),none,none])else(Q (.int .i64 0) [some (vc_do_2 c0 c1 c2 c3 c4 c5 c6 lim cost AG),some (.abs (AX.pack (Pk.table (AB.base (mX c0 c1 c2 c3 c4 c5 c6 lim bs nw cost AG)))) false),some (.abs (AX.pack (Pk.table (AB.now (mX c0 c1 c2 c3 c4 c5 c6 lim bs nw cost AG)))) false),some (.vec Bn AG false),none,none,none])))))else(bif !(e==Prod.fst (Cj (mX c0 c1 c2 c3 c4 c5 c6 lim bs nw cost AG) k key val)&&(ByteArray.toList sv==ByteArray.toList (Prod.fst (Prod.snd (Cj (mX c0 c1 c2 c3 c4 c5 c6 lim bs nw cost AG) k key val)))&&true))then(Q (.int .i64 7) [some (vc_do_2 c0 c1 c2 c3 c4 c5 c6 lim cost AG),some (.abs (AX.pack (Pk.table (AB.base (mX c0 c1 c2 c3 c4 c5 c6 lim bs nw cost AG)))) false),some (.abs (AX.pack (Pk.table (AB.now (mX c0 c1 c2 c3 c4 c5 c6 lim bs nw cost AG)))) false),some (.vec Bn AG false),none,none,none])else(bif k==4 then(List.length (AB.now (mX c0 c1 c2 c3 c4 c5 c6 lim bs nw cost AG)) < 1000000)∧(Q (.int .i64 0) [some (vc_do_3 c0 c1 c2 c3 c4 c5 c6 lim cost),some (.abs (AX.pack (Pk.table (AB.base (mX c0 c1 c2 c3 c4 c5 c6 lim bs nw cost AG)))) false),some (.abs (AX.pack (Pk.table (AB.now (mX c0 c1 c2 c3 c4 c5 c6 lim bs nw cost AG)))) false),some (.vec Bn AG false),some (.abs (AX.pack (Pk.table (AB.now (mX c0 c1 c2 c3 c4 c5 c6 lim bs nw cost AG)))) false),none,none])else(bif k==8 then(List.length (AB.now (mX c0 c1 c2 c3 c4 c5 c6 lim bs nw cost AG)) < 1000000)∧(Q (.int .i64 0) [some (vc_do_3 c0 c1 c2 c3 c4 c5 c6 lim cost),some (.abs (AX.pack (Pk.table (AB.base (mX c0 c1 c2 c3 c4 c5 c6 lim bs nw cost AG)))) false),some (.abs (AX.pack (Pk.table (AB.now (mX c0 c1 c2 c3 c4 c5 c6 lim bs nw cost AG)))) false),some (.vec Bn AG false),some (.abs (AX.pack (Pk.table (AB.now (mX c0 c1 c2 c3 c4 c5 c6 lim bs nw cost AG)))) false),none,none])else(Q (.int .i64 0) [some (vc_do_2 c0 c1 c2 c3 c4 c5 c6 lim cost AG),some (.abs (AX.pack (Pk.table (AB.base (mX c0 c1 c2 c3 c4 c5 c6 lim bs nw cost AG)))) false),some (.abs (AX.pack (Pk.table (AB.now (mX c0 c1 c2 c3 c4 c5 c6 lim bs nw cost AG)))) false),some (.vec Bn AG false),none,none,none]))))))else(bif ByteArray.toList sv==ByteArray.toList { data:=#[] } then(bif e==11 then(Q (.int .i64 7) [some (vc_do_2 c0 c1 c2 c3 c4 c5 c6 lim cost AG),some (.abs (AX.pack (Pk.table (AB.base (mX c0 c1 c2 c3 c4 c5 c6 lim bs nw cost AG)))) false),some (.abs (AX.pack (Pk.table (AB.now (mX c0 c1 c2 c3 c4 c5 c6 lim bs nw cost AG)))) false),some (.vec Bn AG false),none,none,none])else
 (bif !(e==Prod.fst (Cj (mX c0 c1 c2 c3 c4 c5 c6 lim bs nw cost AG) k key val)&&(ByteArray.toList sv==ByteArray.toList (Prod.fst (Prod.snd (Cj (mX c0 c1 c2 c3 c4 c5 c6 lim bs nw cost AG) k key val)))&&true))then(Q (.int .i64 7) [some (vc_do_2 c0 c1 c2 c3 c4 c5 c6 lim cost AG),some (.abs (AX.pack (Pk.table (AB.base (mX c0 c1 c2 c3 c4 c5 c6 lim bs nw cost AG)))) false),some (.abs (AX.pack (Pk.table (AB.now (mX c0 c1 c2 c3 c4 c5 c6 lim bs nw cost AG)))) false),some (.vec Bn AG false),none,none,none])else(bif k==4 then(List.length (AB.now (mX c0 c1 c2 c3 c4 c5 c6 lim bs nw cost AG)) < 1000000)∧(Q (.int .i64 0) [some (vc_do_3 c0 c1 c2 c3 c4 c5 c6 lim cost),some (.abs (AX.pack (Pk.table (AB.base (mX c0 c1 c2 c3 c4 c5 c6 lim bs nw cost AG)))) false),some (.abs (AX.pack (Pk.table (AB.now (mX c0 c1 c2 c3 c4 c5 c6 lim bs nw cost AG)))) false),some (.vec Bn AG false),some (.abs (AX.pack (Pk.table (AB.now (mX c0 c1 c2 c3 c4 c5 c6 lim bs nw cost AG)))) false),none,none])else(bif k==8 then(List.length (AB.now (mX c0 c1 c2 c3 c4 c5 c6 lim bs nw cost AG)) < 1000000)∧(Q (.int .i64 0) [some (vc_do_3 c0 c1 c2 c3 c4 c5 c6 lim cost),some (.abs (AX.pack (Pk.table (AB.base (mX c0 c1 c2 c3 c4 c5 c6 lim bs nw cost AG)))) false),some (.abs (AX.pack (Pk.table (AB.now (mX c0 c1 c2 c3 c4 c5 c6 lim bs nw cost AG)))) false),some (.vec Bn AG false),some (.abs (AX.pack (Pk.table (AB.now (mX c0 c1 c2 c3 c4 c5 c6 lim bs nw cost AG)))) false),none,none])else(Q (.int .i64 0) [some (vc_do_2 c0 c1 c2 c3 c4 c5 c6 lim cost AG),some (.abs (AX.pack (Pk.table (AB.base (mX c0 c1 c2 c3 c4 c5 c6 lim bs nw cost AG)))) false),some (.abs (AX.pack (Pk.table (AB.now (mX c0 c1 c2 c3 c4 c5 c6 lim bs nw cost AG)))) false),some (.vec Bn AG false),none,none,none])))))else(bif !(e==Prod.fst (Cj (mX c0 c1 c2 c3 c4 c5 c6 lim bs nw cost AG) k key val)&&(ByteArray.toList sv==ByteArray.toList (Prod.fst (Prod.snd (Cj (mX c0 c1 c2 c3 c4 c5 c6 lim bs nw cost AG) k key val)))&&true))then(Q (.int .i64 7) [some (vc_do_2 c0 c1 c2 c3 c4 c5 c6 lim cost AG),some (.abs (AX.pack (Pk.table (AB.base (mX c0 c1 c2 c3 c4 c5 c6 lim bs nw cost AG)))) false),some (.abs (AX.pack (Pk.table (AB.now (mX c0 c1 c2 c3 c4 c5 c6 lim bs nw cost AG)))) false),some (.vec Bn AG false),none,none,none])else(bif k==4 then(List.length (AB.now (mX c0 c1 c2 c3 c4 c5 c6 lim bs nw cost AG)) < 1000000)∧(Q (.int .i64 0) [some (vc_do_3 c0 c1 c2 c3 c4 c5 c6 lim cost),some (.abs (AX.pack (Pk.table (AB.base (mX c0 c1 c2 c3 c4 c5 c6 lim bs nw cost AG)))) false),some (.abs (AX.pack (Pk.table (AB.now (mX c0 c1 c2 c3 c4 c5 c6 lim bs nw cost AG)))) false),some (.vec Bn AG false),some (.abs (AX.pack (Pk.table (AB.now (mX c0 c1 c2 c3 c4 c5 c6 lim bs nw cost AG)))) false),none,none])else(bif k==8 then(List.length (AB.now (mX c0 c1 c2 c3 c4 c5 c6 lim bs nw cost AG)) < 1000000)∧(Q (.int .i64 0) [some (vc_do_3 c0 c1 c2 c3 c4 c5 c6 lim cost),some (.abs (AX.pack (Pk.table (AB.base (mX c0 c1 c2 c3 c4 c5 c6 lim bs nw cost AG)))) false),some (.abs (AX.pack (Pk.table (AB.now (mX c0 c1 c2 c3 c4 c5 c6 lim bs nw cost AG)))) false),some (.vec Bn AG false),some (.abs (AX.pack (Pk.table (AB.now (mX c0 c1 c2 c3 c4 c5 c6 lim bs nw cost AG)))) false),none,none])else(Q (.int .i64 0) [some (vc_do_2 c0 c1 c2 c3 c4 c5 c6 lim cost AG),some (.abs (AX.pack (Pk.table (AB.base (mX c0 c1 c2 c3 c4 c5 c6 lim bs nw cost AG)))) false),some (.abs (AX.pack (Pk.table (AB.now (mX c0 c1 c2 c3 c4 c5 c6 lim bs nw cost AG)))) false),some (.vec Bn AG false),none,none,none])))))))))):=by kernel_rfl
end Go.AD

set_option maxRecDepth 1000000
namespace Go.AD
open Go.Proofs
theorem ck:El XD fV:=An (Td (by kernel_rfl)) (An (fun _ _ _ h=>Ap (by kernel_rfl) h) (An (fun _ _ _ h=>Ap (by kernel_rfl) h) (An (fun _ _ _ h=>Ap (by kernel_rfl) h) (An (fun _ _ _ h=>Ap (by kernel_rfl) h)
 (An (fun _ _ _ h=>Ap (by kernel_rfl) h) (An (fun _ _ _ h=>Ap (by kernel_rfl) h) (An (fun _ _ _ h=>Ap (by kernel_rfl) h) (An (fun _ _ _ h=>Ap (by kernel_rfl) h) (Ax _)))))))))
theorem fU:Au Tryz.prog AM fk:=Au.cons TU (Au.cons Wn (Au.cons XQ allM))
def IF (s:ByteArray):Bool:=ByteArray.toList s==ByteArray.toList { data:=#[] }
def Rp (m:AB):AB:={ m with base:=m.now,AG:=[] }
def Ji (k:Int) (m:AB):AB:=bif k==4 then Rp m else bif k==8 then Rp m else m
noncomputable def NM (m:AB) (k a b:Int) (key val:ByteArray) (e:Int) (sv:ByteArray):Option AB:=
 bif LI k a b key val != 0 then(bif e==2&&(IF sv&&true)then some m else none)
 else bif k==7 then none
 else bif (Cj m k key val).2.2 then
  (bif IF sv&&e==13 then none else bif IF sv&&e==11 then some m else bif !(e==(Cj m k key val).1&&(ByteArray.toList sv==ByteArray.toList (Cj m k key val).2.1&&true))then none else some (Ji k (Bz m (k==3) key val)))
 else(bif IF sv&&e==13 then none else bif IF sv&&e==11 then none else bif !(e==(Cj m k key val).1&&(ByteArray.toList sv==ByteArray.toList (Cj m k key val).2.1&&true))then none else some (Ji k m))
inductive ZK (m:AB):List (Option AJ)→Prop where
 | same (a b c:Option AJ):ZK m [some (.cells (BJ m 10 11 (.slice (some ⟨12,0,some 0⟩) m.AG.length 18446744073709551616)) 0 false),some (Ch m.base),some (Ch m.now),some (.vec Bn m.AG false),a,b,c]
 | acc (a b c:Option AJ) (n:Nat) (h:n=m.AG.length):ZK m [some (.cells (BJ m 10 11 (.slice (some ⟨19,0,some 0⟩) n 18446744073709551616)) 0 false),some (Ch m.base),some (Ch m.now),a,b,some (.vec Bn m.AG false),c]
 | ai (a b c d:Option AJ) (h:m.AG=[]):ZK m [some (.cells (BJ m 20 11 (.slice none 0 0)) 0 false),a,some (Ch m.now),b,c,d,some (Ch m.base)]
 | au (a b c d:Option AJ) (h:m.AG=[]):ZK m [some (.cells (BJ m 18 11 (.slice none 0 0)) 0 false),a,some (Ch m.now),b,some (Ch m.base),c,d]
def ep (m:AB) (r:Option AB) (v:Value) (os:List (Option AJ)):Prop:=(r=none∧v= .int .i64 7∧ZK m os)∨∃m',r=some m'∧v= .int .i64 0∧ZK m' os
theorem fI {m:AB} {r:Option AB} {os:List (Option AJ)} (h:r=none) (hd:ZK m os):ep m r (.int .i64 7) os:= .inl ⟨h,rfl,hd⟩
theorem eR {m:AB} {r:Option AB} {os:List (Option AJ)} (m':AB) (h:r=some m') (hd:ZK m' os):ep m r (.int .i64 0) os:= .inr ⟨m',h,rfl,hd⟩
theorem YX (m:AB) (del:Bool) (key val:ByteArray) (h:m.now.length < 900000):(Bz m del key val).now.length < 1000000:=by
 have h1:(EW m.now key val).length≤m.now.length+1:=by
  unfold EW
  split
  ·rw[List.length_set];omega
  ·simp only[List.length_append,List.length_take,List.length_drop,List.length_cons,List.length_nil];omega
 have h2:(Ej m.now key).length≤m.now.length:=by
  unfold Ej
  split
  ·simp only[List.length_append,List.length_take,List.length_drop];omega
  ·exact Nat.le_refl _
 cases del
 ·show(EW m.now key val).length < _;omega
 ·show(Ej m.now key).length < _;omega
theorem dh (c0 c1 c2 c3 c4 c5 c6 lim:Int) (bs nw:List (ByteArray × ByteArray)) (cost:Int) (AG:List (Bool × ByteArray × ByteArray)) (k a b:Int) (key val:ByteArray) (e:Int) (sv:ByteArray)
 (hck:HW k a b key val) (hs:A8 nw) (hn:nw.length < 900000) (hu:AG.length < 1000000) (hcr:(k==7)=true→(e==0&&(ByteArray.toList sv==ByteArray.toList { data:=#[] }&&true))=false):
 FD XD fV Ag Ye (ep (mX c0 c1 c2 c3 c4 c5 c6 lim bs nw cost AG) (NM (mX c0 c1 c2 c3 c4 c5 c6 lim bs nw cost AG) k a b key val e sv)) 2000 (st Ag 66 [p9,Ei k a b key val,LB e sv] (BF ⟨.leaf,9⟩ (fN c0 c1 c2 c3 c4 c5 c6 lim bs nw cost AG))):=by
 have hn1:nw.length < 1000000:=by omega
 rw[di]
 refine⟨hck,?_⟩
 refine As (fun _=>As (fun _=>?_) (fun _=>?_)) (fun _=>As (fun h7=>?_) (fun _=>?_))
 ·exact eR _ (by unfold NM Ji IF;simp only[*,cond_true]<;>rfl) (.same _ _ _)
 ·exact fI (by unfold NM Ji IF;simp only[*,cond_true,cond_false]<;>rfl) (.same _ _ _)
 ·have h7e:=hcr h7
  rw[h7e]
  exact fI (by unfold NM Ji IF;simp only[*,cond_true,cond_false]<;>rfl) (.same _ _ _)
 ·refine⟨⟨rfl,rfl⟩,⟨hs,hn1⟩,?_⟩
  refine As (fun _=>?_) (fun _=>?_)
  all_goals
   repeat' first
    | exact fI (by unfold NM Ji IF;simp only[*,cond_true,cond_false]<;>rfl) (.same _ _ _)
    | exact eR (mX c0 c1 c2 c3 c4 c5 c6 lim bs nw cost AG) (by unfold NM Ji IF;simp only[*,cond_true,cond_false]<;>rfl) (.same _ _ _)
    | exact eR (Bz (mX c0 c1 c2 c3 c4 c5 c6 lim bs nw cost AG) (k==3) key val) (by unfold NM Ji IF;simp only[*,cond_true,cond_false]<;>rfl) (.acc _ _ _ _ (by simp[Bz]))
    | exact eR (Rp (mX c0 c1 c2 c3 c4 c5 c6 lim bs nw cost AG)) (by unfold NM Ji IF;simp only[*,cond_true,cond_false]<;>rfl) (.au _ _ _ _ rfl)
    | exact eR (Rp (Bz (mX c0 c1 c2 c3 c4 c5 c6 lim bs nw cost AG) (k==3) key val)) (by unfold NM Ji IF;simp only[*,cond_true,cond_false]<;>rfl) (.ai _ _ _ _ rfl)
    | (exfalso;simp_all only[Bool.true_eq_false,Bool.false_eq_true];done)
    | refine As (fun _=>?_) (fun _=>?_)
    | apply And.intro (by first | exact rfl | exact⟨rfl,rfl⟩ | exact⟨hs,hn1⟩ | exact⟨hs,hn1,hu⟩ | exact hn1 | exact YX _ _ _ _ hn)
end Go.AD

set_option maxRecDepth 1000000
namespace Go.AD
open Go.Proofs
theorem FO:(18446744073709551616:Nat)=AE:=by unfold AE;rfl
noncomputable def fT:Fg:=
 ⟨fun m rest=>∃k a b key val e sv,rest=[Ei k a b key val,LB e sv]∧m.cfg.length=7∧m.state=0∧m.AS=false∧HW k a b key val∧A8 m.now∧m.now.length < 900000∧m.AG.length < 1000000∧((k==7)=true→(e==0&&(ByteArray.toList sv==ByteArray.toList { data:=#[] }&&true))=false),
  fun m rest=>match rest with
  | [.agg ⟨[.int .i64 k,.int .i64 a,.int .i64 b,.string key,.string val]⟩,.agg ⟨[.int .i64 e,.string sv]⟩]=> .int .i64 (bif (NM m k a b key val e sv).isSome then 0 else 7)
  | _=>Be,
  fun m rest=>match rest with
  | [.agg ⟨[.int .i64 k,.int .i64 a,.int .i64 b,.string key,.string val]⟩,.agg ⟨[.int .i64 e,.string sv]⟩]=>(NM m k a b key val e sv).getD m
  | _=>m⟩
theorem dQ {l:List Int} (h:l.length=7):∃c0 c1 c2 c3 c4 c5 c6,l=[c0,c1,c2,c3,c4,c5,c6]:=by
 match l,h with
 | [c0,c1,c2,c3,c4,c5,c6],_=>exact⟨c0,c1,c2,c3,c4,c5,c6,rfl⟩
theorem Vh {D:Nat→Prop} {v:Value} {H:AA} {m:AB} (hD:D 9) (h:ZK m [H.get 9,H.get 10,H.get 11,H.get 12,H.get 18,H.get 19,H.get 20]):
 ∃v2 H2,(∀(base:Env) (W0:World) (μ:Ad) (W:World) (v':Value),(∀b,D b→∃T,μ b=some T)→AH μ v v'→AP base W0 μ H W→∃μ2,μ.le μ2∧AP base W0 μ2 H2 W∧AH μ2 v2 v')∧v2=v∧FK H2 m:=by
 generalize hos:[H.get 9,H.get 10,H.get 11,H.get 12,H.get 18,H.get 19,H.get 20]=os at h
 cases h with
 | same a b c=>
  simp only[List.cons.injEq,and_true]at hos
  obtain⟨g9,Kj,g11,g12,_⟩:=hos
  exact⟨v,H,fun base W0 μ W v' _ hv hH=>⟨μ,Ad.le_refl _,hH,hv⟩,rfl,10,11,12,by decide,by decide,by decide,by decide,by decide,by decide,Kj,g11,by rw[g9,FO],g12⟩
 | acc a b c n hn=>
  subst hn
  simp only[List.cons.injEq,and_true]at hos
  obtain⟨g9,Kj,g11,_,_,g19,_⟩:=hos
  exact⟨v,H,fun base W0 μ W v' _ hv hH=>⟨μ,Ad.le_refl _,hH,hv⟩,rfl,10,11,19,by decide,by decide,by decide,by decide,by decide,by decide,Kj,g11,by rw[g9,FO],g19⟩
 | ai a b c d hu=>
  simp only[List.cons.injEq,and_true]at hos
  obtain⟨g9,_,g11,_,_,_,g20⟩:=hos
  exact PB hu (b:=20) (n:=11) (by decide) (by decide) (by decide) (by decide) (by decide) g9 g20 g11 hD
 | au a b c d hu=>
  simp only[List.cons.injEq,and_true]at hos
  obtain⟨g9,_,g11,_,g18,_,_⟩:=hos
  exact PB hu (b:=18) (n:=11) (by decide) (by decide) (by decide) (by decide) (by decide) g9 g18 g11 hD
theorem bQ:Dr Tryz.prog AM Ag (Ay AM 9 [true] fT.G):=by
 refine QY fU (by kernel_rfl) (n:=66) ?_
 rintro m rest ⟨k,a,b,key,val,e,sv,rfl,hc,hst,hpl,hck,hs,hn,hu,hcr⟩
 refine⟨by simp,rfl,?_⟩
 obtain⟨cfg,lim,bs,nw,cost,AG,st0,pl⟩:=m
 simp only at hc hst hpl hs hn hu
 subst hst hpl
 obtain⟨c0,c1,c2,c3,c4,c5,c6,rfl⟩:=dQ hc
 have hE:Ai XD 10 Ag (fun v H=>ep (mX c0 c1 c2 c3 c4 c5 c6 lim bs nw cost AG) (NM (mX c0 c1 c2 c3 c4 c5 c6 lim bs nw cost AG) k a b key val e sv) v ((Ye++Ac 4 v).map H.get)) (st Ag 66 [p9,Ei k a b key val,LB e sv] (BF ⟨.leaf,9⟩ (fN c0 c1 c2 c3 c4 c5 c6 lim bs nw cost AG))):=
  Bc.GF (B4 ck (ids:=Ye) 2000 _ (dh c0 c1 c2 c3 c4 c5 c6 lim bs nw cost AG k a b key val e sv hck hs hn hu hcr))
 refine At.tell hE.I3 ?_
 rintro v H (⟨hr,rfl,h⟩ | ⟨m',hr,rfl,h⟩)
 ·obtain⟨v2,H2,k1,rfl,k2⟩:=Vh (D:=fun b=>9≤b∧b < 10) (v:= .int .i64 7) ⟨Nat.le_refl 9,Nat.lt_succ_self 9⟩ h
  refine⟨_,H2,k1,?_,?_⟩
  ·show _=Value.int .i64 (bif (NM _ k a b key val e sv).isSome then 0 else 7)
   rw[hr];rfl
  ·show FK H2 ((NM _ k a b key val e sv).getD _)
   rw[hr];exact k2
 ·obtain⟨v2,H2,k1,rfl,k2⟩:=Vh (D:=fun b=>9≤b∧b < 10) (v:= .int .i64 0) ⟨Nat.le_refl 9,Nat.lt_succ_self 9⟩ h
  refine⟨_,H2,k1,?_,?_⟩
  ·show _=Value.int .i64 (bif (NM _ k a b key val e sv).isSome then 0 else 7)
   rw[hr];rfl
  ·show FK H2 ((NM _ k a b key val e sv).getD _)
   rw[hr];exact k2
end Go.AD

namespace Go.AD
noncomputable def Yh (X:Ctx) (c:A5):Option (Bool × A5 × A5):=
 match c with
 | ⟨⟨fn,t,n,.Ik ops (o::l)::k,ds,false,kd,rd⟩,cs,H⟩=>
  match o.op with
  | .binOp .eql ty x y _=>match Bf X t x,Bf X t y,X.P.underlying ty with
   | .slice (some ⟨_,_,some _⟩) m _,.slice none _ _,some (.slice _)=>match CX ops o t,Bt ⟨fn,t,n,.Ik ops (o::l)::k,ds,false,kd,rd⟩ (.bool true),Bt ⟨fn,t,n,.Ik ops (o::l)::k,ds,false,kd,rd⟩ (.bool false)with
    | some true,some ft,some ff=>some (Nat.blt 0 m,⟨ft,cs,H⟩,⟨ff,cs,H⟩)
    | _,_,_=>none
   | _,_,_=>none
  | _=>none
 | _=>none
theorem YC {P:Program} {s:Sem Value} {v:Value} {W:World} (h:s.run P W= .ok v W):(do pure (Next.value (←s)):Sem Next).run P W= .ok (.value v) W:=by simp[h]
theorem MT {X:Ctx} {c ct cf:A5} {b:Bool} {Φ:A5→Prop} (h:Yh X c=some (b,ct,cf)) (ht:b=false→Φ ct) (hf:Φ cf):Reach X c Φ:=by
 unfold Yh at h
 split at h
 rotate_left
 ·cases h
 rename_i fn t n ops o l k ds kd rd cs H
 split at h
 rotate_left
 ·cases h
 rename_i ty x y yt ho
 split at h
 rotate_left
 ·cases h
 rename_i bb off j m cap nl nc e hx hy hu
 split at h
 rotate_left
 ·cases h
 rename_i ft ff hw hft hff
 cases h
 intro base W0 hok hplan cs0 μ fr cs' W hm
 obtain⟨hH,hlaid,g,gs,hfr,hcs,hnd⟩:=hm
 cases hfr with
 | plain fn t n tm todo todo' ds ds' r kd rd rd' htm hi hd hrd=>
  cases hi with
  | @cons it it' k1 k1' h1 hk=>
   cases h1 with
   | Ik ops l1 idx hidx=>
    cases idx with
    | nil=>simp at hidx
    | cons i idx=>
     simp only[List.map_cons,List.cons.injEq]at hidx
     have hev:∀x,AH μ (Bf X t x) (Frame.eval ⟨fn,tm,.inRegion ops (i::idx)::k1',ds',.run,kd,rd'⟩ x):=fun x=>J0 hlaid htm x
     have hx':=hev x
     have hy':=hev y
     rw[hx]at hx'
     rw[hy]at hy'
     have key:∃bv:Bool,(Nat.blt 0 m=true→bv=false)∧(execOp (Frame.eval ⟨fn,tm,.inRegion ops (i::idx)::k1',ds',.run,kd,rd'⟩) o).run X.P W= .ok (.value (.bool bv)) W:=by
      have he:execOp (Frame.eval ⟨fn,tm,.inRegion ops (i::idx)::k1',ds',.run,kd,rd'⟩) o=(do pure (.value (←(do eqGuard .eql ty x y (Frame.eval ⟨fn,tm,.inRegion ops (i::idx)::k1',ds',.run,kd,rd'⟩ x) (Frame.eval ⟨fn,tm,.inRegion ops (i::idx)::k1',ds',.run,kd,rd'⟩ y);binOp .eql ty (Frame.eval ⟨fn,tm,.inRegion ops (i::idx)::k1',ds',.run,kd,rd'⟩ x) (Frame.eval ⟨fn,tm,.inRegion ops (i::idx)::k1',ds',.run,kd,rd'⟩ y))))):=by simp only[execOp,ho]
      have go:∀bv:Bool,GA X.P .eql ty (Frame.eval ⟨fn,tm,.inRegion ops (i::idx)::k1',ds',.run,kd,rd'⟩ x) (Frame.eval ⟨fn,tm,.inRegion ops (i::idx)::k1',ds',.run,kd,rd'⟩ y)=some (.bool bv)→
       (execOp (Frame.eval ⟨fn,tm,.inRegion ops (i::idx)::k1',ds',.run,kd,rd'⟩) o).run X.P W= .ok (.value (.bool bv)) W:=by
       intro bv hq
       rw[he]
       exact YC (KI (x:=x) (y:=y) hq W)
      generalize Frame.eval ⟨fn,tm,.inRegion ops (i::idx)::k1',ds',.run,kd,rd'⟩ x=vx at hx' go
      generalize Frame.eval ⟨fn,tm,.inRegion ops (i::idx)::k1',ds',.run,kd,rd'⟩ y=vy at hy' go
      cases hy'
      cases hx' with
      | Bk=>exact⟨false,fun _=>rfl,go false (by simp[GA,EL,BW,hu])⟩
      | CU=>exact⟨false,fun _=>rfl,go false (by simp[GA,EL,BW,hu])⟩
      | Cr _ _ _ T a _ _=>
       cases a with
       | none=>exact⟨true,fun h=>absurd (Nat.le_of_ble_eq_true h) (by omega),go true (by simp[GA,EL,BW,hu])⟩
       | some p=>exact⟨false,fun _=>rfl,go false (by simp[GA,EL,BW,hu])⟩
      | ED _ _ _ T a _ _=>
       cases a with
       | none=>exact⟨true,fun h=>absurd (Nat.le_of_ble_eq_true h) (by omega),go true (by simp[GA,EL,BW,hu])⟩
       | some p=>exact⟨false,fun _=>rfl,go false (by simp[GA,EL,BW,hu])⟩
     obtain⟨bv,hb,hrun⟩:=key
     have hst:=WQ (cs:=cs'++cs0) hidx.1 (I2 htm hw) (fun c e=>by rw[ho]at e;cases e) hrun (.inl rfl)
     have hfr:Gi X μ H [] ⟨fn,t,n,.Ik ops (o::l)::k,ds,false,kd,rd⟩ ⟨fn,tm,.inRegion ops (i::idx)::k1',ds',.run,kd,rd'⟩:=
      .plain fn t n tm _ _ ds ds' false kd rd rd' htm (.cons (.Ik ops (o::l) (i::idx) (by simp[hidx.1,hidx.2])) hk) hd hrd
     cases bv with
     | true=>
      refine⟨_,ht ?_,μ,_,cs',W,.one hst,hH,hlaid,[],gs,Co hfr (.bool true) hft,hcs,hnd⟩
      cases hq:Nat.blt 0 m
      ·rfl
      ·have:=hb hq;cases this
     | false=>exact⟨_,hf,μ,_,cs',W,.one hst,hH,hlaid,[],gs,Co hfr (.bool false) hff,hcs,hnd⟩
noncomputable def aj (X:Ctx) (pf:Pf) (f:FuncId) (ids:List Nat) (Q:Value→List (Option AJ)→Prop) (n:Nat):A5→Prop:=
 Nat.rec (motive:=fun _=>A5→Prop) (fun _=>False) (fun _ ih c=>match DR X f c with
  | some (v,H)=>Q v ((ids++Ac 4 v).map H.get)
  | none=>match Yh X c with
   | some (b,ct,cf)=>bif b then ih cf else(ih ct∧ih cf)
   | none=>Fk X pf c ih) n
theorem bx {X:Ctx} {pf:Pf} (hpf:El X pf) {f:FuncId} {ids:List Nat} {Q:Value→List (Option AJ)→Prop}:∀(n:Nat) (c:A5),aj X pf f ids Q n c→Bc X f (fun v H=>Q v ((ids++Ac 4 v).map H.get)) c:=by
 intro n
 induction n with
 | zero=>intro c h;cases h
 | succ n ih=>
  intro c h
  have h:(match DR X f c with
   | some (v,H)=>Q v ((ids++Ac 4 v).map H.get)
   | none=>match Yh X c with
    | some (b,ct,cf)=>bif b then aj X pf f ids Q n cf else(aj X pf f ids Q n ct∧aj X pf f ids Q n cf)
    | none=>Fk X pf c (aj X pf f ids Q n)):=h
  split at h
  ·rename_i v H e;exact Reach.here ⟨v,H,e,h⟩
  ·split at h
   ·rename_i b ct cf hq
    cases hb:b
    ·simp only[hb,cond_false]at h
     exact Reach.bind (MT (Φ:=fun c'=>aj X pf f ids Q n c') hq (fun _=>h.1) h.2) ih
    ·simp only[hb,cond_true]at h
     exact Reach.bind (MT (Φ:=fun c'=>aj X pf f ids Q n c') hq (fun e=>by rw[hb]at e;cases e) h) ih
   ·exact Reach.bind (Ga hpf h) ih
end Go.AD

set_option maxRecDepth 1000000
namespace Go.AD
open Go.Proofs
noncomputable abbrev vc_copy_0 (m:AB):AJ:=(.cells [(.int .i64 (List.getD (AB.cfg m) 0 0)),(.int .i64 (List.getD (AB.cfg m) 1 0)),(.int .i64 (List.getD (AB.cfg m) 2 0)),(.int .i64 (List.getD (AB.cfg m) 3 0)),(.int .i64 (List.getD (AB.cfg m) 4 0)),(.int .i64 (List.getD (AB.cfg m) 5 0)),(.int .i64 (List.getD (AB.cfg m) 6 0)),(.int .i64 (AB.Al m)),(.pointer (some ⟨14,0,none⟩)),(.pointer (some ⟨15,0,none⟩)),(.int .i64 (AB.cost m)),(.slice (some ⟨17,0,(some 0)⟩) (0+List.length (AB.AG m)) 18446744073709551616),(.pointer none),(.int .i64 (AB.state m)),(.bool (AB.AS m))] 0 false)
noncomputable abbrev vc_copy_1 (m:AB):AJ:=(.cells [(.int .i64 (List.getD (AB.cfg m) 0 0)),(.int .i64 (List.getD (AB.cfg m) 1 0)),(.int .i64 (List.getD (AB.cfg m) 2 0)),(.int .i64 (List.getD (AB.cfg m) 3 0)),(.int .i64 (List.getD (AB.cfg m) 4 0)),(.int .i64 (List.getD (AB.cfg m) 5 0)),(.int .i64 (List.getD (AB.cfg m) 6 0)),(.int .i64 (AB.Al m)),(.pointer (some ⟨10,0,none⟩)),(.pointer (some ⟨11,0,none⟩)),(.int .i64 (AB.cost m)),(.slice (some ⟨12,0,(some 0)⟩) (List.length (AB.AG m)) 18446744073709551616),(.pointer none),(.int .i64 (AB.state m)),(.bool (AB.AS m))] 0 false)
noncomputable abbrev vc_copy_2 (m:AB):AJ:=(.cells [(.int .i64 (List.getD (AB.cfg m) 0 0)),(.int .i64 (List.getD (AB.cfg m) 1 0)),(.int .i64 (List.getD (AB.cfg m) 2 0)),(.int .i64 (List.getD (AB.cfg m) 3 0)),(.int .i64 (List.getD (AB.cfg m) 4 0)),(.int .i64 (List.getD (AB.cfg m) 5 0)),(.int .i64 (List.getD (AB.cfg m) 6 0)),(.int .i64 (AB.Al m)),(.pointer (some ⟨14,0,none⟩)),(.pointer (some ⟨15,0,none⟩)),(.int .i64 (AB.cost m)),(.slice (some ⟨16,0,none⟩) 0 0),(.pointer none),(.int .i64 (AB.state m)),(.bool (AB.AS m))] 0 false)
theorem ZF (m:AB) (Q:Value→List (Option AJ)→Prop):aj XM Ws BC [9,10,11,12,14,15,17] Q 1000 (st BC 28 [p9] (BF ⟨.leaf,9⟩ (LW m)))=(
 (List.length (AB.base m) < 1000000)∧(((.slice (some ⟨12,0,(some 0)⟩) (List.length (AB.AG m)) 18446744073709551616):Value)=(.slice (some ⟨12,0,(some 0)⟩) (List.length (AB.AG m)) 18446744073709551616))∧(((.pointer (some ⟨9,11,none⟩)):Value)=(.pointer (some ⟨9,11,none⟩)))∧(((.pointer (some ⟨9,0,none⟩)):Value)=(.pointer (some ⟨9,0,none⟩)))∧(((.pointer (some ⟨9,0,none⟩)):Value)=(.pointer (some ⟨9,0,none⟩)))∧(((.pointer (some ⟨11,0,none⟩)):Value)=(.pointer (some ⟨11,0,none⟩)))∧(((.pointer (some ⟨9,9,none⟩)):Value)=(.pointer (some ⟨9,9,none⟩)))∧(((.pointer (some ⟨9,0,none⟩)):Value)=(.pointer (some ⟨9,0,none⟩)))∧(((.pointer (some ⟨9,0,none⟩)):Value)=(.pointer (some ⟨9,0,none⟩)))∧(List.length (AB.now m) < 1000000)∧(((.slice (some ⟨12,0,(some 0)⟩) (List.length (AB.AG m)) 18446744073709551616):Value)=(.slice (some ⟨12,0,(some 0)⟩) (List.length (AB.AG m)) 18446744073709551616))∧(((.pointer (some ⟨9,11,none⟩)):Value)=(.pointer (some ⟨9,11,none⟩)))∧(((.pointer (some ⟨9,0,none⟩)):Value)=(.pointer (some ⟨9,0,none⟩)))∧(((.pointer (some ⟨9,0,none⟩)):Value)=(.pointer (some ⟨9,0,none⟩)))∧(bif Nat.blt 0 (List.length (AB.AG m))then(bif Nat.ble (0+List.length (AB.AG m)) (List.length (AB.AG m))then(bif Nat.beq (List.length (AB.AG m)) 0 then(Q (.pointer (some ⟨13,0,none⟩)) [some (vc_copy_1 m),some (.abs (AX.pack (Pk.table (AB.base m))) false),some (.abs (AX.pack (Pk.table (AB.now m))) false),some (.vec Bn (AB.AG m) false),some (.abs (AX.pack (Pk.table (AB.base m))) false),some (.abs (AX.pack (Pk.table (AB.now m))) false),none,some (vc_copy_2 m)])else(bif BV 40 (0+List.length (AB.AG m))then(Q (.pointer (some ⟨13,0,none⟩)) [some (vc_copy_1 m),some (.abs (AX.pack (Pk.table (AB.base m))) false),some (.abs (AX.pack (Pk.table (AB.now m))) false),some (.vec Bn (AB.AG m) false),some (.abs (AX.pack (Pk.table (AB.base m))) false),some (.abs (AX.pack (Pk.table (AB.now m))) false),some (.vec Bn ([]++List.take (List.length (AB.AG m)) (List.drop 0 (AB.AG m))) false),some (vc_copy_0 m)])else False))else False)else( (Q (.pointer (some ⟨13,0,none⟩)) [some (vc_copy_1 m),some (.abs (AX.pack (Pk.table (AB.base m))) false),some (.abs (AX.pack (Pk.table (AB.now m))) false),some (.vec Bn (AB.AG m) false),some (.abs (AX.pack (Pk.table (AB.base m))) false),some (.abs (AX.pack (Pk.table (AB.now m))) false),none,some (.cells [(.int .i64 (List.getD (AB.cfg m) 0 0)),(.int .i64 (List.getD (AB.cfg m) 1 0)),(.int .i64 (List.getD (AB.cfg m) 2 0)),(.int .i64 (List.getD (AB.cfg m) 3 0)),(.int .i64 (List.getD (AB.cfg m) 4 0)),(.int .i64 (List.getD (AB.cfg m) 5 0)),(.int .i64 (List.getD (AB.cfg m) 6 0)),(.int .i64 (AB.Al m)),(.pointer (some ⟨14,0,none⟩)),(.pointer (some ⟨15,0,none⟩)),(.int .i64 (AB.cost m)),(.slice none 0 0),(.pointer none),(.int .i64 (AB.state m)),(.bool (AB.AS m))] 0 false)]))∧(bif Nat.ble (0+List.length (AB.AG m)) (List.length (AB.AG m))then(bif Nat.beq (List.length (AB.AG m)) 0 then(Q (.pointer (some ⟨13,0,none⟩)) [some (vc_copy_1 m),some (.abs (AX.pack (Pk.table (AB.base m))) false),some (.abs (AX.pack (Pk.table (AB.now m))) false),some (.vec Bn (AB.AG m) false),some (.abs (AX.pack (Pk.table (AB.base m))) false),some (.abs (AX.pack (Pk.table (AB.now m))) false),none,some (vc_copy_2 m)])else(bif BV 40 (0+List.length (AB.AG m))then
 (Q (.pointer (some ⟨13,0,none⟩)) [some (vc_copy_1 m),some (.abs (AX.pack (Pk.table (AB.base m))) false),some (.abs (AX.pack (Pk.table (AB.now m))) false),some (.vec Bn (AB.AG m) false),some (.abs (AX.pack (Pk.table (AB.base m))) false),some (.abs (AX.pack (Pk.table (AB.now m))) false),some (.vec Bn ([]++List.take (List.length (AB.AG m)) (List.drop 0 (AB.AG m))) false),some (vc_copy_0 m)])else False))else False))):=by kernel_rfl
end Go.AD

set_option maxRecDepth 1000000
namespace Go.AD
open Go.Proofs
theorem B7.trans {D:Nat→Prop} {v:Value} {H H2 H3:AA} (h:B7 D v H H2) (h2:B7 D v H2 H3):B7 D v H H3:=by
 induction h with
 | refl H=>exact h2
 | step s objs bs rs hr hne hlen hnd hrs hreach hobj hroot k ih=>exact .step s objs bs rs hr hne hlen hnd hrs hreach hobj hroot (ih h2)
structure QQ (r b n x:Nat) (H:AA) (m:AB):Prop where
 nd:(r::[b,n,x]).Nodup
 gr:H.get r=some (.cells (BJ m b n (.slice (some ⟨x,0,some 0⟩) m.AG.length AE)) 0 false)
 gb:H.get b=some (Ch m.base)
 gn:H.get n=some (Ch m.now)
 gx:H.get x=some (.vec Bn m.AG false)
theorem RZ {D:Nat→Prop} {v:Value} {H:AA} {m:AB} {r b n x:Nat} (hD:r∈Ac 4 v∨D r) (h:QQ r b n x H m):
 ∃H2,B7 D v H H2∧H2.get r=some (.abs (.pack (.model m)) false)∧∀y,y∉r::[b,n,x]→H2.get y=H.get y:=by
 have hk:=B0 (s:= .model m) (H:=H) h.nd
 refine⟨C1 (.model m) (r::[b,n,x]) H,Qg (s:= .model m) (ns:=[b,n,x]) (.model m) hD rfl h.nd h.gr rfl rfl rfl ?_ ?_ (Nat.le_of_ble_eq_true rfl) ?_ (.refl _),hk.root r rfl,fun y hy=>hk.C2 y hy⟩
 ·intro y hy;exact hy
 ·intro y hy;exact hy
 ·intro i y p hy hp
  cases i with
  | zero=>cases hy;cases hp;exact⟨_,h.gb,rfl,rfl,rfl,rfl⟩
  | succ i=>cases i with
   | zero=>cases hy;cases hp;exact⟨_,h.gn,rfl,rfl,rfl,rfl⟩
   | succ i=>cases i with
    | zero=>cases hy;cases hp;exact⟨_,h.gx,rfl,rfl,rfl,rfl⟩
    | succ i=>cases i<;>cases hy
theorem TE {X:Ctx} {D:Nat→Prop} {f:FuncId} {Q:Value→AA→Prop} {n:Nat} {m:AB} {rest:List Value} (hD:D 9) (hN:At X 10 D f Q (st f n (p9::rest) (BF ⟨.leaf,9⟩ (LW m)))):At X 10 D f Q (st f n (p9::rest) (Mn m)):=by
 refine At.opened (b:=9) (s:= .model m) (ro:=false) hD (by rfl) (fun ops p k h=>by cases h) fun objs hr=>?_
 cases hr with
 | model=>
  have hN:At X 10 D f Q (st f n (p9::rest) (Dp ((Mn m).put 9 (P6 m (.slice (some ⟨12,0,some 0⟩) m.AG.length AE))) [.abs (.pack (.table m.base)) false,.abs (.pack (.table m.now)) false,.vec Bn m.AG false])):=by
   rw[N8];exact hN
  refine⟨_,J6 (H:=Mn m) (b:=9) (ro:=false) (o1:=P6 m (.slice (some ⟨12,0,some 0⟩) m.AG.length AE)) (ps1:=[.abs (.pack (.table m.base)) false,.abs (.pack (.table m.now)) false,.vec Bn m.AG false]) (show 9 < 10 by decide) (QH m) rfl rfl (fun i p hp=>?_),hN⟩
  cases i with
  | zero=>cases hp;exact⟨_,rfl,rfl⟩
  | succ i=>cases i with
   | zero=>cases hp;exact⟨_,rfl,rfl⟩
   | succ i=>cases i with
    | zero=>cases hp;exact⟨_,rfl,rfl⟩
    | succ i=>cases i<;>cases hp
inductive eT (m:AB):Value→List (Option AJ)→Prop where
 | row:eT m (.pointer (some ⟨13,0,none⟩)) [some (.cells (BJ m 10 11 (.slice (some ⟨12,0,some 0⟩) m.AG.length 18446744073709551616)) 0 false),some (Ch m.base),some (Ch m.now),some (.vec Bn m.AG false),some (Ch m.base),some (Ch m.now),some (.vec Bn m.AG false),
  some (.cells (BJ m 14 15 (.slice (some ⟨17,0,some 0⟩) m.AG.length 18446744073709551616)) 0 false)]
 | zero (x:Value) (o:Option AJ) (hx:∀ν:Ad,KA ν x) (hu:m.AG=[]):eT m (.pointer (some ⟨13,0,none⟩)) [some (.cells (BJ m 10 11 (.slice (some ⟨12,0,some 0⟩) m.AG.length 18446744073709551616)) 0 false),some (Ch m.base),some (Ch m.now),some (.vec Bn m.AG false),some (Ch m.base),some (Ch m.now),o,
  some (.cells (BJ m 14 15 x) 0 false)]
noncomputable def Kb (args:List Value) (objs:List AJ):GT:=
 match args,objs with
 | [.pointer (some ⟨9,0,none⟩)],[.abs (.pack (.model m)) _]=> .ask (m.base.length < 1000000∧m.now.length < 1000000∧m.AG.length < 1000000) (.ret ⟨.pointer (some ⟨10,0,none⟩),[some (.abs (.pack (.model m)) false)],[.abs (.pack (.model m)) false]⟩)
 | _,_=> .fail
theorem Nk:Dr Tryz.prog AM BC (Ay AM 9 [true] Kb):=by
 refine BZ allM (by kernel_rfl) (n:=28) (by kernel_rfl) (by kernel_rfl) fun argsc objs x hx hro=>?_
 unfold Kb at hx
 split at hx
 ·rename_i m ro
  simp only[GT.run]at hx
  split at hx
  ·rename_i hok
   obtain⟨h1,h2,h3⟩:=hok
   cases hx
   have hr0:ro=false:=hro 0 _ rfl rfl
   subst hr0
   refine⟨by simp,?_⟩
   show At XM 10 (fun b=>9≤b∧b < 10) BC _ (st BC 28 [p9] (Mn m))
   refine At.shut (TE (rest:=[]) (Q:=fun v H=>v= .pointer (some ⟨13,0,none⟩)∧QQ 9 10 11 12 H m∧∃z,QQ 13 14 15 z H m∧16 < z) ⟨Nat.le_refl 9,Nat.lt_succ_self 9⟩ ?_) ?_
   ·have hE:Ai XM 10 BC (fun v H=>eT m v (([9,10,11,12,14,15,17]++Ac 4 v).map H.get)) (st BC 28 [p9] (BF ⟨.leaf,9⟩ (LW m))):=by
     refine Bc.GF (bx Hq (ids:=[9,10,11,12,14,15,17]) (Q:=eT m) 1000 _ ?_)
     rw[ZF]
     have hb:BV 40 (0+m.AG.length)=true:=by
      unfold BV
      rw[Nat.ble_eq_true_of_le (by omega),Nat.ble_eq_true_of_le (by omega)];rfl
     have hle:Nat.ble (0+m.AG.length) m.AG.length=true:=Nat.ble_eq_true_of_le (by omega)
     have h0:Nat.blt 0 m.AG.length=false→m.AG=[]:=fun h=>by
      cases hq:m.AG with
      | nil=>rfl
      | cons a l=>rw[hq]at h;cases h
     have h00:Nat.beq m.AG.length 0=true→m.AG=[]:=fun h=>List.eq_nil_of_length_eq_zero (Nat.eq_of_beq_eq_true h)
     have hrow:eT m (.pointer (some ⟨13,0,none⟩)) [some (.cells (BJ m 10 11 (.slice (some ⟨12,0,some 0⟩) m.AG.length 18446744073709551616)) 0 false),some (Ch m.base),some (Ch m.now),some (.vec Bn m.AG false),some (Ch m.base),some (Ch m.now),some (.vec Bn ([]++List.take (List.length (AB.AG m)) (List.drop 0 (AB.AG m))) false),
      some (.cells (BJ m 14 15 (.slice (some ⟨17,0,some 0⟩) (0+m.AG.length) 18446744073709551616)) 0 false)]:=by
      rw[List.drop_zero,List.take_length,Nat.zero_add]
      exact .row
     repeat' first
      | exact hrow
      | exact .zero _ _ (fun _=>QK) (h00 (by assumption))
      | exact .zero _ _ (fun _=>Fq) (h0 (by assumption))
      | refine And.intro (by first | exact rfl | exact h1 | exact h2) ?_
      | refine AF hle ?_
      | refine AF hb ?_
      | refine As (fun _=>?_) (fun _=>?_)
      | refine And.intro ?_ ?_
    refine hE.I3.tell ?_
    intro v H h
    generalize hos:([9,10,11,12,14,15,17]++Ac 4 v).map H.get=os at h
    cases h with
    | row=>
     have h:[H.get 9,H.get 10,H.get 11,H.get 12,H.get 14,H.get 15,H.get 17,H.get 13]=_:=hos
     simp only[List.cons.injEq,and_true]at h
     obtain⟨g9,Kj,g11,g12,g14,g15,g17,g13⟩:=h
     exact⟨_,H,fun base W0 μ W v' _ hv hH=>⟨μ,Ad.le_refl _,hH,hv⟩,rfl,⟨by decide,by rw[g9,FO],Kj,g11,g12⟩,17,⟨by decide,by rw[g13,FO],g14,g15,g17⟩,by decide⟩
    | zero x o hx hu=>
     have h:[H.get 9,H.get 10,H.get 11,H.get 12,H.get 14,H.get 15,H.get 17,H.get 13]=_:=hos
     simp only[List.cons.injEq,and_true]at h
     obtain⟨g9,Kj,g11,g12,g14,g15,_,g13⟩:=h
     obtain⟨v2,H2,j1,rfl,⟨z,z1,z2,z3,z4⟩,j3⟩:=Pn (D:=fun b=>9≤b∧b < 10) (v:= .pointer (some ⟨13,0,none⟩)) hx hu (r:=13) (b:=14) (n:=15) (by decide) (by decide) (by decide) (by decide) (by decide) (by decide) g13 g14 g15 ⟨9,Nat.le_refl 9,Nat.lt_succ_self 9⟩
     refine⟨_,H2,j1,rfl,⟨by decide,?_,?_,?_,?_⟩,z,⟨z2,z3,?_,?_,z4⟩,by omega⟩
     ·rw[j3 9 (by decide) (by decide),g9,FO]
     ·rw[j3 10 (by decide) (by decide)];exact Kj
     ·rw[j3 11 (by decide) (by decide)];exact g11
     ·rw[j3 12 (by decide) (by decide)];exact g12
     ·rw[j3 14 (by decide) (by decide)];exact g14
     ·rw[j3 15 (by decide) (by decide)];exact g15
   ·rintro v H ⟨rfl,ha,z,hb,hz⟩
    obtain⟨H2,k1,k2,k3⟩:=RZ (D:=fun b=>9≤b∧b < 9+1) (v:= .pointer (some ⟨13,0,none⟩)) (.inr ⟨Nat.le_refl 9,Nat.lt_succ_self 9⟩) ha
    have hb2:QQ 13 14 15 z H2 m:=⟨hb.nd,by rw[k3 13 (by decide)];exact hb.gr,by rw[k3 14 (by decide)];exact hb.gb,by rw[k3 15 (by decide)];exact hb.gn,by rw[k3 z (by simp only[List.mem_cons,List.not_mem_nil,not_or,not_false_eq_true,and_true];omega)];exact hb.gx⟩
    obtain⟨H3,j1,j2,j3⟩:=RZ (D:=fun b=>9≤b∧b < 9+1) (v:= .pointer (some ⟨13,0,none⟩)) (.inl (by decide)) hb2
    refine⟨H3,k1.trans j1,[13],by simp,fun c hc=>by simp at hc;subst hc;exact Nat.le_of_ble_eq_true rfl,rfl,rfl,fun j c p hj hp=>?_,fun j o hj hm ho=>?_⟩
    ·cases j with
     | zero=>cases hj;cases hp;exact⟨_,rfl,j2⟩
     | succ j=>cases j<;>cases hj
    ·cases j with
     | zero=>cases ho;exact⟨_,rfl,by rw[j3 9 (by simp only[List.mem_cons,List.not_mem_nil,not_or,not_false_eq_true,and_true];omega)];exact k2⟩
     | succ j=>exact absurd hj (by show ¬(j+1 < 1);omega)
  ·cases hx
 ·cases hx
end Go.AD

set_option maxRecDepth 1000000
namespace Go.AD
open Go.Proofs
abbrev kS:EK:=[.str]
noncomputable def PM (n:Nat):Value:= .slice (some ⟨9,0,some 0⟩) n AE
noncomputable def hR (l:List (EK.C AT)):AA:=BF ⟨.leaf,9⟩ [.vec AT l true]
noncomputable def Nt (l:List (EK.C AT)) (s i:Int):A5:=
 ⟨⟨Ar,HQ [(0,PM l.length),(3,.int .i64 s),(4,.int .i64 i)],25,[.code (BH Tryz.prog Ar [1,1,0,1,0,0]),.inLoop (BH Tryz.prog Ar [1,1,0,1,0,0]),.inBlock 0,.code (BH Tryz.prog Ar [1,1,1])],[],false,.normal,none⟩,[],hR l⟩
def QB:Stop:=⟨Ar,0,3,10,[9],[0,3,4]⟩
theorem V1 (l:List (EK.C AT)) (Q:Value→List (Option AJ)→Prop) (R:A5→Prop):LK X0 Cp Ar [] QB Q R 100 (st Ar 25 [PM l.length] (hR l))=(
 (R (Nt l 0 0))):=by kernel_rfl
theorem TN (l:List (EK.C AT)) (s i:Int) (Q:Value→List (Option AJ)→Prop) (R:A5→Prop):LK X0 Cp Ar [] QB Q R 200 (Nt l s i)=(
 (bif decide (i < Int.ofNat (List.length l))then(bif decide (0≤i)&&Nat.blt (Int.toNat i) (List.length l)then(bif Nat.blt (0+Int.toNat i) (List.length l)then(bif decide (0≤i)&&Nat.blt (Int.toNat i) (List.length l)then(bif Nat.blt (0+Int.toNat i) (List.length l)then(((.int .i64 s):Value)=(.int .i64 s))∧(R (Nt l (IntKind.wrap .i64 (s+IntKind.wrap .i64 (IntKind.wrap .i64 (16+Int.ofNat (ByteArray.size (Prod.fst (List.getD l (0+Int.toNat i) (EK.AU AT)))))+Int.ofNat (ByteArray.size (Prod.snd (List.getD l (0+Int.toNat i) (EK.AU AT))))))) (IntKind.wrap .i64 (i+1))))else False)else False)else False)else False)else(Q (.int .i64 s) []))):=by kernel_rfl
noncomputable def KR (l:List (EK.C AT)) (key:ByteArray) (i:Int):A5:=
 ⟨⟨Aw,HQ [(0,PM l.length),(1,.string key),(6,.int .i64 i)],25,[.code (BH Tryz.prog Aw [1,0,1,0,0]),.inLoop (BH Tryz.prog Aw [1,0,1,0,0]),.inBlock 0,.code (BH Tryz.prog Aw [1,1])],[],false,.normal,none⟩,[],hR l⟩
def MJ:Stop:=⟨Aw,0,3,10,[9],[0,1,6]⟩
theorem UG (l:List (EK.C AT)) (key:ByteArray) (Q:Value→List (Option AJ)→Prop) (R:A5→Prop):LK X0 Cp Aw [] MJ Q R 100 (st Aw 25 [PM l.length,.string key] (hR l))=(
 (R (KR l key 0))):=by kernel_rfl
theorem Pl (l:List (EK.C AT)) (key:ByteArray) (i:Int) (Q:Value→List (Option AJ)→Prop) (R:A5→Prop):LK X0 Cp Aw [] MJ Q R 200 (KR l key i)=(
 (bif decide (i < Int.ofNat (List.length l))then(bif decide (0≤i)&&Nat.blt (Int.toNat i) (List.length l)then(bif Nat.blt (0+Int.toNat i) (List.length l)then(bif ByteArray.toList (Prod.fst (List.getD l (0+Int.toNat i) (EK.AU AT)))==ByteArray.toList key then(bif decide (0≤i)&&Nat.blt (Int.toNat i) (List.length l)then(bif Nat.blt (0+Int.toNat i) (List.length l)then(Q (.tuple ⟨[(.string (Prod.snd (List.getD l (0+Int.toNat i) (EK.AU AT)))),(.bool true)]⟩) [])else False)else False)else(R (KR l key (IntKind.wrap .i64 (i+1)))))else False)else False)else(Q (.tuple ⟨[(.string ({ data:=#[] })),(.bool false)]⟩) []))):=by kernel_rfl
noncomputable def fi (l m:List (EK.C kS)):AA:=BF ⟨.leaf,9⟩ [.vec kS l true,.vec kS m true]
noncomputable def Nz (l m:List (EK.C kS)) (i:Int):A5:=
 ⟨⟨Ao,HQ [(0,PM l.length),(1,.slice (some ⟨10,0,some 0⟩) m.length AE),(5,.int .i64 i)],26,[.code (BH Tryz.prog Ao [1,1,0,1,0,0]),.inLoop (BH Tryz.prog Ao [1,1,0,1,0,0]),.inBlock 0,.code (BH Tryz.prog Ao [1,1,1])],[],false,.normal,none⟩,[],fi l m⟩
def QX:Stop:=⟨Ao,0,3,11,[9,10],[0,1,5]⟩
theorem VS (l m:List (EK.C kS)) (Q:Value→List (Option AJ)→Prop) (R:A5→Prop):LK X0 Cp Ao [] QX Q R 100 (st Ao 26 [PM l.length,.slice (some ⟨10,0,some 0⟩) m.length AE] (fi l m))=(
 (bif Int.ofNat (List.length l) != Int.ofNat (List.length m)then(Q (.bool false) [])else(R (Nz l m 0)))):=by kernel_rfl
theorem TM (l m:List (EK.C kS)) (i:Int) (Q:Value→List (Option AJ)→Prop) (R:A5→Prop):LK X0 Cp Ao [] QX Q R 200 (Nz l m i)=(
 (bif decide (i < Int.ofNat (List.length l))then(bif decide (0≤i)&&Nat.blt (Int.toNat i) (List.length l)then(bif Nat.blt (0+Int.toNat i) (List.length l)then(bif decide (0≤i)&&Nat.blt (Int.toNat i) (List.length m)then(bif Nat.blt (0+Int.toNat i) (List.length m)then(bif !ByteArray.toList (List.getD l (0+Int.toNat i) (EK.AU kS))==ByteArray.toList (List.getD m (0+Int.toNat i) (EK.AU kS))then(Q (.bool false) [])else(R (Nz l m (IntKind.wrap .i64 (i+1)))))else False)else False)else False)else False)else(Q (.bool true) []))):=by kernel_rfl
noncomputable def XB (l:List (EK.C AT)) (x y:Value) (i:Int) (H:AA→AA):A5:=
 ⟨⟨Am,HQ [(0,PM l.length),(4,x),(5,y),(6,.int .i64 i)],31,[.code (BH Tryz.prog Am [1,1,0,1,0,0]),.inLoop (BH Tryz.prog Am [1,1,0,1,0,0]),.inBlock 0,.code (BH Tryz.prog Am [1,1,1])],[],false,.normal,none⟩,[],H (hR l)⟩
noncomputable def VW (l:List (EK.C AT)):A5:=XB l (.slice none 0 0) (.slice none 0 0) 0 id
noncomputable def Oi (l:List (EK.C AT)) (ks vs:List (EK.C kS)) (x y:Value) (i:Int):A5:=XB l x y i fun H=>(H.alloc (.vec kS ks false)).alloc (.vec kS vs false)
def Ll:Stop:=⟨Am,0,3,10,[9],[0,4,5,6]⟩
noncomputable def DW (b n:Nat):Value:= .slice (some ⟨b,0,some 0⟩) n AE
theorem Uj (l:List (EK.C AT)) (Q:Value→List (Option AJ)→Prop) (R:A5→Prop):LK X0 Cp Am [] Ll Q R 100 (st Am 31 [PM l.length] (hR l))=(
 (R (VW l))):=by kernel_rfl
theorem Qe (l:List (EK.C AT)) (ks vs:List (EK.C kS)) (n m:Nat) (i:Int) (Q:Value→List (Option AJ)→Prop) (R:A5→Prop):LK X0 Cp Am [] Ll Q R 200 (Oi l ks vs (DW 10 n) (DW 11 m) i)=(
 (bif decide (i < Int.ofNat (List.length l))then(bif decide (0≤i)&&Nat.blt (Int.toNat i) (List.length l)then(bif Nat.blt (0+Int.toNat i) (List.length l)then(bif true&&Nat.ble (0+n) (List.length ks)&&BV 16 (n+1)then(bif decide (0≤i)&&Nat.blt (Int.toNat i) (List.length l)then(bif Nat.blt (0+Int.toNat i) (List.length l)then(bif true&&Nat.ble (0+m) (List.length vs)&&BV 16 (m+1)then(R (Oi l (List.take n (List.drop 0 ks)++[Prod.fst (List.getD l (0+Int.toNat i) (EK.AU AT))]) (List.take m (List.drop 0 vs)++[Prod.snd (List.getD l (0+Int.toNat i) (EK.AU AT))]) (.slice (some ⟨10,0,(some 0)⟩) (n+1) 18446744073709551616) (.slice (some ⟨11,0,(some 0)⟩) (m+1) 18446744073709551616) (IntKind.wrap .i64 (i+1))))else False)else False)else False)else False)else False)else False)else(Q (.tuple ⟨[(.slice (some ⟨10,0,(some 0)⟩) n 18446744073709551616),(.slice (some ⟨11,0,(some 0)⟩) m 18446744073709551616)]⟩) [some (.vec kS ks false),some (.vec kS vs false)]))):=by kernel_rfl
noncomputable def RL (k a b:Int) (key val:ByteArray):AJ:= .cells [.int .i64 k,.int .i64 a,.int .i64 b,.string key,.string val] 0 false
def aP (bl:Nat):List Nat:=match bl with
 | 0=>[1,1,0,1,0,0]
 | _=>[1,1,1,1,0,1,0,0]
def eA (bl:Nat):List Nat:=match bl with
 | 0=>[1,1,1]
 | _=>[1,1,1,1,1]
noncomputable def aM (bl:Nat) (l:List (EK.C AT)) (x i j:Value) (H:AA):A5:=
 ⟨⟨Aq,HQ [(0,PM l.length),(3,.pointer (some ⟨10,0,none⟩)),(5,x),(6,i),(7,j)],62,[.code (BH Tryz.prog Aq (aP bl)),.inLoop (BH Tryz.prog Aq (aP bl)),.inBlock bl,.code (BH Tryz.prog Aq (eA bl))],[],false,.normal,none⟩,[],H⟩
noncomputable def ao (bl:Nat) (l:List (EK.C AT)) (k a b:Int) (key val:ByteArray) (x i j:Value):A5:=aM bl l x i j ((hR l).alloc (RL k a b key val))
noncomputable def Gh (bl:Nat) (l:List (EK.C AT)) (k a b:Int) (key val:ByteArray) (out:List (EK.C AT)) (x i j:Value):A5:=aM bl l x i j (((hR l).alloc (RL k a b key val)).alloc (.vec AT out false))
def Ks:Stop:=⟨Aq,0,3,10,[9],[0,3,5,6,7]⟩
theorem V6 (l:List (EK.C AT)) (k a b:Int) (key val:ByteArray) (Q:Value→List (Option AJ)→Prop) (R:A5→Prop):LK X0 Cp Aq [] Ks Q R 100 (st Aq 62 [PM l.length,Ei k a b key val] (hR l))=(
 (R (ao 0 l k a b key val (.slice none 0 0) (.int .i64 0) Be))):=by kernel_rfl
theorem Pr (l:List (EK.C AT)) (k a b:Int) (key val:ByteArray) (out:List (EK.C AT)) (n:Nat) (i:Int) (Q:Value→List (Option AJ)→Prop) (R:A5→Prop):LK X0 Cp Aq [] Ks Q R 200 (Gh 0 l k a b key val out (DW 11 n) (.int .i64 i) Be)=(
 (bif decide (i < Int.ofNat (List.length l))then(bif decide (0≤i)&&Nat.blt (Int.toNat i) (List.length l)then(bif Nat.blt (0+Int.toNat i) (List.length l)then(bif Op.bytesLess (ByteArray.toList (Prod.fst (List.getD l (0+Int.toNat i) (EK.AU AT)))) (ByteArray.toList key)then(bif decide (0≤i)&&Nat.blt (Int.toNat i) (List.length l)then(bif Nat.blt (0+Int.toNat i) (List.length l)then(bif true&&Nat.ble (0+n) (List.length out)&&BV 32 (n+1)then(R (Gh 0 l k a b key val (List.take n (List.drop 0 out)++[(Prod.fst (List.getD l (0+Int.toNat i) (EK.AU AT)),Prod.snd (List.getD l (0+Int.toNat i) (EK.AU AT)))]) (.slice (some ⟨11,0,(some 0)⟩) (n+1) 18446744073709551616) (.int .i64 (IntKind.wrap .i64 (i+1))) Be))else False)else False)else False)else(R (Gh 0 l k a b key val out (.slice (some ⟨11,0,(some 0)⟩) n 18446744073709551616) (.int .i64 (IntKind.wrap .i64 (i+1))) Be)))else False)else False)else(bif k==1 then(bif true&&Nat.ble (0+n) (List.length out)&&BV 32 (n+1)then(R (Gh 2 l k a b key val (List.take n (List.drop 0 out)++[(key,val)]) (.slice (some ⟨11,0,(some 0)⟩) (n+1) 18446744073709551616) (.int .i64 i) (.int .i64 0)))else False)else(R (Gh 2 l k a b key val out (.slice (some ⟨11,0,(some 0)⟩) n 18446744073709551616) (.int .i64 i) (.int .i64 0)))))):=by kernel_rfl
theorem QL (l:List (EK.C AT)) (k a b:Int) (key val:ByteArray) (out:List (EK.C AT)) (n:Nat) (i i6:Int) (Q:Value→List (Option AJ)→Prop) (R:A5→Prop):LK X0 Cp Aq [] Ks Q R 200 (Gh 2 l k a b key val out (DW 11 n) (.int .i64 i6) (.int .i64 i))=(
 (bif decide (i < Int.ofNat (List.length l))then(bif decide (0≤i)&&Nat.blt (Int.toNat i) (List.length l)then(bif Nat.blt (0+Int.toNat i) (List.length l)then(bif !(Op.bytesLess (ByteArray.toList (Prod.fst (List.getD l (0+Int.toNat i) (EK.AU AT)))) (ByteArray.toList key)||ByteArray.toList (Prod.fst (List.getD l (0+Int.toNat i) (EK.AU AT)))==ByteArray.toList key)then(bif decide (0≤i)&&Nat.blt (Int.toNat i) (List.length l)then(bif Nat.blt (0+Int.toNat i) (List.length l)then(bif true&&Nat.ble (0+n) (List.length out)&&BV 32 (n+1)then(R (Gh 2 l k a b key val (List.take n (List.drop 0 out)++[(Prod.fst (List.getD l (0+Int.toNat i) (EK.AU AT)),Prod.snd (List.getD l (0+Int.toNat i) (EK.AU AT)))]) (.slice (some ⟨11,0,(some 0)⟩) (n+1) 18446744073709551616) (.int .i64 i6) (.int .i64 (IntKind.wrap .i64 (i+1)))))else False)else False)else False)else(R (Gh 2 l k a b key val out (.slice (some ⟨11,0,(some 0)⟩) n 18446744073709551616) (.int .i64 i6) (.int .i64 (IntKind.wrap .i64 (i+1))))))else False)else False)else(Q (.slice (some ⟨11,0,(some 0)⟩) n 18446744073709551616) [some (.vec AT out false)]))):=by kernel_rfl
end Go.AD

set_option maxRecDepth 1000000
namespace Go.AD
open Go.Proofs
def CY (x:EK.C AT):Int:=16+x.1.size+x.2.size
def BA (l:List (EK.C AT)):Int:=(l.map CY).sum
def Fu (l:List (EK.C AT)):Prop:=l.length < 1000000∧∀x∈l,x.1.size < 1000000∧x.2.size < 1000000
theorem FV {x:Int} (h1:0≤x) (h2:x < 9223372036854775808):IntKind.wrap .i64 x=x:=wrap64 (by omega) (by omega)
theorem I1:∀(l:List (EK.C AT)),(∀x∈l,x.1.size < 1000000∧x.2.size < 1000000)→0≤BA l∧BA l≤2000016 * l.length
 | [],_=>by simp[BA]
 | x::l,h=>by
  have h1:=I1 l (fun y hy=>h y (by simp[hy]))
  have h2:=h x (by simp)
  have e:BA (x::l)=CY x+BA l:=by simp[BA]
  rw[e]
  simp only[List.length_cons,CY]
  omega
theorem CR {i:Nat} (h:i < 4611686018427387904):IntKind.wrap .i64 ((i:Int)+1)=((i+1:Nat):Int):=by
 rw[wrap64 (by omega) (by omega)];rfl
theorem Uf (l:List (EK.C AT)) (hs:Fu l):∀(m i:Nat),l.length - i=m→i≤l.length→Ai X0 10 Ar (fun v _=>v= .int .i64 (BA l)) (Nt l (BA (l.take i)) i):=by
 intro m
 induction m with
 | zero=>
  intro i hm hi
  refine CB (Ax X0) (ids:=[]) (S:=QB) rfl (Q:=fun v _=>v= .int .i64 (BA l)) (R:=fun _=>False) (fun v H h=>h) (fun c h=>h.elim) 200 _ ?_
  rw[TN]
  refine AY (fun h=>?_) (fun _=>?_)
  ·exfalso;have:(i:Int) < l.length:=h;omega
  ·show Value.int .i64 _=_
   rw[show l.take i=l from List.take_of_length_le (by omega)]
 | succ m ih=>
  intro i hm hi
  have hlt:i < l.length:=by omega
  refine CB (Ax X0) (ids:=[]) (S:=QB) rfl (Q:=fun v _=>v= .int .i64 (BA l)) (R:=fun c=>c=Nt l (BA (l.take (i+1))) (i+1:Nat)) (fun v H h=>h) (fun c h=>by rw[h];exact ih (i+1) (by omega) (by omega)) 200 _ ?_
  rw[TN]
  refine AY (fun h=>?_) (fun h=>absurd (show(i:Int) < Int.ofNat l.length by simpa using hlt) h)
  refine AF (ca hlt) (AF (cb hlt) (AF (ca hlt) (AF (cb hlt) ⟨rfl,?_⟩)))
  have hx:l.take (i+1)=l.take i++[l[i]]:=by rw[List.take_succ_eq_append_getElem hlt]
  have hc:BA (l.take (i+1))=BA (l.take i)+CY l[i]:=by rw[hx];unfold BA;rw[List.map_append,List.sum_append];simp
  have hb1:=I1 (l.take i) (fun y hy=>hs.2 y (List.mem_of_mem_take hy))
  have hb2:=hs.2 l[i] (List.getElem_mem hlt)
  have hlen:(l.take i).length≤1000000:=by rw[List.length_take];have:=hs.1;omega
  rw[Cq hlt,hc]
  have hsz1:(Int.ofNat (l[i]).1.size)=((l[i]).1.size:Int):=rfl
  have hsz2:(Int.ofNat (l[i]).2.size)=((l[i]).2.size:Int):=rfl
  rw[hsz1,hsz2,FV (x:=16+((l[i]).1.size:Int)) (by omega) (by omega),FV (x:=16+((l[i]).1.size:Int)+((l[i]).2.size:Int)) (by omega) (by omega)]
  have hp:CY l[i]=16+((l[i]).1.size:Int)+((l[i]).2.size:Int):=rfl
  rw[FV (by omega) (by omega),CR (by have:=hs.1;omega),hp]
noncomputable def Kl (args:List Value) (objs:List AJ):GT:=
 match args,objs with
 | [.slice (some ⟨9,0,some 0⟩) n c],[.vec [.str,.str] l _]=> .ask ((n=l.length∧c=AE)∧Fu l) (.ret ⟨.int .i64 (BA l),[],[]⟩)
 | _,_=> .fail
theorem Pg:Dr Tryz.prog AM Ar (Ay AM 9 [] Kl):=by
 refine BZ (Au.nil _ _) (by kernel_rfl) (n:=25) (by kernel_rfl) (by kernel_rfl) fun argsc objs x hx hro=>?_
 unfold Kl at hx
 split at hx
 ·rename_i n c l ro
  simp only[GT.run]at hx
  split at hx
  ·rename_i hok
   obtain⟨⟨rfl,rfl⟩,hs⟩:=hok
   cases hx
   refine⟨by simp,?_⟩
   have hE:Ai X0 10 Ar (fun v _=>v= .int .i64 (BA l)) (st Ar 25 [PM l.length] (hR l)):=by
    refine CB (Ax X0) (ids:=[]) (S:=QB) rfl (Q:=fun _ _=>False) (R:=fun c=>c=Nt l 0 0) (fun v H h=>h.elim) (fun c h=>by rw[h];exact Uf l hs l.length 0 (by omega) (by omega)) 100 _ ?_
    rw[V1]
   exact hE.I3.mono fun v H h=>by rw[h];exact Gl rfl
  ·cases hx
 ·cases hx
def C6 (l:List (EK.C AT)) (key:ByteArray):Option ByteArray:=(l.find? fun x=>ByteArray.toList x.1==ByteArray.toList key).map (·.2)
noncomputable def Pz (l:List (EK.C AT)) (key:ByteArray):Value:= .tuple ⟨[.string ((C6 l key).getD e0),.bool (C6 l key).isSome]⟩
theorem Sj (l:List (EK.C AT)) (key:ByteArray) (hs:l.length < 1000000):∀(m i:Nat),l.length - i=m→i≤l.length→Ai X0 10 Aw (fun v _=>v=Pz (l.drop i) key) (KR l key i):=by
 intro m
 induction m with
 | zero=>
  intro i hm hi
  refine CB (Ax X0) (ids:=[]) (S:=MJ) rfl (Q:=fun v _=>v=Pz (l.drop i) key) (R:=fun _=>False) (fun v H h=>h) (fun c h=>h.elim) 200 _ ?_
  rw[Pl,List.drop_eq_nil_of_le (by omega)]
  refine AY (fun h=>?_) (fun _=>rfl)
  exfalso;have:(i:Int) < l.length:=h;omega
 | succ m ih=>
  intro i hm hi
  have hlt:i < l.length:=by omega
  refine CB (Ax X0) (ids:=[]) (S:=MJ) rfl (Q:=fun v _=>v=Pz (l.drop i) key) (R:=fun c=>Pz (l.drop i) key=Pz (l.drop (i+1)) key∧c=KR l key (i+1:Nat)) (fun v H h=>h) (fun c h=>by rw[h.1,h.2];exact ih (i+1) (by omega) (by omega)) 200 _ ?_
  rw[Pl]
  refine AY (fun h=>?_) (fun h=>absurd (show(i:Int) < Int.ofNat l.length by simpa using hlt) h)
  refine AF (ca hlt) (AF (cb hlt) ?_)
  rw[Cq hlt,CR (by omega),List.drop_eq_getElem_cons hlt]
  refine As (fun h=>AF (ca hlt) (AF (cb hlt) ?_)) (fun h=>⟨?_,rfl⟩)
  ·unfold Pz C6
   simp only[List.find?_cons,h];rfl
  ·unfold Pz C6
   simp only[List.find?_cons,h]
noncomputable def Mm (args:List Value) (objs:List AJ):GT:=
 match args,objs with
 | [.slice (some ⟨9,0,some 0⟩) n c,.string key],[.vec [.str,.str] l _]=> .ask ((n=l.length∧c=AE)∧l.length < 1000000) (.ret ⟨.tuple ⟨[.string ((C6 l key).getD e0),.bool (C6 l key).isSome]⟩,[],[]⟩)
 | _,_=> .fail
theorem UW:Dr Tryz.prog AM Aw (Ay AM 9 [] Mm):=by
 refine BZ (Au.nil _ _) (by kernel_rfl) (n:=25) (by kernel_rfl) (by kernel_rfl) fun argsc objs x hx hro=>?_
 unfold Mm at hx
 split at hx
 ·rename_i n c key l ro
  simp only[GT.run]at hx
  split at hx
  ·rename_i hok
   obtain⟨⟨rfl,rfl⟩,hs⟩:=hok
   cases hx
   refine⟨by simp,?_⟩
   have hE:Ai X0 10 Aw (fun v _=>v=Pz l key) (st Aw 25 [PM l.length,.string key] (hR l)):=by
    refine CB (Ax X0) (ids:=[]) (S:=MJ) rfl (Q:=fun _ _=>False) (R:=fun c=>c=KR l key 0) (fun v H h=>h.elim) (fun c h=>by rw[h];exact Sj l key hs l.length 0 (by omega) (by omega)) 100 _ ?_
    rw[UG]
   exact hE.I3.mono fun v H h=>by rw[h];exact Gl rfl
  ·cases hx
 ·cases hx
def Cn (l m:List (EK.C kS)):Bool:=List.map ByteArray.toList l==List.map ByteArray.toList m
theorem To (l m:List (EK.C kS)) (hl:l.length=m.length) (hs:l.length < 1000000):∀(q i:Nat),l.length - i=q→i≤l.length→Ai X0 11 Ao (fun v _=>v= .bool (Cn (l.drop i) (m.drop i))) (Nz l m i):=by
 intro q
 induction q with
 | zero=>
  intro i hm hi
  refine CB (Ax X0) (ids:=[]) (S:=QX) rfl (Q:=fun v _=>v= .bool (Cn (l.drop i) (m.drop i))) (R:=fun _=>False) (fun v H h=>h) (fun c h=>h.elim) 200 _ ?_
  rw[TM,List.drop_eq_nil_of_le (by omega),List.drop_eq_nil_of_le (by omega)]
  refine AY (fun h=>?_) (fun _=>rfl)
  exfalso;have:(i:Int) < l.length:=h;omega
 | succ q ih=>
  intro i hm hi
  have hlt:i < l.length:=by omega
  have hlt2:i < m.length:=by omega
  refine CB (Ax X0) (ids:=[]) (S:=QX) rfl (Q:=fun v _=>v= .bool (Cn (l.drop i) (m.drop i))) (R:=fun c=>Cn (l.drop i) (m.drop i)=Cn (l.drop (i+1)) (m.drop (i+1))∧c=Nz l m (i+1:Nat)) (fun v H h=>h) (fun c h=>by rw[h.1,h.2];exact ih (i+1) (by omega) (by omega)) 200 _ ?_
  rw[TM]
  refine AY (fun h=>?_) (fun h=>absurd (show(i:Int) < Int.ofNat l.length by simpa using hlt) h)
  refine AF (ca hlt) (AF (cb hlt) (AF (ca hlt2) (AF (cb hlt2) ?_)))
  rw[Cq hlt,Cq hlt2,CR (by omega),List.drop_eq_getElem_cons hlt,List.drop_eq_getElem_cons hlt2]
  have e:∀(a b:ByteArray) (x y:List (EK.C kS)),Cn (a::x) (b::y)=(ByteArray.toList a==ByteArray.toList b&&Cn x y):=fun a b x y=>rfl
  rw[e]
  refine As (fun h=>?_) (fun h=>⟨?_,rfl⟩)
  ·rw[Bool.not_eq_true']at h;rw[h];rfl
  ·rw[Bool.not_eq_false']at h;rw[h];rfl
noncomputable def TX (args:List Value) (objs:List AJ):GT:=
 match args,objs with
 | [.slice (some ⟨9,0,some 0⟩) n c,.slice (some ⟨10,0,some 0⟩) n2 c2],[.vec [.str] l _,.vec [.str] m _]=> .ask ((n=l.length∧c=AE)∧(n2=m.length∧c2=AE)∧l.length < 1000000∧m.length < 1000000) (.ret ⟨.bool (Cn l m),[],[]⟩)
 | _,_=> .fail
theorem Xv:Dr Tryz.prog AM Ao (Ay AM 9 [] TX):=by
 refine BZ (Au.nil _ _) (by kernel_rfl) (n:=26) (by kernel_rfl) (by kernel_rfl) fun argsc objs x hx hro=>?_
 unfold TX at hx
 split at hx
 ·rename_i n c n2 c2 l r1 m r2
  simp only[GT.run]at hx
  split at hx
  ·rename_i hok
   obtain⟨⟨rfl,rfl⟩,⟨rfl,rfl⟩,hs,hs2⟩:=hok
   cases hx
   refine⟨by simp,?_⟩
   have hE:Ai X0 11 Ao (fun v _=>v= .bool (Cn l m)) (st Ao 26 [PM l.length,.slice (some ⟨10,0,some 0⟩) m.length AE] (fi l m)):=by
    refine CB (Ax X0) (ids:=[]) (S:=QX) rfl (Q:=fun v _=>v= .bool (Cn l m)) (R:=fun c=>l.length=m.length∧c=Nz l m 0) (fun v H h=>h) (fun c h=>by rw[h.2];exact To l m h.1 hs l.length 0 (by omega) (by omega)) 100 _ ?_
    rw[VS]
    refine As (fun h=>?_) (fun h=>⟨?_,rfl⟩)
    ·have hne:l.length≠m.length:=by intro e;rw[e]at h;simp at h
     have:Cn l m=false:=by
      cases hq:Cn l m
      ·rfl
      ·exfalso
       have:=congrArg List.length (eq_of_beq hq)
       simp only[List.length_map]at this
       exact hne this
     rw[this]
    ·have:(Int.ofNat l.length)=Int.ofNat m.length:=by simpa using h
     exact Int.ofNat.inj this
   exact hE.I3.mono fun v H h=>by rw[h];exact Gl rfl
  ·cases hx
 ·cases hx
end Go.AD

set_option maxRecDepth 1000000
namespace Go.AD
open Go.Proofs
theorem TK {n:Nat} (h:n < 1000000):BV 16 (n+1)=true:=by
 unfold BV
 rw[Nat.ble_eq_true_of_le (by omega),Nat.ble_eq_true_of_le (by omega)];rfl
theorem room {b n m:Nat} (hb:BV b (n+1)=true) (h:n=m):(true&&Nat.ble (0+n) m&&BV b (n+1))=true:=by
 rw[hb,Nat.ble_eq_true_of_le (by omega)];rfl
def B2 (l:List (EK.C AT)):List (EK.C kS):=l.map (·.1)
def B9 (l:List (EK.C AT)):List (EK.C kS):=l.map (·.2)
theorem Et {l:List (EK.C AT)} {i:Nat} (h:i < l.length) (f:EK.C AT→EK.C kS):List.map f (l.take i)++[f l[i]]=List.map f (l.take (i+1)):=by
 rw[List.take_succ_eq_append_getElem h,List.map_append];rfl
theorem R7 (l:List (EK.C AT)) (hs:l.length < 1000000):∀(q i:Nat),l.length - i=q→i≤l.length→
 Ai X0 10 Am (fun v H=>v= .tuple ⟨[DW 10 l.length,DW 11 l.length]⟩∧H.get 10=some (.vec kS (B2 l) false)∧H.get 11=some (.vec kS (B9 l) false)) (Oi l (B2 (l.take i)) (B9 (l.take i)) (DW 10 i) (DW 11 i) i):=by
 intro q
 induction q with
 | zero=>
  intro i hm hi
  have he:i=l.length:=by omega
  subst he
  refine CB (Ax X0) (ids:=[]) (S:=Ll) rfl (Q:=fun v os=>v= .tuple ⟨[DW 10 l.length,DW 11 l.length]⟩∧os=[some (.vec kS (B2 l) false),some (.vec kS (B9 l) false)]) (R:=fun _=>False) (fun v H h=>?_) (fun c h=>h.elim) 200 _ ?_
  ·obtain⟨rfl,h⟩:=h
   have h:[H.get 10,H.get 11]=_:=h
   simp only[List.cons.injEq,and_true]at h
   exact⟨rfl,h.1,h.2⟩
  ·rw[Qe,List.take_length]
   refine AY (fun h=>?_) (fun _=>⟨by unfold DW;rw[FO],rfl⟩)
   exfalso;have:(l.length:Int) < l.length:=h;omega
 | succ q ih=>
  intro i hm hi
  have hlt:i < l.length:=by omega
  refine CB (Ax X0) (ids:=[]) (S:=Ll) rfl (Q:=fun _ _=>False) (R:=fun c=>c=Oi l (B2 (l.take (i+1))) (B9 (l.take (i+1))) (DW 10 (i+1)) (DW 11 (i+1)) (i+1:Nat)) (fun v H h=>h.elim) (fun c h=>by rw[h];exact ih (i+1) (by omega) (by omega)) 200 _ ?_
  rw[Qe]
  refine AY (fun h=>?_) (fun h=>absurd (show(i:Int) < Int.ofNat l.length by simpa using hlt) h)
  have e1:(B2 (l.take i)).length=i:=by unfold B2;rw[List.length_map,List.length_take];omega
  have e2:(B9 (l.take i)).length=i:=by unfold B9;rw[List.length_map,List.length_take];omega
  refine AF (ca hlt) (AF (cb hlt) (AF (room (TK (by omega)) e1.symm) (AF (ca hlt) (AF (cb hlt) (AF (room (TK (by omega)) e2.symm) ?_)))))
  rw[Cq hlt,CR (by omega),List.drop_zero,List.drop_zero,List.take_of_length_le (l:=B2 (l.take i)) (by omega),List.take_of_length_le (l:=B9 (l.take i)) (by omega)]
  unfold DW
  rw[←FO]
  rw[show B2 (l.take i)++[(l[i]).1]=B2 (l.take (i+1))from Et hlt (fun x=>x.1),show B9 (l.take i)++[(l[i]).2]=B9 (l.take (i+1))from Et hlt (fun x=>x.2)]
noncomputable def JI (args:List Value) (objs:List AJ):GT:=
 match args,objs with
 | [.slice (some ⟨9,0,some 0⟩) n c],[.vec [.str,.str] l _]=> .ask ((n=l.length∧c=AE)∧l.length < 1000000) (.ret ⟨.tuple ⟨[.slice (some ⟨10,0,some 0⟩) l.length AE,.slice (some ⟨11,0,some 0⟩) l.length AE]⟩,[],[.vec kS (B2 l) false,.vec kS (B9 l) false]⟩)
 | _,_=> .fail
theorem Y2 {v v1:Value} {H:AA} {m b1 b2:Nat} {o1 o2:AJ} (h1:9+m≤b1) (h2:9+m≤b2) (hne:b1≠b2) (hv:E9 (Ck.HX AM 9 m [b1,b2]) v=some v1)
 (g1:∃p,BN (Ck.HX AM 9 m [b1,b2]) o1=some p∧H.get b1=some p) (g2:∃p,BN (Ck.HX AM 9 m [b1,b2]) o2=some p∧H.get b2=some p):Ck AM 9 m [] ⟨v,[],[o1,o2]⟩ v1 H:=by
 refine⟨[b1,b2],by simp[hne],fun b hb=>by simp at hb;omega,rfl,hv,fun j b o hj ho=>?_,fun j o hj hm=>by cases hm⟩
 cases j with
 | zero=>cases hj;cases ho;exact g1
 | succ j=>cases j with
  | zero=>cases hj;cases ho;exact g2
  | succ j=>cases hj
theorem Tm:Dr Tryz.prog AM Am (Ay AM 9 [] JI):=by
 refine BZ (Au.nil _ _) (by kernel_rfl) (n:=31) (by kernel_rfl) (by kernel_rfl) fun argsc objs x hx hro=>?_
 unfold JI at hx
 split at hx
 ·rename_i n c l ro
  simp only[GT.run]at hx
  split at hx
  ·rename_i hok
   obtain⟨⟨rfl,rfl⟩,hs⟩:=hok
   cases hx
   refine⟨by simp,?_⟩
   have hE:Ai X0 10 Am (fun v H=>v= .tuple ⟨[DW 10 l.length,DW 11 l.length]⟩∧H.get 10=some (.vec kS (B2 l) false)∧H.get 11=some (.vec kS (B9 l) false)) (st Am 31 [PM l.length] (hR l)):=by
    refine CB (Ax X0) (ids:=[]) (S:=Ll) rfl (Q:=fun _ _=>False) (R:=fun c=>c=VW l) (fun v H h=>h.elim) (fun c h=>?_) 100 _ ?_
    ·rw[h]
     refine BB.bO 4 0 kS (by rfl) (by rfl) (show look _ 0= .slice (some ⟨9,0,some 0⟩) l.length AE from rfl) (by decide) ?_
     refine BB.bO 5 0 kS (by rfl) (by rfl) (show look _ 0= .slice (some ⟨9,0,some 0⟩) l.length AE from rfl) (by decide) ?_
     exact R7 l hs l.length 0 (by omega) (by omega)
    ·rw[Uj]
   refine hE.I3.mono fun v H h=>?_
   obtain⟨rfl,h1,h2⟩:=h
   exact Y2 (m:=1) (b1:=10) (b2:=11) (by omega) (by omega) (by omega) rfl ⟨_,rfl,h1⟩ ⟨_,rfl,h2⟩
  ·cases hx
 ·cases hx
def X7 (a b:ByteArray):Bool:= !(Op.bytesLess (ByteArray.toList a) (ByteArray.toList b)||ByteArray.toList a==ByteArray.toList b)
def EY (l:List (EK.C AT)) (key:ByteArray):List (EK.C AT):=l.filter fun x=>Op.bytesLess (ByteArray.toList x.1) (ByteArray.toList key)
def Dl (l:List (EK.C AT)) (key:ByteArray):List (EK.C AT):=l.filter fun x=>X7 x.1 key
def BS (l:List (EK.C AT)) (k:Int) (key val:ByteArray):List (EK.C AT):=(bif k==1 then EY l key++[(key,val)]else EY l key)++Dl l key
noncomputable abbrev Xs (w:List (EK.C AT)) (v:Value) (H:AA):Prop:=v=DW 11 w.length∧H.get 11=some (.vec AT w false)
theorem G3 {l:List (EK.C AT)} {i:Nat} (h:i < l.length) (p:EK.C AT→Bool):(l.take (i+1)).filter p=(l.take i).filter p++(bif p l[i]then [l[i]]else []):=by
 rw[List.take_succ_eq_append_getElem h,List.filter_append]
 cases hp:p l[i]<;>simp[hp]
theorem Sh (l:List (EK.C AT)) (k a b:Int) (key val:ByteArray) (i6:Int) (pre:List (EK.C AT)) (hs:l.length < 400000) (hp:pre.length < 500000):∀(q i:Nat),l.length - i=q→i≤l.length→
 Ai X0 10 Aq (Xs (pre++Dl l key)) (Gh 2 l k a b key val (pre++Dl (l.take i) key) (DW 11 (pre++Dl (l.take i) key).length) (.int .i64 i6) (.int .i64 i)):=by
 intro q
 induction q with
 | zero=>
  intro i hm hi
  have he:i=l.length:=by omega
  subst he
  refine CB (Ax X0) (ids:=[]) (S:=Ks) rfl (Q:=fun v os=>v=DW 11 (pre++Dl l key).length∧os=[some (.vec AT (pre++Dl l key) false)]) (R:=fun _=>False) (fun v H h=>?_) (fun c h=>h.elim) 200 _ ?_
  ·obtain⟨rfl,h⟩:=h
   have h:[H.get 11]=_:=h
   simp only[List.cons.injEq,and_true]at h
   exact⟨rfl,h⟩
  ·rw[QL,List.take_length]
   refine AY (fun h=>?_) (fun _=>⟨by unfold DW;rw[FO],rfl⟩)
   exfalso;have:(l.length:Int) < l.length:=h;omega
 | succ q ih=>
  intro i hm hi
  have hlt:i < l.length:=by omega
  have hlen:(Dl (l.take i) key).length≤i:=by
   have:=List.length_filter_le (fun x:EK.C AT=>X7 x.1 key) (l.take i)
   rw[List.length_take]at this
   show(List.filter _ _).length≤i
   omega
  refine CB (Ax X0) (ids:=[]) (S:=Ks) rfl (Q:=fun _ _=>False) (R:=fun c=>c=Gh 2 l k a b key val (pre++Dl (l.take (i+1)) key) (DW 11 (pre++Dl (l.take (i+1)) key).length) (.int .i64 i6) (.int .i64 (i+1:Nat))) (fun v H h=>h.elim) (fun c h=>by rw[h];exact ih (i+1) (by omega) (by omega)) 200 _ ?_
  rw[QL]
  have hstep:=G3 hlt (fun x=>X7 x.1 key)
  refine AY (fun h=>?_) (fun h=>absurd (show(i:Int) < Int.ofNat l.length by simpa using hlt) h)
  refine AF (ca hlt) (AF (cb hlt) ?_)
  rw[Cq hlt,CR (by omega),List.drop_zero,List.take_length]
  refine As (b:=X7 l[i].1 key) (fun h=>AF (ca hlt) (AF (cb hlt) (AF (room (No (by rw[List.length_append];omega)) rfl) ?_))) (fun h=>?_)
  ·have e:Dl (l.take (i+1)) key=Dl (l.take i) key++[l[i]]:=by
    unfold Dl;rw[hstep];show _++(bif X7 l[i].1 key then _ else _)=_;rw[h];rfl
   rw[e,←List.append_assoc,List.length_append (bs:=[l[i]])]
   unfold DW
   rw[←FO];rfl
  ·have e:Dl (l.take (i+1)) key=Dl (l.take i) key:=by
    unfold Dl;rw[hstep];show _++(bif X7 l[i].1 key then _ else _)=_;rw[h];exact List.append_nil _
   rw[e]
   unfold DW
   rw[←FO]
theorem SG (l:List (EK.C AT)) (k a b:Int) (key val:ByteArray) (hs:l.length < 400000):∀(q i:Nat),l.length - i=q→i≤l.length→
 Ai X0 10 Aq (Xs (BS l k key val)) (Gh 0 l k a b key val (EY (l.take i) key) (DW 11 (EY (l.take i) key).length) (.int .i64 i) Be):=by
 intro q
 have hlow:(EY l key).length≤l.length:=List.length_filter_le _ _
 induction q with
 | zero=>
  intro i hm hi
  have he:i=l.length:=by omega
  subst he
  refine CB (Ax X0) (ids:=[]) (S:=Ks) rfl (Q:=fun _ _=>False) (R:=fun c=>c=Gh 2 l k a b key val (bif k==1 then EY l key++[(key,val)]else EY l key) (DW 11 (bif k==1 then EY l key++[(key,val)]else EY l key).length) (.int .i64 l.length) (.int .i64 0)) (fun v H h=>h.elim) (fun c h=>?_) 200 _ ?_
  ·rw[h]
   have hp:(bif k==1 then EY l key++[(key,val)]else EY l key).length < 500000:=by
    cases k==1
    ·show(EY l key).length < _;omega
    ·show(EY l key++[(key,val)]).length < _;rw[List.length_append,List.length_singleton];omega
   have:=Sh l k a b key val l.length _ hs hp l.length 0 (by omega) (by omega)
   rw[List.take_zero,show Dl [] key=[]from rfl,List.append_nil]at this
   exact this
  ·rw[Pr,List.take_length]
   refine AY (fun h=>?_) (fun _=>?_)
   ·exfalso;have:(l.length:Int) < l.length:=h;omega
   rw[List.drop_zero,List.take_length]
   refine As (fun h=>AF (room (No (by omega)) rfl) ?_) (fun h=>?_)
   ·rw[h]
    unfold DW
    rw[FO]
    simp only[cond_true,List.length_append,List.length_singleton]
   ·rw[h]
    unfold DW
    rw[FO]
    rfl
 | succ q ih=>
  intro i hm hi
  have hlt:i < l.length:=by omega
  have hlen:(EY (l.take i) key).length≤i:=by
   have:=List.length_filter_le (fun x:EK.C AT=>Op.bytesLess (ByteArray.toList x.1) (ByteArray.toList key)) (l.take i)
   rw[List.length_take]at this
   show(List.filter _ _).length≤i
   omega
  refine CB (Ax X0) (ids:=[]) (S:=Ks) rfl (Q:=fun _ _=>False) (R:=fun c=>c=Gh 0 l k a b key val (EY (l.take (i+1)) key) (DW 11 (EY (l.take (i+1)) key).length) (.int .i64 (i+1:Nat)) Be) (fun v H h=>h.elim) (fun c h=>by rw[h];exact ih (i+1) (by omega) (by omega)) 200 _ ?_
  rw[Pr]
  have hstep:=G3 hlt (fun x=>Op.bytesLess (ByteArray.toList x.1) (ByteArray.toList key))
  refine AY (fun h=>?_) (fun h=>absurd (show(i:Int) < Int.ofNat l.length by simpa using hlt) h)
  refine AF (ca hlt) (AF (cb hlt) ?_)
  rw[Cq hlt,CR (by omega),List.drop_zero,List.take_length]
  refine As (fun h=>AF (ca hlt) (AF (cb hlt) (AF (room (No (by omega)) rfl) ?_))) (fun h=>?_)
  ·have e:EY (l.take (i+1)) key=EY (l.take i) key++[l[i]]:=by
    unfold EY;rw[hstep];show _++(bif Op.bytesLess (ByteArray.toList l[i].1) (ByteArray.toList key)then _ else _)=_;rw[h];rfl
   rw[e,List.length_append (bs:=[l[i]])]
   unfold DW
   rw[←FO];rfl
  ·have e:EY (l.take (i+1)) key=EY (l.take i) key:=by
    unfold EY;rw[hstep];show _++(bif Op.bytesLess (ByteArray.toList l[i].1) (ByteArray.toList key)then _ else _)=_;rw[h];exact List.append_nil _
   rw[e]
   unfold DW
   rw[←FO]
noncomputable def Pm (args:List Value) (objs:List AJ):GT:=
 match args,objs with
 | [.slice (some ⟨9,0,some 0⟩) n c,.agg ⟨[.int .i64 k,.int .i64 _,.int .i64 _,.string key,.string val]⟩],[.vec [.str,.str] l _]=> .ask ((n=l.length∧c=AE)∧l.length < 400000) (.ret ⟨.slice (some ⟨10,0,some 0⟩) (BS l k key val).length AE,[],[.vec AT (BS l k key val) false]⟩)
 | _,_=> .fail
theorem Xe:Dr Tryz.prog AM Aq (Ay AM 9 [] Pm):=by
 refine BZ (Au.nil _ _) (by kernel_rfl) (n:=62) (by kernel_rfl) (by kernel_rfl) fun argsc objs x hx hro=>?_
 unfold Pm at hx
 split at hx
 ·rename_i n c k a b key val l ro
  simp only[GT.run]at hx
  split at hx
  ·rename_i hok
   obtain⟨⟨rfl,rfl⟩,hs⟩:=hok
   cases hx
   refine⟨by simp,?_⟩
   have hE:Ai X0 10 Aq (Xs (BS l k key val)) (st Aq 62 [PM l.length,Ei k a b key val] (hR l)):=by
    refine CB (Ax X0) (ids:=[]) (S:=Ks) rfl (Q:=fun _ _=>False) (R:=fun c=>c=ao 0 l k a b key val (.slice none 0 0) (.int .i64 0) Be) (fun v H h=>h.elim) (fun c h=>?_) 100 _ ?_
    ·rw[h]
     refine BB.bO 5 0 AT (by rfl) (by rfl) (show look _ 0= .slice (some ⟨9,0,some 0⟩) l.length AE from rfl) (by decide) ?_
     exact SG l k a b key val hs l.length 0 (by omega) (by omega)
    ·rw[V6]
   refine hE.I3.mono fun v H h=>?_
   obtain⟨rfl,h1⟩:=h
   exact OY (m:=1) (b:=11) (fun j o=>by simp) (by omega) rfl rfl h1
  ·cases hx
 ·cases hx
end Go.AD

set_option maxRecDepth 1000000
namespace Go.AD
open Go.Proofs
noncomputable def Dc (m:AB) (b n x:Nat):AJ:= .cells (BJ m b n (.slice (some ⟨x,0,some 0⟩) m.AG.length AE)) 0 false
noncomputable def bP (m:AB) (l:List (EK.C AT)):AA:=BF ⟨.leaf,9⟩ [Dc m 10 11 12,Ch m.base,CS 13 l.length,.vec Bn m.AG false,.vec AT l false]
noncomputable def WV (m:AB):AA:=BF ⟨.leaf,9⟩ [Dc m 10 11 12,Ch m.base,.cells [.bool true,.slice none 0 0] 0 false,.vec Bn m.AG false]
noncomputable def fl (m:AB) (l:List (EK.C AT)) (i:Int) (x y:Value) (H:AA→AA):A5:=
 ⟨⟨Av,HQ [(2,.func (.yield 12) ⟨[]⟩ ⟨[]⟩),(11,.slice (some ⟨10,0,some 0⟩) l.length AE),(12,.int .i64 l.length),(13,.int .i64 i)],25,[.code (BH Tryz.prog Av [1,0,0]),.inLoop (BH Tryz.prog Av [1,0,0]),.inBlock 0],[],false,.normal,none⟩,
  [⟨A6,HQ [],6,[Is (BH Tryz.prog A6 []) 2],[],false,.normal,none⟩,
   ⟨CZ,HQ [(2,De 13)],20,[.inRangeFunc 12,.inBlock 0],[⟨.collected 11,⟨[]⟩⟩],false,.normal,none⟩,
   ⟨AZ,HQ [(4,De 17),(5,De 16)],23,[.inRangeFunc 15,.inBlock 0,.code (BH Tryz.prog AZ [1,1,1])],[⟨.collected 14,⟨[]⟩⟩],false,.normal,none⟩],
  H (BF ⟨.leaf,9⟩ [Dc m 18 19 20,.vec AT l false,.deferred (some []),
   .loop ⟨.ready,none,CZ,HQ [(2,De 13)],20,#[13,14],BH Tryz.prog CZ [1,1,1,0,0],BH Tryz.prog CZ [1,1,1,0,1],11⟩,
   .cells [.func (.yield 15) ⟨[]⟩ ⟨[]⟩] 0 false,.deferred (some []),
   .loop ⟨.ready,none,AZ,HQ [(4,De 17),(5,De 16)],23,#[11,12],BH Tryz.prog AZ [1,1,0,1,0,0],BH Tryz.prog AZ [1,1,0,1,0,1],14⟩,
   .cells [y] 0 false,.cells [x] 0 false,Ch m.base,CS 10 l.length,.vec Bn m.AG false])⟩
noncomputable def el (m:AB) (l:List (EK.C AT)):A5:=fl m l 0 (.slice none 0 0) (.slice none 0 0) id
noncomputable def eJ (m:AB) (l:List (EK.C AT)) (ks vs:List (EK.C kS)) (n1 n2:Nat) (i:Int):A5:=fl m l i (DW 22 n1) (DW 21 n2) fun H=>(H.alloc (.vec kS vs false)).alloc (.vec kS ks false)
def Xp:Stop:=⟨Av,3,2,10,[9],[2,11,12,13]⟩
def VZ:List (FuncId × List Nat):=[(A6,[]),(CZ,[2]),(AZ,[4,5])]
theorem ZJ (m:AB) (l:List (EK.C AT)) (Q:Value→List (Option AJ)→Prop) (R:A5→Prop):ZZ X0 Cp AZ [9] Xp VZ Q R 600 (st AZ 23 [p9] (bP m l))=(
 (bif decide (0≤Int.ofNat (List.length l))&&Nat.ble (Int.toNat (Int.ofNat (List.length l))) (List.length l)&&decide (0≤0)&&Nat.ble 0 (Int.toNat (Int.ofNat (List.length l)))then(R (el m l))else False)):=by kernel_rfl
theorem Wz (m:AB) (l:List (EK.C AT)) (ks vs:List (EK.C kS)) (n1 n2:Nat) (i:Int) (Q:Value→List (Option AJ)→Prop) (R:A5→Prop):ZZ X0 Cp AZ [9,10,18,19,20,21,22] Xp VZ Q R 600 (eJ m l ks vs n1 n2 i)=(
 (bif decide (i < ((List.length l):Int))then(bif decide (0≤i)&&Nat.blt (Int.toNat i) (List.length l)then(bif Nat.blt (0+Int.toNat i) (List.length l)then(bif true&&Nat.ble (0+n1) (List.length ks)&&BV 16 (n1+1)then(bif true&&Nat.ble (0+n2) (List.length vs)&&BV 16 (n2+1)then(R (eJ m l (List.take n1 (List.drop 0 ks)++[Prod.fst (List.getD l (0+Int.toNat i) (EK.AU AT))]) (List.take n2 (List.drop 0 vs)++[Prod.snd (List.getD l (0+Int.toNat i) (EK.AU AT))]) (n1+1) (n2+1) (IntKind.wrap .i64 (i+1))))else False)else False)else False)else False)else(((.slice (some ⟨21,0,(some 0)⟩) n2 18446744073709551616):Value)=(.slice (some ⟨21,0,(some 0)⟩) n2 18446744073709551616))∧(Q (.tuple ⟨[(.slice (some ⟨22,0,(some 0)⟩) n1 18446744073709551616),(.slice (some ⟨21,0,(some 0)⟩) n2 18446744073709551616)]⟩) [some (.cells [(.int .i64 (List.getD (AB.cfg m) 0 0)),(.int .i64 (List.getD (AB.cfg m) 1 0)),(.int .i64 (List.getD (AB.cfg m) 2 0)),(.int .i64 (List.getD (AB.cfg m) 3 0)),(.int .i64 (List.getD (AB.cfg m) 4 0)),(.int .i64 (List.getD (AB.cfg m) 5 0)),(.int .i64 (List.getD (AB.cfg m) 6 0)),(.int .i64 (AB.Al m)),(.pointer (some ⟨18,0,none⟩)),(.pointer (some ⟨19,0,none⟩)),(.int .i64 (AB.cost m)),(.slice (some ⟨20,0,(some 0)⟩) (List.length (AB.AG m)) 18446744073709551616),(.pointer none),(.int .i64 (AB.state m)),(.bool (AB.AS m))] 0 false),some (.vec AT l false),some (.abs (AX.pack (Pk.table (AB.base m))) false),some (.cells [(.bool true),(.slice (some ⟨10,0,(some 0)⟩) (List.length l) 18446744073709551616)] 0 false),some (.vec Bn (AB.AG m) false),some (.vec kS vs false),some (.vec kS ks false),some (.vec kS ks false),some (.vec kS vs false)]))):=by kernel_rfl
theorem Zw (m:AB) (Q:Value→List (Option AJ)→Prop):FD X0 Cp AZ [9,10,11,12] Q 600 (st AZ 23 [p9] (WV m))=(
 (((.slice none 0 0):Value)=(.slice none 0 0))∧(Q (.tuple ⟨[(.slice none 0 0),(.slice none 0 0)]⟩) [some (.cells [(.int .i64 (List.getD (AB.cfg m) 0 0)),(.int .i64 (List.getD (AB.cfg m) 1 0)),(.int .i64 (List.getD (AB.cfg m) 2 0)),(.int .i64 (List.getD (AB.cfg m) 3 0)),(.int .i64 (List.getD (AB.cfg m) 4 0)),(.int .i64 (List.getD (AB.cfg m) 5 0)),(.int .i64 (List.getD (AB.cfg m) 6 0)),(.int .i64 (AB.Al m)),(.pointer (some ⟨10,0,none⟩)),(.pointer (some ⟨11,0,none⟩)),(.int .i64 (AB.cost m)),(.slice (some ⟨12,0,(some 0)⟩) (List.length (AB.AG m)) 18446744073709551616),(.pointer none),(.int .i64 (AB.state m)),(.bool (AB.AS m))] 0 false),some (.abs (AX.pack (Pk.table (AB.base m))) false),some (.cells [(.bool true),(.slice none 0 0)] 0 false),some (.vec Bn (AB.AG m) false)])):=by kernel_rfl
end Go.AD

set_option maxRecDepth 1000000
namespace Go.AD
open Go.Proofs
abbrev bS (m:AB) (l:List (EK.C AT)) (v:Value) (H:AA):Prop:=v= .tuple ⟨[DW 22 l.length,DW 21 l.length]⟩∧H.get 9=some (Dc m 18 19 20)∧H.get 10=some (.vec AT l false)∧H.get 18=some (Ch m.base)∧H.get 19=some (CS 10 l.length)∧H.get 20=some (.vec Bn m.AG false)∧H.get 21=some (.vec kS (B9 l) false)∧H.get 22=some (.vec kS (B2 l) false)
theorem Wd (m:AB) (l:List (EK.C AT)) (hs:l.length < 1000000):∀(q i:Nat),l.length - i=q→i≤l.length→
 Ai X0 10 AZ (bS m l) (eJ m l (B2 (l.take i)) (B9 (l.take i)) i i i):=by
 intro q
 induction q with
 | zero=>
  intro i hm hi
  have he:i=l.length:=by omega
  subst he
  refine GW (Ax X0) (ids:=[9,10,18,19,20,21,22]) (S:=Xp) (ks:=VZ) (by kernel_rfl) (Q:=fun v os=>v= .tuple ⟨[DW 22 l.length,DW 21 l.length]⟩∧∃a b,os=[some (Dc m 18 19 20),some (.vec AT l false),some (Ch m.base),some (CS 10 l.length),some (.vec Bn m.AG false),some (.vec kS (B9 l) false),some (.vec kS (B2 l) false),a,b]) (R:=fun _=>False) (fun v H h=>?_) (fun c h=>h.elim) 600 _ ?_
  ·obtain⟨rfl,a,b,h⟩:=h
   have h:[H.get 9,H.get 10,H.get 18,H.get 19,H.get 20,H.get 21,H.get 22,H.get 22,H.get 21]=_:=h
   simp only[List.cons.injEq,and_true]at h
   obtain⟨g1,g2,g3,g4,g5,g6,g7,_⟩:=h
   exact⟨rfl,g1,g2,g3,g4,g5,g6,g7⟩
  ·rw[Wz,List.take_length]
   refine AY (fun h=>?_) (fun _=>⟨rfl,by unfold DW;rw[FO],_,_,by unfold Dc CS AE;rfl⟩)
   exfalso;have:(l.length:Int) < l.length:=h;omega
 | succ q ih=>
  intro i hm hi
  have hlt:i < l.length:=by omega
  refine GW (Ax X0) (ids:=[9,10,18,19,20,21,22]) (S:=Xp) (ks:=VZ) (by kernel_rfl) (Q:=fun _ _=>False) (R:=fun c=>c=eJ m l (B2 (l.take (i+1))) (B9 (l.take (i+1))) (i+1) (i+1) (i+1:Nat)) (fun v H h=>h.elim) (fun c h=>by rw[h];exact ih (i+1) (by omega) (by omega)) 600 _ ?_
  rw[Wz]
  refine AY (fun h=>?_) (fun h=>absurd (show(i:Int) < (l.length:Int) by omega) h)
  have e1:(B2 (l.take i)).length=i:=by unfold B2;rw[List.length_map,List.length_take];omega
  have e2:(B9 (l.take i)).length=i:=by unfold B9;rw[List.length_map,List.length_take];omega
  refine AF (ca hlt) (AF (cb hlt) (AF (room (TK (by omega)) e1.symm) (AF (room (TK (by omega)) e2.symm) ?_)))
  rw[Cq hlt,CR (by omega),List.drop_zero,List.drop_zero,List.take_of_length_le (l:=B2 (l.take i)) (by omega),List.take_of_length_le (l:=B9 (l.take i)) (by omega)]
  rw[show B2 (l.take i)++[(l[i]).1]=B2 (l.take (i+1))from Et hlt (fun x=>x.1),show B9 (l.take i)++[(l[i]).2]=B9 (l.take (i+1))from Et hlt (fun x=>x.2)]
theorem Ui (m:AB) (l:List (EK.C AT)) (hs:l.length < 1000000):Ai X0 10 AZ (bS m l) (st AZ 23 [p9] (bP m l)):=by
 refine GW (Ax X0) (ids:=[9]) (S:=Xp) (ks:=VZ) (by kernel_rfl) (Q:=fun _ _=>False) (R:=fun c=>c=el m l) (fun v H h=>h.elim) (fun c h=>?_) 600 _ ?_
 ·rw[h]
  have hn:(el m l).H.next=21:=by kernel_rfl
  refine BB.Pd 16 11 kS [] [] (by rfl) (by rfl) (show look _ 11= .slice (some ⟨10,0,some 0⟩) l.length AE from rfl) (show(el m l).H.get 16=some (.cells [.slice none 0 0] 0 false) by kernel_rfl) (by decide) ?_
  refine BB.Pd 17 11 kS [] [] (by rfl) (by rfl) (show look _ 11= .slice (some ⟨10,0,some 0⟩) l.length AE from rfl) (ro:=false) (e:=0) (by kernel_rfl) (by decide) ?_
  have:=Wd m l hs l.length 0 (by omega) (by omega)
  rw[List.take_zero]at this
  refine Eq.mp (congrArg (Ai X0 10 AZ (bS m l)) (?_:eJ m l (B2 []) (B9 []) 0 0 (0:Nat)=_)) this
  kernel_rfl
 ·rw[ZJ]
  exact AF (by simp) rfl
noncomputable def ZB (args:List Value) (objs:List AJ):GT:=
 match args,objs with
 | [.pointer (some ⟨9,0,none⟩)],[.abs (.pack (.model m)) _]=> .ask (m.now.length < 1000000) (.ret ⟨.tuple ⟨[.slice (some ⟨10,0,some 0⟩) m.now.length AE,.slice (some ⟨11,0,some 0⟩) m.now.length AE]⟩,[some (.abs (.pack (.model m)) false)],[.vec kS (B2 m.now) false,.vec kS (B9 m.now) false]⟩)
 | _,_=> .fail
def fe (m:AB) (v:Value) (H:AA):Prop:=∃b n x k1 k2,v= .tuple ⟨[DW k1 m.now.length,DW k2 m.now.length]⟩∧QQ 9 b n x H m∧k1≠k2∧k1∉9::[b,n,x]∧k2∉9::[b,n,x]∧10≤k1∧10≤k2∧H.get k1=some (.vec kS (B2 m.now) false)∧H.get k2=some (.vec kS (B9 m.now) false)
theorem SL (m:AB):((BF ⟨.leaf,9⟩ (LW m)).put 11 (CS 13 m.now.length)).alloc (.vec AT m.now false)=bP m m.now:=by kernel_rfl
theorem Sm (m:AB):(BF ⟨.leaf,9⟩ (LW m)).put 11 (.cells [.bool true,.slice none 0 0] 0 false)=WV m:=by kernel_rfl
theorem RO (m:AB):Ah (BF ⟨.leaf,9⟩ (LW m)) 0 200 [9] []=[9,10,11,12]:=by kernel_rfl
theorem S3 (m:AB):∀x,13≤x→(BF ⟨.leaf,9⟩ (LW m)).get x=none:=by
 intro x hx
 rw[EI]
 show(if x < 9 then _ else _)=_
 rw[if_neg (by omega),List.getElem?_eq_none (by simp[LW];omega)]
 rfl
theorem Zj:Dr Tryz.prog AM AZ (Ay AM 9 [true] ZB):=by
 refine BZ (Au.nil _ _) (by kernel_rfl) (n:=23) (by kernel_rfl) (by kernel_rfl) fun argsc objs x hx hro=>?_
 unfold ZB at hx
 split at hx
 ·rename_i m ro
  simp only[GT.run]at hx
  split at hx
  ·rename_i hn
   cases hx
   have hr0:ro=false:=hro 0 _ rfl rfl
   subst hr0
   refine⟨by simp,?_⟩
   show At X0 10 (fun b=>9≤b∧b < 10) AZ _ (st AZ 23 [p9] (Mn m))
   have hD9:∀v:Value,∀b∈[9],b∈Ac 4 v∨(9≤b∧b < 10):=fun v b hb=>by
    rw[List.mem_singleton]at hb;subst hb;exact .inr ⟨Nat.le_refl 9,Nat.lt_succ_self 9⟩
   refine At.shut (Q:=fe m) (TE (rest:=[]) ⟨Nat.le_refl 9,Nat.lt_succ_self 9⟩ ?_) ?_
   ·refine At.Zd (b:=11) (s:= .table m.now) (ro:=false) (rs:=[9]) (fun x hx=>?_) ?_ ?_ (fun ops p k h=>by cases h) fun objs hr=>?_
    ·rw[List.mem_singleton]at hx;subst hx;exact⟨Nat.le_refl 9,Nat.lt_succ_self 9⟩
    ·show 11∈Ah (BF ⟨.leaf,9⟩ (LW m)) 0 200 [9] []
     rw[RO];simp
    ·show(BF ⟨.leaf,9⟩ (LW m)).get 11=_
     kernel_rfl
    generalize hl:m.now=l at hr
    cases hr with
    | Cv=>
     refine⟨_,J3 (H:=BF ⟨.leaf,9⟩ (LW m)) (b:=11) (ro:=false) (o1:= .cells [.bool true,.slice none 0 0] 0 false) (show 11 < 13 by decide) (S3 m) rfl,?_⟩
     rw[Sm]
     have hE:Ai X0 10 AZ (fun v H=>v= .tuple ⟨[.slice none 0 0,.slice none 0 0]⟩∧[H.get 9,H.get 10,H.get 11,H.get 12]=[some (Dc m 10 11 12),some (Ch m.base),some (.cells [.bool true,.slice none 0 0] 0 false),some (.vec Bn m.AG false)]) (st AZ 23 [p9] (WV m)):=by
      refine(Bc.GF (B4 (Ax X0) (ids:=[9,10,11,12]) (Q:=fun v os=>v= .tuple ⟨[.slice none 0 0,.slice none 0 0]⟩∧os=[some (Dc m 10 11 12),some (Ch m.base),some (.cells [.bool true,.slice none 0 0] 0 false),some (.vec Bn m.AG false)]) 600 _ ?_)).mono ?_
      ·rw[Zw]
       exact⟨rfl,rfl,by unfold Dc AE;rfl⟩
      ·rintro v H ⟨rfl,h⟩
       exact⟨rfl,h⟩
     refine At.shut (Q:=fun v H=>∃k1 k2,100≤k1∧100≤k2∧k1≠k2∧v= .tuple ⟨[DW k1 0,DW k2 0]⟩∧[H.get 9,H.get 10,H.get 11,H.get 12]=[some (Dc m 10 11 12),some (Ch m.base),some (.cells [.bool true,.slice none 0 0] 0 false),some (.vec Bn m.AG false)]∧H.get k1=some (.vec kS [] false)∧H.get k2=some (.vec kS [] false)) (hE.I3.tell ?_) ?_
     ·rintro v H ⟨rfl,h⟩
      have n1:=H.D7
      have n2:=(H.CO kS).D7
      have n3:(H.CO kS).Bu≠H.Bu:=by
       have e1:(H.CO kS).Bu=max (max H.next 100+1) 100:=rfl
       have e2:H.Bu=max H.next 100:=rfl
       omega
      refine⟨.tuple ⟨[DW H.Bu 0,DW (H.CO kS).Bu 0]⟩,(H.CO kS).CO kS,fun base W0 μ W v' hT hv hH=>?_,_,_,n1,n2,Ne.symm n3,rfl,?_,?_,?_⟩
      ·obtain⟨μ2,a1,a2,a3⟩:=hH.WN (k:=kS) (hT 9 ⟨Nat.le_refl 9,Nat.lt_succ_self 9⟩)
       obtain⟨T,hT9⟩:=hT 9 ⟨Nat.le_refl 9,Nat.lt_succ_self 9⟩
       obtain⟨μ3,b1,b2,b3⟩:=a2.WN (k:=kS) ⟨T,a1 9 T hT9⟩
       refine⟨μ3,Ad.le_trans a1 b1,b2,?_⟩
       cases hv with
       | tuple _ xs' hx ex=>
        refine .tuple _ _ hx fun i hi hi'=>?_
        have hs:xs'.size=2:=hx.symm
        have e0:=ex 0 (by decide) (by omega)
        have e1:=ex 1 (by decide) (by omega)
        match i,hi,hi' with
        | 0,_,_=>
         have e0:AH μ (.slice none 0 0) xs'[0]:=e0
         show AH μ3 (DW H.Bu 0) xs'[0]
         generalize xs'[0]=w at e0
         cases e0
         exact a3.mono b1
        | 1,_,_=>
         have e1:AH μ (.slice none 0 0) xs'[1]:=e1
         show AH μ3 (DW (H.CO kS).Bu 0) xs'[1]
         generalize xs'[1]=w at e1
         cases e1
         exact b3
      ·simp only[List.cons.injEq,and_true]at h ⊢
       obtain⟨g1,g2,g3,g4⟩:=h
       refine⟨?_,?_,?_,?_⟩<;>rw[AA.CM,if_neg (by omega),AA.CM,if_neg (by omega)]<;>assumption
      ·rw[AA.CM,if_neg (Ne.symm n3),AA.CM,if_pos rfl]
      ·rw[AA.CM,if_pos rfl]
     ·rintro v H ⟨k1,k2,n1,n2,n3,rfl,h,g5,g6⟩
      simp only[List.cons.injEq,and_true]at h
      obtain⟨g1,g2,g3,g4⟩:=h
      have s1:=B0 (s:= .table []) (bs:=[11]) (H:=H) (by simp)
      refine⟨C1 (.table []) [11] H,bT (rs:=[9]) (o:= .cells [.bool true,.slice none 0 0] 0 false) .Cv (hD9 _) ?_ g3 rfl rfl rfl (.refl _),10,11,12,k1,k2,by rw[hl];rfl,⟨by decide,?_,?_,?_,?_⟩,n3,?_,?_,by omega,by omega,?_,?_⟩
      ·rw[Az g1 rfl]
       show 11∈Ah H 0 199 [10,11,12] [9]
       rw[Az g2 rfl]
       show 11∈Ah H 0 198 [11,12] [9,10]
       rw[Az g3 rfl]
       exact Bg H 0 _ _ _ 11 (by simp)
      ·rw[s1.C2 9 (by simp)];exact g1
      ·rw[s1.C2 10 (by simp)];exact g2
      ·rw[s1.root 11 rfl,hl];rfl
      ·rw[s1.C2 12 (by simp)];exact g4
      ·simp;omega
      ·simp;omega
      ·rw[s1.C2 k1 (by simp;omega),hl];exact g5
      ·rw[s1.C2 k2 (by simp;omega),hl];exact g6
    | table l=>
     subst hl
     refine⟨_,HT (H:=BF ⟨.leaf,9⟩ (LW m)) (b:=11) (ro:=false) (o1:=CS 13 m.now.length) (p1:= .vec AT m.now false) (show 11 < 13 by decide) (S3 m) rfl rfl,?_⟩
     rw[SL]
     refine At.shut (Ui m m.now hn).I3 ?_
     rintro v H ⟨rfl,g9,Kj,g18,g19,g20,g21,g22⟩
     have s1:=B0 (s:= .table m.now) (bs:=[19,10]) (H:=H) (by simp)
     have hR:∀y,y=19∨y=10→y∈Ah H 0 200 [9] []:=by
      intro y hy
      rw[Az g9 rfl]
      show y∈Ah H 0 199 [18,19,20] [9]
      rw[Az g18 rfl]
      show y∈Ah H 0 198 [19,20] [9,18]
      rw[Az g19 rfl]
      show y∈Ah H 0 197 [10,20] [9,18,19]
      rw[Az Kj rfl]
      exact Bg H 0 _ _ _ y (by rcases hy with rfl | rfl<;>simp)
     refine⟨C1 (.table m.now) [19,10] H,Ol (rs:=[9]) (.table m.now) (hD9 _) (hR 19 (.inl rfl)) (hR 10 (.inr rfl)) (by decide) g19 rfl rfl rfl Kj rfl rfl rfl (.refl _),18,19,20,22,21,rfl,⟨by decide,?_,?_,?_,?_⟩,by decide,by decide,by decide,by decide,by decide,?_,?_⟩
     ·rw[s1.C2 9 (by simp)];exact g9
     ·rw[s1.C2 18 (by simp)];exact g18
     ·exact s1.root 19 rfl
     ·rw[s1.C2 20 (by simp)];exact g20
     ·rw[s1.C2 22 (by simp)];exact g22
     ·rw[s1.C2 21 (by simp)];exact g21
   ·rintro v H ⟨b,n,x,k1,k2,rfl,hM,hne,h1,h2,hk1,hk2,g1,g2⟩
    obtain⟨H2,j1,j2,j3⟩:=RZ (D:=fun b=>9≤b∧b < 9+1) (v:= .tuple ⟨[DW k1 m.now.length,DW k2 m.now.length]⟩) (.inr ⟨Nat.le_refl 9,Nat.lt_succ_self 9⟩) hM
    refine⟨H2,j1,[k1,k2],by simp[hne],fun c hc=>by simp at hc;show 10≤c;omega,rfl,rfl,fun j c p hj hp=>?_,fun j o hj hm ho=>?_⟩
    ·cases j with
     | zero=>cases hj;cases hp;exact⟨_,rfl,by rw[j3 k1 h1];exact g1⟩
     | succ j=>cases j with
      | zero=>cases hj;cases hp;exact⟨_,rfl,by rw[j3 k2 h2];exact g2⟩
      | succ j=>cases j<;>cases hj
    ·cases j with
     | zero=>cases ho;exact⟨_,rfl,j2⟩
     | succ j=>exact absurd hj (by show ¬(j+1 < 1);omega)
  ·cases hx
 ·cases hx
end Go.AD

set_option maxRecDepth 1000000
namespace Go.AD
open Go.Proofs
theorem NP:∀a b:List UInt8,Op.bytesLess a b=true∨a=b∨Op.bytesLess b a=true:=by
 intro a
 induction a with
 | nil=>intro b;cases b with
  | nil=>exact .inr (.inl rfl)
  | cons y b=>exact .inl rfl
 | cons x a ih=>
  intro b
  cases b with
  | nil=>exact .inr (.inr rfl)
  | cons y b=>
   simp only[Op.bytesLess,Bool.or_eq_true,Bool.and_eq_true,decide_eq_true_eq,beq_iff_eq]
   rcases(show x < y∨x=y∨y < x by rcases Nat.lt_trichotomy x.toNat y.toNat with h | h | h;exact .inl (UInt8.lt_iff_toNat_lt.2 h);exact .inr (.inl (UInt8.toNat_inj.1 h));exact .inr (.inr (UInt8.lt_iff_toNat_lt.2 h)))with h | h | h
   ·exact .inl (.inl h)
   ·subst h
    rcases ih b with h | h | h
    ·exact .inl (.inr ⟨rfl,h⟩)
    ·exact .inr (.inl (by rw[h]))
    ·exact .inr (.inr (.inr ⟨rfl,h⟩))
   ·exact .inr (.inr (.inl h))
theorem Qk {a b:ByteArray} (h:a.toList=b.toList):a=b:=by
 rw[ByteArray.toList_eq,ByteArray.toList_eq]at h
 obtain⟨⟨a⟩⟩:=a
 obtain⟨⟨b⟩⟩:=b
 simp only at h
 rw[h]
theorem JE (a:ByteArray):Gy a a=false:=KB _
theorem Nj {a b:ByteArray} (h:Gy a b=true):Gy b a=false:=by
 cases h2:Gy b a
 ·rfl
 ·have:=KT h h2
  rw[JE]at this;cases this
theorem Z9 (a b:ByteArray):Gy a b=true∨a=b∨Gy b a=true:=by
 rcases NP a.toList b.toList with h | h | h
 ·exact .inl h
 ·exact .inr (.inl (Qk h))
 ·exact .inr (.inr h)
theorem Ox {a b:ByteArray} (h:Gy a b=true):(a.toList==b.toList)=false:=by
 cases h2:a.toList==b.toList
 ·rfl
 ·have:=Qk (eq_of_beq h2)
  subst this
  rw[JE]at h;cases h
theorem HV (x:EK.C AT) (l:List (EK.C AT)) (k:ByteArray):AO (x::l) k=if Gy x.1 k then AO l k+1 else 0:=by
 unfold AO
 rw[List.takeWhile_cons]
 split<;>rfl
inductive Vw (k:ByteArray):List (EK.C AT)→Prop where
 | has (a b:List (EK.C AT)) (v:ByteArray) (ha:∀x∈a,Gy x.1 k=true) (hb:∀x∈b,Gy k x.1=true) (hr:AO (a++(k,v)::b) k=a.length):Vw k (a++(k,v)::b)
 | none (a b:List (EK.C AT)) (ha:∀x∈a,Gy x.1 k=true) (hb:∀x∈b,Gy k x.1=true) (hr:AO (a++b) k=a.length):Vw k (a++b)
theorem parts (k:ByteArray):∀l:List (EK.C AT),A8 l→Vw k l:=by
 intro l
 induction l with
 | nil=>intro _;exact .none [] [] (fun x hx=>by cases hx) (fun x hx=>by cases hx) rfl
 | cons x l ih=>
  intro hs
  have hs':=List.pairwise_cons.1 hs
  cases hx:Gy x.1 k
  ·rcases Z9 x.1 k with h | h | h
   ·rw[hx]at h;cases h
   ·obtain⟨x1,x2⟩:=x
    simp only at h
    subst h
    exact .has [] l x2 (fun x hx=>by cases hx) (fun y hy=>hs'.1 y hy) (by rw[List.nil_append,HV,if_neg (by rw[hx];simp)];rfl)
   ·refine .none [] (x::l) (fun x hx=>by cases hx) (fun y hy=>?_) (by rw[List.nil_append,HV,if_neg (by rw[hx];simp)];rfl)
    rcases List.mem_cons.1 hy with rfl | hy
    ·exact h
    ·exact KT h (hs'.1 y hy)
  ·cases ih hs'.2 with
   | has a b v ha hb hr=>
    refine .has (x::a) b v (fun y hy=>?_) hb (by rw[List.cons_append,HV,if_pos hx,hr];rfl)
    rcases List.mem_cons.1 hy with rfl | hy
    ·exact hx
    ·exact ha y hy
   | none a b ha hb hr=>
    refine .none (x::a) b (fun y hy=>?_) hb (by rw[List.cons_append,HV,if_pos hx,hr];rfl)
    rcases List.mem_cons.1 hy with rfl | hy
    ·exact hx
    ·exact ha y hy
theorem Mg (a b:List (EK.C AT)) (x:EK.C AT):(a++x::b).getD a.length (EK.AU AT)=x:=by
 rw[List.getD_eq_getElem?_getD,List.getElem?_append_right (Nat.le_refl _),Nat.sub_self];rfl
theorem KS {k:ByteArray} {a b:List (EK.C AT)} (ha:∀x∈a,Gy x.1 k=true) (hb:∀x∈b,Gy k x.1=true):EY (a++b) k=a∧Dl (a++b) k=b:=by
 have e1:EY a k=a:=List.filter_eq_self.2 fun x hx=>ha x hx
 have e2:EY b k=[]:=List.filter_eq_nil_iff.2 fun x hx=>by
  have:=Nj (hb x hx)
  unfold Gy at this;rw[this];simp
 have e3:Dl a k=[]:=List.filter_eq_nil_iff.2 fun x hx=>by
  have h1:=ha x hx
  unfold Gy at h1
  unfold X7;rw[h1];simp
 have e4:Dl b k=b:=List.filter_eq_self.2 fun x hx=>by
  have h1:=Nj (hb x hx)
  have h2:=Ox (hb x hx)
  unfold Gy at h1
  have h3:(ByteArray.toList x.1==ByteArray.toList k)=false:=by
   cases h:ByteArray.toList x.1==ByteArray.toList k
   ·rfl
   ·rw[beq_iff_eq]at h;rw[h]at h2;simp at h2
  unfold X7;rw[h1,h3];rfl
 constructor
 ·unfold EY at *;rw[List.filter_append,e1,e2,List.append_nil]
 ·unfold Dl at *;rw[List.filter_append,e3,e4,List.nil_append]
theorem Xq (k v:ByteArray):X7 ((k,v):EK.C AT).1 k=false:=by
 unfold X7;simp
theorem TZ {k v:ByteArray} {a b:List (EK.C AT)} (ha:∀x∈a,Gy x.1 k=true) (hb:∀x∈b,Gy k x.1=true):EY (a++(k,v)::b) k=a∧Dl (a++(k,v)::b) k=b:=by
 obtain⟨h1,h2⟩:=KS ha hb
 have hk:Gy k k=false:=JE k
 unfold Gy at hk
 constructor
 ·conv=>rhs;rw[←h1]
  unfold EY
  rw[List.filter_append,List.filter_append,List.filter_cons_of_neg (by show ¬Op.bytesLess (ByteArray.toList k) (ByteArray.toList k)=true;rw[hk];simp)]
 ·conv=>rhs;rw[←h2]
  unfold Dl
  rw[List.filter_append,List.filter_append,List.filter_cons_of_neg (by rw[Xq k v];simp)]
theorem Kc {k v:ByteArray} {a b:List (EK.C AT)} (hr:AO (a++(k,v)::b) k=a.length):DH (a++(k,v)::b) k=some v:=by
 unfold DH
 rw[hr,Mg,if_pos ⟨by simp,by simp⟩]
theorem IU {k:ByteArray} {a b:List (EK.C AT)} (hb:∀x∈b,Gy k x.1=true) (hr:AO (a++b) k=a.length):DH (a++b) k=none:=by
 unfold DH
 rw[hr,if_neg]
 rintro⟨h1,h2⟩
 cases b with
 | nil=>simp at h1
 | cons y b=>
  rw[Mg]at h2
  have:=Ox (hb y (by simp))
  rw[beq_iff_eq]at h2
  rw[h2]at this
  simp at this
theorem Q5 {l:List (EK.C AT)} (hs:A8 l) (k:ByteArray):C6 l k=DH l k:=by
 have hf:∀a b:List (EK.C AT),(∀x∈a,Gy x.1 k=true)→(a++b).find? (fun x=>ByteArray.toList x.1==ByteArray.toList k)=b.find? (fun x=>ByteArray.toList x.1==ByteArray.toList k):=by
  intro a b ha
  rw[List.find?_append,List.find?_eq_none.2 (fun x hx=>by rw[Ox (ha x hx)];simp)];rfl
 cases parts k l hs with
 | has a b v ha hb hr=>
  rw[Kc hr]
  unfold C6
  rw[hf a _ ha,List.find?_cons_of_pos (by simp)];rfl
 | none a b ha hb hr=>
  rw[IU hb hr]
  unfold C6
  rw[hf a _ ha,List.find?_eq_none.2 (fun x hx=>?_)]
  ·rfl
  ·have h2:=Ox (hb x hx)
   intro h;rw[beq_iff_eq]at h;rw[h]at h2;simp at h2
theorem DG (a b:List (EK.C AT)):BA (a++b)=BA a+BA b:=by
 unfold BA;rw[List.map_append,List.sum_append]
theorem FC (x:EK.C AT) (b:List (EK.C AT)):BA (x::b)=CY x+BA b:=by
 unfold BA;rw[List.map_cons,List.sum_cons]
theorem LY {l:List (EK.C AT)} (hs:A8 l) (k v:ByteArray):EW l k v=BS l 1 k v∧A8 (BS l 1 k v)∧(BS l 1 k v).length≤l.length+1∧(∀x∈BS l 1 k v,x∈l∨x=(k,v))∧
 BA (BS l 1 k v)=(match DH l k with | some o=>BA l - CY (k,o) | none=>BA l)+CY (k,v):=by
 have hso:∀a b:List (EK.C AT),A8 (a++b)→(∀x∈a,Gy x.1 k=true)→(∀x∈b,Gy k x.1=true)→A8 (a++(k,v)::b):=by
  intro a b h ha hb
  obtain⟨h1,h2,h3⟩:=List.pairwise_append.1 h
  refine List.pairwise_append.2 ⟨h1,List.pairwise_cons.2 ⟨hb,h2⟩,fun x hx y hy=>?_⟩
  rcases List.mem_cons.1 hy with rfl | hy
  ·exact ha x hx
  ·exact h3 x hx y hy
 cases parts k l hs with
 | has a b w ha hb hr=>
  obtain⟨e1,e2⟩:=TZ (v:=w) ha hb
  have hw:BS (a++(k,w)::b) 1 k v=a++(k,v)::b:=by
   unfold BS;rw[e1,e2]
   show(a++[(k,v)])++b=_
   rw[List.append_assoc];rfl
  have hab:A8 (a++b):=by
   obtain⟨h1,h2,h3⟩:=List.pairwise_append.1 hs
   exact List.pairwise_append.2 ⟨h1,(List.pairwise_cons.1 h2).2,fun x hx y hy=>h3 x hx y (by simp[hy])⟩
  rw[hw]
  refine⟨?_,hso a b hab ha hb,by simp,fun x hx=>?_,?_⟩
  ·unfold EW
   rw[Kc hr,hr,Mg]
   simp only
   rw[List.set_append_right _ _ (Nat.le_refl _),Nat.sub_self];rfl
  ·simp only[List.mem_append,List.mem_cons]at hx ⊢
   rcases hx with h | h | h
   ·exact .inl (.inl h)
   ·exact .inr h
   ·exact .inl (.inr (.inr h))
  ·rw[Kc hr]
   simp only
   rw[DG,DG,FC,FC];omega
 | none a b ha hb hr=>
  obtain⟨e1,e2⟩:=KS ha hb
  have hw:BS (a++b) 1 k v=a++(k,v)::b:=by
   unfold BS;rw[e1,e2]
   show(a++[(k,v)])++b=_
   rw[List.append_assoc];rfl
  rw[hw]
  refine⟨?_,hso a b hs ha hb,by simp only[List.length_append,List.length_cons];omega,fun x hx=>?_,?_⟩
  ·unfold EW
   rw[IU hb hr,hr]
   simp only
   rw[List.take_left,List.drop_left];rfl
  ·simp only[List.mem_append,List.mem_cons]at hx ⊢
   rcases hx with h | h | h
   ·exact .inl (.inl h)
   ·exact .inr h
   ·exact .inl (.inr h)
  ·rw[IU hb hr]
   simp only
   rw[DG,DG,FC];omega
theorem Og {l:List (EK.C AT)} (hs:A8 l) (k v:ByteArray):Ej l k=BS l 3 k v∧A8 (BS l 3 k v)∧(BS l 3 k v).length≤l.length∧(∀x∈BS l 3 k v,x∈l)∧
 BA (BS l 3 k v)=(match DH l k with | some o=>BA l - CY (k,o) | none=>BA l):=by
 cases parts k l hs with
 | has a b w ha hb hr=>
  obtain⟨e1,e2⟩:=TZ (v:=w) ha hb
  have hw:BS (a++(k,w)::b) 3 k v=a++b:=by unfold BS;rw[e1,e2];rfl
  rw[hw]
  refine⟨?_,?_,by simp,fun x hx=>?_,?_⟩
  ·unfold Ej
   rw[Kc hr,hr]
   simp only
   rw[List.take_left,←List.drop_drop,List.drop_left];rfl
  ·obtain⟨h1,h2,h3⟩:=List.pairwise_append.1 hs
   exact List.pairwise_append.2 ⟨h1,(List.pairwise_cons.1 h2).2,fun x hx y hy=>h3 x hx y (by simp[hy])⟩
  ·simp only[List.mem_append,List.mem_cons]at hx ⊢
   rcases hx with h | h
   ·exact .inl h
   ·exact .inr (.inr h)
  ·rw[Kc hr]
   simp only
   rw[DG,DG,FC];omega
 | none a b ha hb hr=>
  obtain⟨e1,e2⟩:=KS ha hb
  have hw:BS (a++b) 3 k v=a++b:=by unfold BS;rw[e1,e2];rfl
  rw[hw]
  refine⟨?_,hs,Nat.le_refl _,fun x hx=>hx,?_⟩
  ·unfold Ej;rw[IU hb hr]
  ·rw[IU hb hr]
end Go.AD

set_option maxRecDepth 1000000
namespace Go.AD
open Go.Proofs
theorem Rl {f:FuncId} {n:Nat} (he:entry Tryz.prog f=some (n,BH Tryz.prog f [])) {q:Ct}
 (hF:∀args,q.ok args→args.all flat=true∧args.length≤n∧flat (q.v args)=true∧∃fs,Au Tryz.prog Bs fs∧Ai (Cf Tryz.prog Bs fs) 20 f (fun v' _=>v'=q.v args) (st f n args (GK Bs 20))):Dr Tryz.prog Bs f q.F:=by
 refine⟨⟨n,_,he⟩,?_⟩
 intro base W0 μ H W args args' v H' hW hH hl ha hFv
 unfold Ct.F at hFv
 split at hFv
 ·rename_i hq
  cases hFv
  obtain⟨h1,h2,h3,fs,hfs,h4⟩:=hF args hq
  have hW1:DX (Cf Tryz.prog Bs fs) (base.at W) W:=by
   have:=hW.carry hH
   unfold DX at this ⊢
   exact this
  obtain⟨s1,s2⟩:=Mj (X:=Cf Tryz.prog Bs fs) hW1 (none_le _) (fun _ hi=>hi) (n:=20) (Mk (by kernel_rfl))
  have hargs:args'.toList=args:=Gw args _ h1 ha
  intro cs
  obtain⟨c',⟨v2,Hf,hd,rfl⟩,μ1,fr1,cs1,W1,st,m1⟩:=h4 (base.at W) W (fun b T hb=>by cases hb) (hfs.GC _ _ hW1) (FZ (by kernel_rfl) rfl) cs _ _ [] W (Fb s1 s2 he (by rw[hargs];exact D3 args h1) h2)
  obtain⟨rfl,hf,v',e1,e2,e3⟩:=Gp m1 hd
  have hs':Steps (Cf Tryz.prog Bs fs).P (lone (Frame.enter (Cf Tryz.prog Bs fs).P f args' .normal) cs W) (lone fr1 cs W1):=by simpa using st
  refine⟨.returned v',W1,fr1,⟨v',μ,rfl,hH.carry (FP e2) e2.below e2.out e2.os,?_,Af.refl _ _⟩,hs',hf,e1⟩
  rw[Eu h3 e3];exact Ce h3
 ·cases hFv
def P0:ByteArray:={ data:=#[48,49,50,51,52,53,54,55,56,57,97,98,99,100,101,102] }
def dI (i:Nat):ByteArray:=⟨(([[97],[98],[99],[97,98],[107,49]]:List (List UInt8)).getD i []).toArray⟩
def Vl (val:Int):ByteArray:=ByteArray.extract P0 0 (Int.toNat (Int.tmod val 17))
noncomputable def O8 (s:ByteArray) (kind val:Int) (Q:Value→List (Option AJ)→Prop):Prop:=
 (bif decide (Int.tmod kind 8 < 4)then
  (bif decide (0≤Int.tmod val 17)&&Nat.ble (Int.toNat (Int.tmod val 17)) (ByteArray.size P0)&&decide ((0:Int)≤0)&&Nat.ble 0 (Int.toNat (Int.tmod val 17))then
   (Q (Ei 1 0 0 s (Vl val)) [])
  else False)
 else
  (bif decide (Int.tmod kind 8 < 6)then(Q (Ei 3 0 0 s { data:=#[] }) [])
  else
   (bif Int.tmod kind 8==6 then(Q (Ei 4 0 0 { data:=#[] } { data:=#[] }) [])
   else(Q (Ei 2 0 0 s { data:=#[] }) []))))
theorem dA (kind val:Int) (Q:Value→List (Option AJ)→Prop):(List.range 256).map (fun key=>FD X0 Cp A7 [] Q 300 (st A7 35 [.agg ⟨[.int .u8 kind,.int .u8 (Int.ofNat key),.int .u8 val]⟩] (GK AM 20)))=(List.range 256).map (fun key=>O8 (dI (key % 5)) kind val Q):=by kernel_rfl
end Go.AD

set_option maxRecDepth 1000000
namespace Go.AD
open Go.Proofs
def aK (kind:Int):Int:=bif decide (Int.tmod kind 8 < 4)then 1 else bif decide (Int.tmod kind 8 < 6)then 3 else bif Int.tmod kind 8==6 then 4 else 2
def aS (kind key:Int):ByteArray:=bif aK kind==4 then { data:=#[] } else dI (key.toNat % 5)
def aV (kind val:Int):ByteArray:=bif aK kind==1 then Vl val else { data:=#[] }
def Eg (x:Int):Prop:=0≤x∧x < 256
noncomputable def qOp:Ct where
 ok:=fun args=>match args with
  | [.agg ⟨[.int .u8 kind,.int .u8 key,.int .u8 val]⟩]=>Eg kind∧Eg key∧Eg val
  | _=>False
 v:=fun args=>match args with
  | [.agg ⟨[.int .u8 kind,.int .u8 key,.int .u8 val]⟩]=>Ei (aK kind) 0 0 (aS kind key) (aV kind val)
  | _=>Be
noncomputable def fg:GP:=fun args H K=>match args with
 | [.agg ⟨[.int .u8 kind,.int .u8 key,.int .u8 val]⟩]=>(Eg kind∧Eg key∧Eg val)∧K (.agg ⟨[.int .i64 (aK kind),.int .i64 0,.int .i64 0,.string (aS kind key),.string (aV kind val)]⟩) H
 | _=>False
theorem cN {X:Ctx} {f:FuncId} (hX:X.GC f=some qOp.F) (args:List Value) (H:AA) (K:Value→AA→Prop) (h:fg args H K):∃v H',B5 X f args .normal H=some (v,H')∧K v H':=by
 unfold fg at h
 split at h
 ·exact Ct.aG (q:=qOp) hX _ H K ⟨h.1,h.2⟩
 ·exact h.elim
theorem bg {val:Int} (h:Eg val):0≤Int.tmod val 17∧Int.tmod val 17 < 17:=by
 obtain⟨h1,_⟩:=h
 rw[Int.tmod_eq_emod_of_nonneg h1]
 exact⟨Int.emod_nonneg _ (by decide),Int.emod_lt_of_pos _ (by decide)⟩
theorem Zg {kind key val:Int} (hv:Eg val):O8 (dI (key.toNat % 5)) kind val (fun v _=>v=Ei (aK kind) 0 0 (aS kind key) (aV kind val)):=by
 obtain⟨h1,h2⟩:=bg hv
 have hb:(decide (0≤Int.tmod val 17)&&Nat.ble (Int.toNat (Int.tmod val 17)) (ByteArray.size P0)&&decide ((0:Int)≤0)&&Nat.ble 0 (Int.toNat (Int.tmod val 17)))=true:=by
  have e1:ByteArray.size P0=16:=rfl
  rw[e1,decide_eq_true h1,Nat.ble_eq_true_of_le (by omega),Nat.ble_eq_true_of_le (Nat.zero_le _)];rfl
 unfold O8 aV aS aK
 rw[hb]
 cases decide (Int.tmod kind 8 < 4)
 ·cases decide (Int.tmod kind 8 < 6)
  ·cases Int.tmod kind 8==6<;>rfl
  ·rfl
 ·rfl
theorem Y1 {kind key val:Int} (h2:Eg key) (h3:Eg val):Bc X0 A7 (fun v _=>v=Ei (aK kind) 0 0 (aS kind key) (aV kind val)) (st A7 35 [.agg ⟨[.int .u8 kind,.int .u8 key,.int .u8 val]⟩] (GK AM 20)):=by
 refine B4 (Ax X0) (ids:=[]) (Q:=fun v _=>v=Ei (aK kind) 0 0 (aS kind key) (aV kind val)) 300 _ ?_
 obtain⟨k,rfl⟩:=Int.eq_ofNat_of_zero_le h2.1
 have hk:k < 256:=by have:=h2.2;omega
 have h:=List.map_inj_left.1 (dA kind val (fun v _=>v=Ei (aK kind) 0 0 (aS kind (k:Int)) (aV kind val))) k (List.mem_range.2 hk)
 have h:FD X0 Cp A7 [] (fun v _=>v=Ei (aK kind) 0 0 (aS kind (k:Int)) (aV kind val)) 300 (st A7 35 [.agg ⟨[.int .u8 kind,.int .u8 (k:Int),.int .u8 val]⟩] (GK AM 20))=O8 (dI (k % 5)) kind val (fun v _=>v=Ei (aK kind) 0 0 (aS kind (k:Int)) (aV kind val)):=h
 rw[h]
 have:=Zg (kind:=kind) (key:=(k:Int)) (val:=val) h3
 rwa [Int.toNat_natCast]at this
theorem Vk:Dr Tryz.prog AM A7 qOp.F:=by
 refine Rl (n:=35) (by kernel_rfl) fun args h=>?_
 unfold qOp at h
 simp only at h
 split at h
 ·rename_i kind key val
  refine⟨rfl,by simp,rfl,[],Au.nil _ _,?_⟩
  exact(Y1 h.2.1 h.2.2).GF
 ·exact h.elim
end Go.AD

set_option maxRecDepth 1000000
namespace Go.AD
open Go.Proofs
noncomputable def LZ (cfg:List Int) (m y n:Nat):List Value:=
 [.pointer (some ⟨m,0,none⟩),.int .i64 (cfg.getD 0 0),.int .i64 (cfg.getD 1 0),.int .i64 (cfg.getD 2 0),.int .i64 (cfg.getD 3 0),.int .i64 (cfg.getD 4 0),.int .i64 (cfg.getD 5 0),.int .i64 (cfg.getD 6 0),.slice (some ⟨y,0,some 0⟩) n AE]
noncomputable def I5 (x:Value) (p:GP):GP:=fun args H K=>match args with
 | a::r=>a=x∧p (x::r) H K
 | []=>False
noncomputable def Ky:Fg:=⟨fun _ rest=>rest=[],fun m _=> .int .i64 m.cost,fun m _=>m⟩
noncomputable def Zm:Fg:=⟨fun _ rest=>rest=[],fun m _=> .int .i64 m.AG.length,fun m _=>m⟩
theorem VY (m:AB) (Q:Value→List (Option AJ)→Prop):FD XM Ws CA [9,10,11,12] Q 100 (st CA 10 [p9] (BF ⟨.leaf,9⟩ (LW m)))=(
 (Q (.int .i64 (AB.cost m)) [some (.cells [(.int .i64 (List.getD (AB.cfg m) 0 0)),(.int .i64 (List.getD (AB.cfg m) 1 0)),(.int .i64 (List.getD (AB.cfg m) 2 0)),(.int .i64 (List.getD (AB.cfg m) 3 0)),(.int .i64 (List.getD (AB.cfg m) 4 0)),(.int .i64 (List.getD (AB.cfg m) 5 0)),(.int .i64 (List.getD (AB.cfg m) 6 0)),(.int .i64 (AB.Al m)),(.pointer (some ⟨10,0,none⟩)),(.pointer (some ⟨11,0,none⟩)),(.int .i64 (AB.cost m)),(.slice (some ⟨12,0,(some 0)⟩) (List.length (AB.AG m)) 18446744073709551616),(.pointer none),(.int .i64 (AB.state m)),(.bool (AB.AS m))] 0 false),some (.abs (AX.pack (Pk.table (AB.base m))) false),some (.abs (AX.pack (Pk.table (AB.now m))) false),some (.vec Bn (AB.AG m) false)])):=by kernel_rfl
theorem Yb (m:AB) (Q:Value→List (Option AJ)→Prop):FD XM Ws Ba [9,10,11,12] Q 100 (st Ba 11 [p9] (BF ⟨.leaf,9⟩ (LW m)))=(
 (Q (.int .i64 (Int.ofNat (List.length (AB.AG m)))) [some (.cells [(.int .i64 (List.getD (AB.cfg m) 0 0)),(.int .i64 (List.getD (AB.cfg m) 1 0)),(.int .i64 (List.getD (AB.cfg m) 2 0)),(.int .i64 (List.getD (AB.cfg m) 3 0)),(.int .i64 (List.getD (AB.cfg m) 4 0)),(.int .i64 (List.getD (AB.cfg m) 5 0)),(.int .i64 (List.getD (AB.cfg m) 6 0)),(.int .i64 (AB.Al m)),(.pointer (some ⟨10,0,none⟩)),(.pointer (some ⟨11,0,none⟩)),(.int .i64 (AB.cost m)),(.slice (some ⟨12,0,(some 0)⟩) (List.length (AB.AG m)) 18446744073709551616),(.pointer none),(.int .i64 (AB.state m)),(.bool (AB.AS m))] 0 false),some (.abs (AX.pack (Pk.table (AB.base m))) false),some (.abs (AX.pack (Pk.table (AB.now m))) false),some (.vec Bn (AB.AG m) false)])):=by kernel_rfl
def HP (m:AB) (k a b:Int) (key val:ByteArray) (e:Int) (sv:ByteArray):Prop:=m.cfg.length=7∧m.state=0∧m.AS=false∧HW k a b key val∧A8 m.now∧m.now.length < 900000∧m.AG.length < 1000000∧((k==7)=true→(e==0&&(ByteArray.toList sv==ByteArray.toList { data:=#[] }&&true))=false)
noncomputable def Dq (m:AB) (k a b:Int) (key val:ByteArray) (e:Int) (sv:ByteArray):AB:=(NM m k a b key val e sv).getD m
noncomputable def e7 (m:AB) (k a b:Int) (key val:ByteArray) (e:Int) (sv:ByteArray):Bool:=(NM m k a b key val e sv).isSome
noncomputable def Ii (m:AB) (k a b:Int) (key val:ByteArray) (e:Int) (sv:ByteArray):Int:=bif e7 m k a b key val e sv then 0 else 7
noncomputable def eo (args:List Value) (objs:List AJ):GT:=
 match args,objs with
 | [.pointer (some ⟨9,0,none⟩),.agg ⟨[.int .i64 k,.int .i64 a,.int .i64 b,.string key,.string val]⟩,.agg ⟨[.int .i64 e,.string sv]⟩],[.abs (.pack (.model m)) _]=>
  .ask (HP m k a b key val e sv) (.ret ⟨.int .i64 (Ii m k a b key val e sv),[some (.abs (.pack (.model (Dq m k a b key val e sv))) false)],[]⟩)
 | _,_=> .fail
noncomputable def cC (k:Int) (s v:ByteArray):GP:=fun args H K=>match args with
 | [.agg ⟨[.int .u8 kind,.int .u8 key,.int .u8 val]⟩]=>((Eg kind∧Eg key∧Eg val)∧aK kind=k∧aS kind key=s∧aV kind val=v)∧K (Ei k 0 0 s v) H
 | _=>False
def Q4:Stop:=⟨AK,0,3,13,[9,10,11,12],[0,5,8,9,10]⟩
end Go.AD

set_option maxRecDepth 1000000
namespace Go.AD
open Go.Proofs
def Dt (s:Int):List Int:=[4+s,100,2,200,8,16,1]
structure FE (cfg:List Int) (m:AB) (n:Nat) (cur:List (EK.C AT)) (i:Nat):Prop where
 s:∃s:Int,0≤s∧s≤7∧cfg=Dt s∧m.cfg=Dt s∧m.Al=42 * s
 now:m.now=cur
 sorted:A8 cur
 cost:m.cost=BA cur
 AG:m.AG.length=n
 st:m.state=0
 pl:m.AS=false
 len:cur.length≤i
 K4:n≤i
 YS:m.base.length≤i
 small:∀x∈cur,x.1.size≤16∧x.2.size≤16
 le:i≤1000
theorem FQ (x:EK.C AT):16≤CY x:=by unfold CY;omega
theorem GM {k v:ByteArray} (h1:k.size≤16) (h2:v.size≤16):CY ((k,v):EK.C AT)≤48:=by
 show 16+(k.size:Int)+(v.size:Int)≤48;omega
theorem OO {k v:ByteArray} (h1:k.size≤16) (h2:v.size≤16):recC k v=CY ((k,v):EK.C AT):=by
 unfold recC
 rw[FV (x:=16+(k.size:Int)) (by omega) (by omega),FV (by omega) (by omega)];rfl
theorem KY:∀(l:List (EK.C AT)),(∀x∈l,x.1.size≤16∧x.2.size≤16)→0≤BA l∧BA l≤48 * l.length
 | [],_=>by simp[BA]
 | x::l,h=>by
  have h1:=KY l (fun y hy=>h y (by simp[hy]))
  have h2:=h x (by simp)
  have h3:=FQ x
  have h4:=GM (k:=x.1) (v:=x.2) h2.1 h2.2
  rw[FC]
  simp only[List.length_cons]
  have h5:CY x≤48:=h4
  omega
theorem Nu {l:List (EK.C AT)} (h:∀x∈l,x.1.size≤16∧x.2.size≤16) (hl:l.length≤2000):Fu l:=⟨by omega,fun x hx=>by have:=h x hx;omega⟩
theorem TO {l:List (EK.C AT)} (hs:A8 l) {k o:ByteArray} (h:DH l k=some o):(k,o)∈l:=by
 cases parts k l hs with
 | has a b v ha hb hr=>
  rw[Kc hr]at h
  cases h;simp
 | none a b ha hb hr=>rw[IU hb hr]at h;cases h
section
variable {cfg:List Int} {m:AB} {n i:Nat} {cur:List (EK.C AT)}
theorem Np (h:FE cfg m n cur i) {s v:ByteArray} (hs:s.size≤16) (hv:v.size≤16):D4 m false s v=BA (BS cur 1 s v):=by
 obtain⟨_,_,_,_,e⟩:=LY h.sorted s v
 have hb:=KY cur h.small
 have hl:=h.len
 have hle:=h.le
 have hp:=GM hs hv
 have hp2:=FQ ((s,v):EK.C AT)
 unfold D4
 rw[h.now,h.cost,e,OO hs hv]
 cases ha:DH cur s with
 | none=>
  simp only[Option.isSome_none,cond_false]
  exact wrap64 (by omega) (by omega)
 | some o=>
  have hm:=h.small _ (TO h.sorted ha)
  simp only at hm
  have hp3:=GM hm.1 hm.2
  have hp4:=FQ ((s,o):EK.C AT)
  simp only[Option.isSome_some,cond_true,cond_false,Option.getD_some]
  rw[OO hm.1 hm.2,wrap64 (x:=BA cur - CY ((s,o):EK.C AT)) (by omega) (by omega),wrap64 (by omega) (by omega)]
theorem Un (h:FE cfg m n cur i) {s v:ByteArray}:D4 m true s v=BA (BS cur 3 s v):=by
 obtain⟨_,_,_,_,e⟩:=Og h.sorted s v
 have hb:=KY cur h.small
 have hl:=h.len
 have hle:=h.le
 unfold D4
 rw[h.now,h.cost,e]
 cases ha:DH cur s with
 | none=>rfl
 | some o=>
  have hm:=h.small _ (TO h.sorted ha)
  simp only at hm
  have hp3:=GM hm.1 hm.2
  have hp4:=FQ ((s,o):EK.C AT)
  simp only[Option.isSome_some,cond_true,Option.getD_some]
  rw[OO hm.1 hm.2,wrap64 (by omega) (by omega)]
def K0 (cfg:List Int) (cur:List (EK.C AT)) (s v:ByteArray):Bool:=decide (BA (BS cur 1 s v) > IntKind.wrap .i64 (Int.tdiv (IntKind.wrap .i64 (IntKind.wrap .i64 (IntKind.wrap .i64 (List.getD cfg 0 0 - List.getD cfg 2 0) - 2) * 84)) 2))
theorem V7 {s:Int} (h0:0≤s) (h7:s≤7):IntKind.wrap .i64 (Int.tdiv (IntKind.wrap .i64 (IntKind.wrap .i64 (IntKind.wrap .i64 (List.getD (Dt s) 0 0 - List.getD (Dt s) 2 0) - 2) * 84)) 2)=42 * s:=by
 have e1:List.getD (Dt s) 0 0=4+s:=rfl
 have e2:List.getD (Dt s) 2 0=2:=rfl
 rw[e1,e2,wrap64 (x:=4+s - 2) (by omega) (by omega),wrap64 (x:=4+s - 2 - 2) (by omega) (by omega),wrap64 (x:=(4+s - 2 - 2) * 84) (by omega) (by omega),Int.tdiv_eq_ediv_of_nonneg (by omega),wrap64 (by omega) (by omega)]
 omega
theorem ZH (h:FE cfg m n cur i) {k:Int} {s v:ByteArray} (hs:s.size≤8) (hv:v.size≤16):Cj m k s v=
 bif k==1 then(bif K0 cfg cur s v then(4,e0,false)else(0,e0,true))else bif k==2 then(bif (C6 cur s).isSome then(0,(C6 cur s).getD e0,false)else(5,e0,false))else bif k==3 then(0,e0,(C6 cur s).isSome)else(0,e0,false):=by
 obtain⟨s6,h0,h7,hc,hmc,hml⟩:=h.s
 have b1:U8 m s=false:=by
  unfold U8
  rw[hmc]
  exact decide_eq_false (by show ¬((s.size:Int) > 8);omega)
 have b2:Yw m v=false:=by
  unfold Yw
  rw[hmc]
  exact decide_eq_false (by show ¬((v.size:Int) > 16);omega)
 have b3:Te m s v=K0 cfg cur s v:=by
  unfold Te K0
  rw[Np h (by omega) hv,hml,hc,V7 h0 h7]
 have b4:V5 m s=(C6 cur s).isSome:=by
  unfold V5;rw[h.now,Q5 h.sorted]
 unfold Cj
 rw[b1,b2,b3,b4,h.now,Q5 h.sorted]
 simp only[Bool.or_self,cond_false]
 cases k==1
 ·cases k==2
  ·cases k==3
   ·rfl
   ·cases (DH cur s).isSome<;>rfl
  ·cases hk:DH cur s<;>rfl
 ·rfl
theorem LN {k:Int} {s v:ByteArray} (hc:EO k 0 0 s v) (h7:(k==7)=false) {e we:Int} {wv:ByteArray} {u:Bool} (ha:Cj m k s v=(we,wv,u)) (he:e≠11) (hne:(!(e==we&&(ByteArray.toList { data:=#[] }==ByteArray.toList wv&&true)))=true):
 Ii m k 0 0 s v e { data:=#[] }=7:=by
 have hE:IF { data:=#[] }=true:=by simp[IF]
 unfold Ii e7 NM
 rw[FM hc,h7,ha,hE]
 have e11:(e==11)=false:=by simpa using he
 simp only[e11,hne,Bool.true_and,cond_true]
 cases u<;>cases e==13<;>rfl
theorem Ld {k:Int} {s v:ByteArray} (hc:EO k 0 0 s v) (h7:(k==7)=false) {we:Int} {wv:ByteArray} {u:Bool} (ha:Cj m k s v=(we,wv,u)):Ii m k 0 0 s v 11 { data:=#[] }=bif u then 0 else 7:=by
 have hE:IF { data:=#[] }=true:=by simp[IF]
 unfold Ii e7 NM
 rw[FM hc,h7,ha,hE]
 cases u<;>rfl
theorem JV {k:Int} {s v:ByteArray} (hc:EO k 0 0 s v) (h7:(k==7)=false) {we:Int} {wv:ByteArray} {u:Bool} (ha:Cj m k s v=(we,wv,u)) (h11:(we==11)=false) (h13:(we==13)=false):
 Ii m k 0 0 s v we wv=0∧Dq m k 0 0 s v we wv=Ji k (bif u then Bz m (k==3) s v else m):=by
 unfold Ii e7 Dq NM
 rw[FM hc,h7,ha]
 simp only[h11,h13,Bool.and_false,cond_false,beq_self_eq_true,Bool.and_self,Bool.not_true]
 cases u<;>exact⟨rfl,rfl⟩
theorem W5 (h:FE cfg m n cur i) {j:Nat} (hij:i≤j) (hj:j≤1000):FE cfg m n cur j:=
 ⟨h.s,h.now,h.sorted,h.cost,h.AG,h.st,h.pl,Nat.le_trans h.len hij,Nat.le_trans h.K4 hij,Nat.le_trans h.YS hij,h.small,hj⟩
theorem aH (h:FE cfg m n cur i) {s v:ByteArray} (hs:s.size≤8) (hv:v.size≤16) (hi:i < 1000):FE cfg (Bz m false s v) (n+1) (BS cur 1 s v) (i+1):=by
 obtain⟨e1,e2,e3,e4,e5⟩:=LY h.sorted s v
 have hl:=h.len
 have hnl:=h.K4
 have hbl:=h.YS
 refine⟨h.s,?_,e2,Np h (by omega) hv,?_,h.st,h.pl,by omega,by omega,by show m.base.length≤i+1;omega,fun x hx=>?_,by omega⟩
 ·show EW m.now s v=_
  rw[h.now,e1]
 ·show(m.AG++[(false,s,v)]).length=_
  rw[List.length_append,h.AG];rfl
 ·rcases e4 x hx with hx | rfl
  ·exact h.small x hx
  ·exact⟨show s.size≤16 by omega,hv⟩
theorem Yj (h:FE cfg m n cur i) {s v:ByteArray} (hi:i < 1000):FE cfg (Bz m true s v) (n+1) (BS cur 3 s v) (i+1):=by
 obtain⟨e1,e2,e3,e4,e5⟩:=Og h.sorted s v
 have hl:=h.len
 have hnl:=h.K4
 have hbl:=h.YS
 refine⟨h.s,?_,e2,Un h,?_,h.st,h.pl,by omega,by omega,by show m.base.length≤i+1;omega,fun x hx=>h.small x (e4 x hx),by omega⟩
 ·show Ej m.now s=_
  rw[h.now,e1]
 ·show(m.AG++[(true,s,v)]).length=_
  rw[List.length_append,h.AG];rfl
theorem Wh (h:FE cfg m n cur i) (hi:i < 1000):FE cfg (Rp m) 0 cur (i+1):=by
 have hl:=h.len
 refine⟨h.s,h.now,h.sorted,h.cost,rfl,h.st,h.pl,by omega,by omega,?_,h.small,by omega⟩
 show m.now.length≤i+1
 rw[h.now];omega
noncomputable def CV (cfg:List Int) (cur:List (EK.C AT)) (k:Int) (s v:ByteArray):Int × ByteArray × Bool:=
 bif k==1 then(bif K0 cfg cur s v then(4,e0,false)else(0,e0,true))else bif k==2 then(bif (C6 cur s).isSome then(0,(C6 cur s).getD e0,false)else(5,e0,false))else bif k==3 then(0,e0,(C6 cur s).isSome)else(0,e0,false)
noncomputable def NT (cfg:List Int) (m:AB) (cur:List (EK.C AT)) (k:Int) (s v:ByteArray):AB:=Ji k (bif (CV cfg cur k s v).2.2 then Bz m (k==3) s v else m)
noncomputable def Rh (cfg:List Int) (n:Nat) (cur:List (EK.C AT)) (k:Int) (s v:ByteArray):Nat:=bif k==4 then 0 else bif (CV cfg cur k s v).2.2 then n+1 else n
noncomputable def L0 (cfg:List Int) (cur:List (EK.C AT)) (k:Int) (s v:ByteArray):List (EK.C AT):=bif (CV cfg cur k s v).2.2 then BS cur k s v else cur
theorem YW (h:FE cfg m n cur i) {k:Int} (hk:k=1∨k=2∨k=3∨k=4) {s v:ByteArray} (hs:s.size≤8) (hv:v.size≤16) (hi:i < 1000):FE cfg (NT cfg m cur k s v) (Rh cfg n cur k s v) (L0 cfg cur k s v) (i+1):=by
 have hm:=W5 h (Nat.le_succ i) hi
 rcases hk with rfl | rfl | rfl | rfl
 ·cases ho:K0 cfg cur s v
  ·have e:CV cfg cur 1 s v=(0,e0,true):=by unfold CV;rw[ho];rfl
   unfold NT Rh L0
   rw[e];exact aH h hs hv hi
  ·have e:CV cfg cur 1 s v=(4,e0,false):=by unfold CV;rw[ho];rfl
   unfold NT Rh L0
   rw[e];exact hm
 ·have e:(CV cfg cur 2 s v).2.2=false:=by unfold CV;cases (C6 cur s).isSome<;>rfl
  unfold NT Rh L0
  rw[e];exact hm
 ·have e:(CV cfg cur 3 s v).2.2=(C6 cur s).isSome:=rfl
  unfold NT Rh L0
  rw[e]
  cases (C6 cur s).isSome
  ·exact hm
  ·exact Yj h hi
 ·have e:(CV cfg cur 4 s v).2.2=false:=rfl
  unfold NT Rh L0
  rw[e];exact Wh h hi
end
end Go.AD

set_option maxRecDepth 1000000
namespace Go.AD
open Go.Proofs
theorem Ok {n:Nat} (h:n < 1000000):IntKind.wrap .i64 (Int.ofNat (n+1) - 1)=(n:Int):=by
 have e:Int.ofNat (n+1) - 1=(n:Int):=by show((n+1:Nat):Int) - 1=n;omega
 rw[e,wrap64 (by omega) (by omega)]
theorem Fz {n:Nat} (h:n < 1000000):(decide (0≤IntKind.wrap .i64 (Int.ofNat (n+1) - 1))&&Nat.blt (Int.toNat (IntKind.wrap .i64 (Int.ofNat (n+1) - 1))) (n+1))=true:=by
 rw[Ok h,decide_eq_true (by omega),Int.toNat_natCast]
 exact Nat.ble_eq_true_of_le (by omega)
theorem Ig {cfg:List Int} {m:AB} {n i:Nat} {cur:List (EK.C AT)} (h:FE cfg m n cur i) {k:Int} {s v:ByteArray} (hc:EO k 0 0 s v) (h7:(k==7)=false) (e:Int) (sv:ByteArray):HP m k 0 0 s v e sv:=by
 obtain⟨s6,_,_,_,hmc,_⟩:=h.s
 have h1:=h.len
 have h2:=h.K4
 have h3:=h.le
 exact⟨by rw[hmc];rfl,h.st,h.pl,hc.ok,by rw[h.now];exact h.sorted,by rw[h.now];omega,by rw[h.AG];omega,fun h=>by rw[h7]at h;cases h⟩
theorem NN {cfg:List Int} {m:AB} {n i:Nat} {cur:List (EK.C AT)} (h:FE cfg m n cur i):List.length (AB.base m) < 1000000∧List.length (AB.now m) < 1000000∧List.length (AB.AG m) < 1000000:=by
 have h1:=h.len
 have h2:=h.K4
 have h3:=h.le
 have h4:=h.YS
 exact⟨by omega,by rw[h.now];omega,by rw[h.AG];omega⟩
theorem MF {laid:List (Nat × List Value)} {N:Nat} {muts:List Bool} {G G':List Value→List AJ→GT} (h:∀args objs x,(G args objs).run=some x→(G' args objs).run=some x) (args:List Value) (H:AA) (r:Value × AA) (hr:Ay laid N muts G args H=some r):Ay laid N muts G' args H=some r:=by
 unfold Ay at hr ⊢
 generalize C7 (E9 (P3 laid N (Ah H N 200 (args.flatMap (Ac 4)) []))) args=A at hr ⊢
 generalize Ua (P3 laid N (Ah H N 200 (args.flatMap (Ac 4)) [])) H (Ah H N 200 (args.flatMap (Ac 4)) [])=B at hr ⊢
 cases A with
 | none=>cases hr
 | some a=>cases B with
  | none=>cases hr
  | some o=>
   simp only at hr ⊢
   cases hm:H8 muts H 0 (Ah H N 200 (args.flatMap (Ac 4)) [])
   ·simp only[hm,cond_false]at hr;cases hr
   ·simp only[hm,cond_true]at hr ⊢
    split at hr
    ·rename_i x hx
     rw[h _ _ x hx];exact hr
    ·cases hr
theorem Z5:Dr Tryz.prog AM Ag (Ay AM 9 [true] eo):=by
 refine Dr.sub bQ (MF fun args objs x hx=>?_)
 unfold eo at hx
 split at hx
 ·rename_i k a b key val e sv m ro
  simp only[GT.run]at hx
  split at hx
  ·rename_i hok
   cases hx
   obtain⟨h1,h2,h3,h4,h5,h6,h7,h8⟩:=hok
   have hq:fT.ok m [Ei k a b key val,LB e sv]:=⟨k,a,b,key,val,e,sv,rfl,h1,h2,h3,h4,h5,h6,h7,h8⟩
   show(GT.ask (fT.ok m [Ei k a b key val,LB e sv]) _).run=_
   simp only[GT.run]
   rw[if_pos hq];rfl
  ·cases hx
 ·cases hx
theorem UC:Dr Tryz.prog AM CA (Ay AM 9 [true] Ky.G):=by
 refine LV allM (by kernel_rfl) (n:=10) ?_
 rintro m rest rfl
 refine⟨by simp,rfl,?_⟩
 have hE:Ai XM 10 CA (fun v H=>v= .int .i64 m.cost∧([9,10,11,12]++Ac 4 v).map H.get=[some (.cells (BJ m 10 11 (.slice (some ⟨12,0,some 0⟩) m.AG.length AE)) 0 false),some (Ch m.base),some (Ch m.now),some (.vec Bn m.AG false)]) (st CA 10 [p9] (BF ⟨.leaf,9⟩ (LW m))):=by
  refine Bc.GF (B4 Hq (ids:=[9,10,11,12]) (Q:=fun v os=>v= .int .i64 m.cost∧os=[some (.cells (BJ m 10 11 (.slice (some ⟨12,0,some 0⟩) m.AG.length AE)) 0 false),some (Ch m.base),some (Ch m.now),some (.vec Bn m.AG false)]) 100 _ ?_)
  rw[VY]
  exact⟨rfl,by unfold AE;rfl⟩
 refine hE.mono ?_
 rintro v H ⟨rfl,h⟩
 have h:[H.get 9,H.get 10,H.get 11,H.get 12]=_:=h
 simp only[List.cons.injEq,and_true]at h
 exact⟨rfl,10,11,12,by decide,by decide,by decide,by decide,by decide,by decide,h.2.1,h.2.2.1,h.1,h.2.2.2⟩
theorem Va:Dr Tryz.prog AM Ba (Ay AM 9 [true] Zm.G):=by
 refine LV allM (by kernel_rfl) (n:=11) ?_
 rintro m rest rfl
 refine⟨by simp,rfl,?_⟩
 have hE:Ai XM 10 Ba (fun v H=>v= .int .i64 m.AG.length∧([9,10,11,12]++Ac 4 v).map H.get=[some (.cells (BJ m 10 11 (.slice (some ⟨12,0,some 0⟩) m.AG.length AE)) 0 false),some (Ch m.base),some (Ch m.now),some (.vec Bn m.AG false)]) (st Ba 11 [p9] (BF ⟨.leaf,9⟩ (LW m))):=by
  refine Bc.GF (B4 Hq (ids:=[9,10,11,12]) (Q:=fun v os=>v= .int .i64 m.AG.length∧os=[some (.cells (BJ m 10 11 (.slice (some ⟨12,0,some 0⟩) m.AG.length AE)) 0 false),some (Ch m.base),some (Ch m.now),some (.vec Bn m.AG false)]) 100 _ ?_)
  rw[Yb]
  exact⟨rfl,by unfold AE;rfl⟩
 refine hE.mono ?_
 rintro v H ⟨rfl,h⟩
 have h:[H.get 9,H.get 10,H.get 11,H.get 12]=_:=h
 simp only[List.cons.injEq,and_true]at h
 exact⟨rfl,10,11,12,by decide,by decide,by decide,by decide,by decide,by decide,h.2.1,h.2.2.1,h.1,h.2.2.2⟩
end Go.AD

set_option maxRecDepth 1000000
namespace Go.AD
open Go.Proofs
theorem Gq {X:Ctx} {f:FuncId} {x:Value} {p:GP} (h:∀args H (K:Value→AA→Prop),p args H K→∃v H',B5 X f args .normal H=some (v,H')∧K v H') (args:List Value) (H:AA) (K:Value→AA→Prop) (hp:I5 x p args H K):∃v H',B5 X f args .normal H=some (v,H')∧K v H':=by
 unfold I5 at hp
 split at hp
 ·obtain⟨rfl,hp⟩:=hp
  exact h _ H K hp
 ·exact hp.elim
theorem Yn {X:Ctx} {f:FuncId} {k:Int} {s v:ByteArray} (hX:X.GC f=some qOp.F) (args:List Value) (H:AA) (K:Value→AA→Prop) (h:cC k s v args H K):∃v H',B5 X f args .normal H=some (v,H')∧K v H':=by
 unfold cC at h
 split at h
 ·obtain⟨⟨h1,rfl,rfl,rfl⟩,h2⟩:=h
  exact Ct.aG (q:=qOp) hX _ H K ⟨h1,h2⟩
 ·exact h.elim
theorem KH {A B:Prop} (h:A):(bif true then A else B):=h
theorem PK {A B:Prop} (h:B):(bif false then A else B):=h
theorem EE {b:Bool} {A B:Prop} (h:b=false) (h1:B):(bif b then A else B):=by rw[h];exact h1
noncomputable def fp (cfg:List Int):List Value:=(LZ cfg 10 11 0).take 8++[.slice (some ⟨16,0,none⟩) 1 1]
inductive fJ (cfg:List Int) (m':AB) (n:Nat) (cur:List (EK.C AT)) (k:Int) (s v:ByteArray):Bool→List (Option AJ)→Prop where
 | same (a b c:Option AJ) (hk:(k==4)=false):fJ cfg m' n cur k s v false [some (.cells (LZ cfg 10 11 (n+1)) 0 false),some (.abs (.pack (.model m')) false),some (.vec [.tok] (W8 n 12 cur.length) false),some (.vec AT cur false),a,b,c]
 | app (x:Option AJ) (hk:(k==4)=false):fJ cfg m' n cur k s v true [some (.cells (LZ cfg 10 18 (n+1+1)) 0 false),some (.abs (.pack (.model m')) false),none,some (.vec AT cur false),some (.vec AT (BS cur k s v) false),x,some (.vec [.tok] (List.take (n+1) (List.drop 0 (W8 n 12 cur.length))++[Value.slice (some ⟨16,0,some 0⟩) (BS cur k s v).length AE]) false)]
 | eh (a b:Option AJ) (hk:(k==4)=true):fJ cfg m' n cur k s v false [some (.cells (fp cfg) 0 false),some (.abs (.pack (.model m')) false),some (.vec [.tok] (W8 n 12 cur.length) false),some (.vec AT cur false),some (.cells [.slice (some ⟨12,0,some 0⟩) cur.length AE] 1 false),a,b]
theorem int_ne {a b:Int} (h:a≠b):(a==b)=false:=by simpa using h
section
variable {cfg:List Int} {m:AB} {n i:Nat} {cur:List (EK.C AT)} {s v:ByteArray} {we:Int} {wv:ByteArray}
end
end Go.AD

set_option maxRecDepth 1000000
namespace Go.AD
open Go.Proofs
theorem b9 {j:Nat} (h:j < 5):Jc (dI j)∧(dI j).size≤8:=by
 match j,h with
 | 0,_=>exact⟨.inl rfl,by decide⟩
 | 1,_=>exact⟨.inr (.inl rfl),by decide⟩
 | 2,_=>exact⟨.inr (.inr (.inl rfl)),by decide⟩
 | 3,_=>exact⟨.inr (.inr (.inr (.inl rfl))),by decide⟩
 | 4,_=>exact⟨.inr (.inr (.inr (.inr (.inl rfl)))),by decide⟩
theorem UB {val:Int}:(Vl val).size≤16:=by
 unfold Vl
 rw[ByteArray.size_extract]
 have:ByteArray.size P0=16:=rfl
 omega
theorem MC (kind key val:Int):EO (aK kind) 0 0 (aS kind key) (aV kind val)∧(aK kind=1∨aK kind=2∨aK kind=3∨aK kind=4)∧(aS kind key).size≤8∧(aV kind val).size≤16:=by
 obtain⟨h1,h2⟩:=b9 (j:=key.toNat % 5) (Nat.mod_lt _ (by decide))
 have h3:=UB (val:=val)
 unfold aS aV
 have hk:aK kind=1∨aK kind=2∨aK kind=3∨aK kind=4:=by
  unfold aK
  cases decide (Int.tmod kind 8 < 4)
  ·cases decide (Int.tmod kind 8 < 6)
   ·cases Int.tmod kind 8==6
    ·exact .inr (.inl rfl)
    ·exact .inr (.inr (.inr rfl))
   ·exact .inr (.inr (.inl rfl))
  ·exact .inl rfl
 rcases hk with e | e | e | e<;>rw[e]
 ·exact⟨.put _ _ h1 (by show(Vl val).size≤512;omega),.inl rfl,h2,h3⟩
 ·exact⟨.get _ h1,.inr (.inl rfl),h2,Nat.zero_le _⟩
 ·exact⟨.del _ h1,.inr (.inr (.inl rfl)),h2,Nat.zero_le _⟩
 ·exact⟨.sync,.inr (.inr (.inr rfl)),Nat.zero_le _,Nat.zero_le _⟩
section
variable {cfg:List Int} {m:AB} {n i:Nat} {cur:List (EK.C AT)}
theorem XC (h:FE cfg m n cur i) {k:Int} {s v:ByteArray} (hs:s.size≤8) (hv:v.size≤16):Cj m k s v=((CV cfg cur k s v).1,(CV cfg cur k s v).2.1,(CV cfg cur k s v).2.2):=ZH h hs hv
theorem cl (k:Int) (s v:ByteArray):((CV cfg cur k s v).1==11)=false∧((CV cfg cur k s v).1==13)=false:=by
 unfold CV
 cases k==1
 ·cases k==2
  ·cases k==3<;>exact⟨rfl,rfl⟩
  ·cases (C6 cur s).isSome<;>exact⟨rfl,rfl⟩
 ·cases K0 cfg cur s v<;>exact⟨rfl,rfl⟩
end
end Go.AD

set_option maxRecDepth 1000000
namespace Go.AD
open Go.Proofs
structure gA (cfg:List Int) (m:AB) (n:Nat) (cur:List (EK.C AT)) (y z:Nat) (H:AA):Prop where
 nd:[9,10,y,z].Nodup
 g9:H.get 9=some (.cells (LZ cfg 10 y (n+1)) 0 false)
 Kj:H.get 10=some (.abs (.pack (.model m)) false)
 gy:H.get y=some (.vec [.tok] (W8 n z cur.length) false)
 gz:H.get z=some (.vec AT cur false)
theorem K7 {a b:Nat} (h:a≠b):Nat.beq a b=false:=by
 cases hq:Nat.beq a b
 ·rfl
 ·exact absurd (Nat.eq_of_beq_eq_true hq) h
noncomputable def Qv (cfg:List Int) (cur:List (EK.C AT)) (kind key val:Int):Bool:= !(aK kind==4)&& !(CV cfg cur (aK kind) (aS kind key) (aV kind val)).2.2
noncomputable def cM (cfg:List Int) (m:AB) (cur:List (EK.C AT)) (kind key val:Int):AB:=NT cfg m cur (aK kind) (aS kind key) (aV kind val)
end Go.AD

set_option maxRecDepth 1000000
namespace Go.AD
open Go.Proofs
theorem GL (l:List (EK.C kS)):Cn l l=true:=by unfold Cn;simp
end Go.AD

set_option maxRecDepth 1000000
namespace Go.AD
open Go.Proofs
theorem bo (slots:Int) (Q:Value→List (Option AJ)→Prop):FD XM Ws BR [26,27,28,29,30] Q 3000 (st BR 28 [.int .u8 slots] ⟨.leaf,9⟩)=(
 (((.int .i64 0):Value)=(.int .i64 0))∧(((.agg ⟨[(.int .i64 1),(.int .i64 1),(.int .i64 2)]⟩):Value)=(.agg ⟨[(.int .i64 1),(.int .i64 1),(.int .i64 2)]⟩))∧(((.int .i64 1):Value)=(.int .i64 1))∧(((.pointer (some ⟨14,6,none⟩)):Value)=(.pointer (some ⟨14,6,none⟩)))∧(((.agg ⟨[(.int .i64 (IntKind.wrap .i64 (4+IntKind.wrap .i64 (Int.tmod slots 8)))),(.int .i64 100),(.int .i64 2),(.int .i64 200),(.int .i64 8),(.int .i64 16),(.int .i64 1)]⟩):Value)=(.agg ⟨[(.int .i64 (IntKind.wrap .i64 (4+IntKind.wrap .i64 (Int.tmod slots 8)))),(.int .i64 100),(.int .i64 2),(.int .i64 200),(.int .i64 8),(.int .i64 16),(.int .i64 1)]⟩))∧(((.int .i64 200):Value)=(.int .i64 200))∧(((.pointer (some ⟨14,3,none⟩)):Value)=(.pointer (some ⟨14,3,none⟩)))∧(((.int .i64 100):Value)=(.int .i64 100))∧(((.pointer (some ⟨14,1,none⟩)):Value)=(.pointer (some ⟨14,1,none⟩)))∧(((.agg ⟨[(.int .i64 16),(.int .i64 0),(.int .i64 512)]⟩):Value)=(.agg ⟨[(.int .i64 16),(.int .i64 0),(.int .i64 512)]⟩))∧(((.int .i64 16):Value)=(.int .i64 16))∧(((.pointer (some ⟨14,5,none⟩)):Value)=(.pointer (some ⟨14,5,none⟩)))∧(((.agg ⟨[(.int .i64 8),(.int .i64 1),(.int .i64 32)]⟩):Value)=(.agg ⟨[(.int .i64 8),(.int .i64 1),(.int .i64 32)]⟩))∧(((.int .i64 8):Value)=(.int .i64 8))∧(((.pointer (some ⟨14,4,none⟩)):Value)=(.pointer (some ⟨14,4,none⟩)))∧(((.agg ⟨[(.int .i64 (IntKind.wrap .i64 (4+IntKind.wrap .i64 (Int.tmod slots 8)))),(.int .i64 4),(.int .i64 32)]⟩):Value)=(.agg ⟨[(.int .i64 (IntKind.wrap .i64 (4+IntKind.wrap .i64 (Int.tmod slots 8)))),(.int .i64 4),(.int .i64 32)]⟩))∧(((.int .i64 4):Value)=(.int .i64 4))∧(((.int .i64 2):Value)=(.int .i64 2))∧(((.pointer (some ⟨14,2,none⟩)):Value)=(.pointer (some ⟨14,2,none⟩)))∧(((.int .i64 (IntKind.wrap .i64 (4+IntKind.wrap .i64 (Int.tmod slots 8)))):Value)=(.int .i64 (IntKind.wrap .i64 (4+IntKind.wrap .i64 (Int.tmod slots 8)))))∧(((.pointer (some ⟨14,0,none⟩)):Value)=(.pointer (some ⟨14,0,none⟩)))∧(((.agg ⟨[(.int .i64 2),(.int .i64 2),(.int .i64 8)]⟩):Value)=(.agg ⟨[(.int .i64 2),(.int .i64 2),(.int .i64 8)]⟩))∧(((.int .i64 2):Value)=(.int .i64 2))∧(((.pointer (some ⟨14,2,none⟩)):Value)=(.pointer (some ⟨14,2,none⟩)))∧(((.agg ⟨[(.int .i64 100),(.int .i64 56),(.int .i64 8192)]⟩):Value)=(.agg ⟨[(.int .i64 100),(.int .i64 56),(.int .i64 8192)]⟩))∧(((.int .i64 56):Value)=(.int .i64 56))∧(((.int .i64 0):Value)=(.int .i64 0))∧(((.agg ⟨[(.int .i64 1),(.int .i64 1),(.int .i64 2)]⟩):Value)=(.agg ⟨[(.int .i64 1),(.int .i64 1),(.int .i64 2)]⟩))∧(((.int .i64 1):Value)=(.int .i64 1))∧(((.pointer (some ⟨14,6,none⟩)):Value)=(.pointer (some ⟨14,6,none⟩)))∧(((.int .i64 200):Value)=(.int .i64 200))∧(((.pointer (some ⟨14,3,none⟩)):Value)=(.pointer (some ⟨14,3,none⟩)))∧(((.int .i64 100):Value)=(.int .i64 100))∧(((.pointer (some ⟨14,1,none⟩)):Value)=(.pointer (some ⟨14,1,none⟩)))∧(((.agg ⟨[(.int .i64 16),(.int .i64 0),(.int .i64 512)]⟩):Value)=(.agg ⟨[(.int .i64 16),(.int .i64 0),(.int .i64 512)]⟩))∧
 (((.int .i64 16):Value)=(.int .i64 16))∧(((.pointer (some ⟨14,5,none⟩)):Value)=(.pointer (some ⟨14,5,none⟩)))∧(((.agg ⟨[(.int .i64 8),(.int .i64 1),(.int .i64 32)]⟩):Value)=(.agg ⟨[(.int .i64 8),(.int .i64 1),(.int .i64 32)]⟩))∧(((.int .i64 8):Value)=(.int .i64 8))∧(((.pointer (some ⟨14,4,none⟩)):Value)=(.pointer (some ⟨14,4,none⟩)))∧(((.agg ⟨[(.int .i64 (IntKind.wrap .i64 (4+IntKind.wrap .i64 (Int.tmod slots 8)))),(.int .i64 4),(.int .i64 32)]⟩):Value)=(.agg ⟨[(.int .i64 (IntKind.wrap .i64 (4+IntKind.wrap .i64 (Int.tmod slots 8)))),(.int .i64 4),(.int .i64 32)]⟩))∧(((.int .i64 4):Value)=(.int .i64 4))∧(((.int .i64 2):Value)=(.int .i64 2))∧(((.pointer (some ⟨14,2,none⟩)):Value)=(.pointer (some ⟨14,2,none⟩)))∧(((.int .i64 (IntKind.wrap .i64 (4+IntKind.wrap .i64 (Int.tmod slots 8)))):Value)=(.int .i64 (IntKind.wrap .i64 (4+IntKind.wrap .i64 (Int.tmod slots 8)))))∧(((.pointer (some ⟨14,0,none⟩)):Value)=(.pointer (some ⟨14,0,none⟩)))∧(((.agg ⟨[(.int .i64 2),(.int .i64 2),(.int .i64 8)]⟩):Value)=(.agg ⟨[(.int .i64 2),(.int .i64 2),(.int .i64 8)]⟩))∧(((.int .i64 2):Value)=(.int .i64 2))∧(((.pointer (some ⟨14,2,none⟩)):Value)=(.pointer (some ⟨14,2,none⟩)))∧(bif decide (IntKind.wrap .i64 (4+IntKind.wrap .i64 (Int.tmod slots 8)) < 4)then(Q (.pointer none) [none,none,none,none,none])else(bif decide (IntKind.wrap .i64 (4+IntKind.wrap .i64 (Int.tmod slots 8)) > 32)then(Q (.pointer none) [none,none,none,none,none])else(((.int .i64 (IntKind.wrap .i64 (IntKind.wrap .i64 (IntKind.wrap .i64 (4+IntKind.wrap .i64 (Int.tmod slots 8)) - 2) - 2))):Value)=(.int .i64 (IntKind.wrap .i64 (IntKind.wrap .i64 (IntKind.wrap .i64 (4+IntKind.wrap .i64 (Int.tmod slots 8)) - 2) - 2))))∧(((.int .i64 (IntKind.wrap .i64 (IntKind.wrap .i64 (4+IntKind.wrap .i64 (Int.tmod slots 8)) - 2))):Value)=(.int .i64 (IntKind.wrap .i64 (IntKind.wrap .i64 (4+IntKind.wrap .i64 (Int.tmod slots 8)) - 2))))∧(((.int .i64 2):Value)=(.int .i64 2))∧(((.pointer (some ⟨12,2,none⟩)):Value)=(.pointer (some ⟨12,2,none⟩)))∧(((.int .i64 (IntKind.wrap .i64 (4+IntKind.wrap .i64 (Int.tmod slots 8)))):Value)=(.int .i64 (IntKind.wrap .i64 (4+IntKind.wrap .i64 (Int.tmod slots 8)))))∧(((.pointer (some ⟨12,0,none⟩)):Value)=(.pointer (some ⟨12,0,none⟩)))∧(((.int .i64 (IntKind.wrap .i64 (Int.tdiv (IntKind.wrap .i64 (IntKind.wrap .i64 (IntKind.wrap .i64 (IntKind.wrap .i64 (4+IntKind.wrap .i64 (Int.tmod slots 8)) - 2) - 2) * 84)) 2))):Value)=(.int .i64 (IntKind.wrap .i64 (Int.tdiv (IntKind.wrap .i64 (IntKind.wrap .i64 (IntKind.wrap .i64 (IntKind.wrap .i64 (4+IntKind.wrap .i64 (Int.tmod slots 8)) - 2) - 2) * 84)) 2))))∧(((.agg ⟨[(.int .i64 (IntKind.wrap .i64 (4+IntKind.wrap .i64 (Int.tmod slots 8)))),(.int .i64 100),(.int .i64 2),(.int .i64 200),(.int .i64 8),(.int .i64 16),(.int .i64 1)]⟩):Value)=(.agg ⟨[(.int .i64 (IntKind.wrap .i64 (4+IntKind.wrap .i64 (Int.tmod slots 8)))),(.int .i64 100),(.int .i64 2),(.int .i64 200),(.int .i64 8),(.int .i64 16),(.int .i64 1)]⟩))∧
 (((.int .i64 (IntKind.wrap .i64 (Int.tdiv (IntKind.wrap .i64 (IntKind.wrap .i64 (IntKind.wrap .i64 (IntKind.wrap .i64 (4+IntKind.wrap .i64 (Int.tmod slots 8)) - 2) - 2) * 84)) 2))):Value)=(.int .i64 (IntKind.wrap .i64 (Int.tdiv (IntKind.wrap .i64 (IntKind.wrap .i64 (IntKind.wrap .i64 (IntKind.wrap .i64 (4+IntKind.wrap .i64 (Int.tmod slots 8)) - 2) - 2) * 84)) 2))))∧(((.agg ⟨[(.int .i64 (IntKind.wrap .i64 (4+IntKind.wrap .i64 (Int.tmod slots 8)))),(.int .i64 100),(.int .i64 2),(.int .i64 200),(.int .i64 8),(.int .i64 16),(.int .i64 1)]⟩):Value)=(.agg ⟨[(.int .i64 (IntKind.wrap .i64 (4+IntKind.wrap .i64 (Int.tmod slots 8)))),(.int .i64 100),(.int .i64 2),(.int .i64 200),(.int .i64 8),(.int .i64 16),(.int .i64 1)]⟩))∧(Q (.pointer (some ⟨30,0,none⟩)) [some (.abs (AX.pack (Pk.table [])) false),some (.abs (AX.pack (Pk.table [])) false),some (.cells [(.int .i64 (IntKind.wrap .i64 (4+IntKind.wrap .i64 (Int.tmod slots 8)))),(.int .i64 100),(.int .i64 2),(.int .i64 200),(.int .i64 8),(.int .i64 16),(.int .i64 1),(.int .i64 (IntKind.wrap .i64 (Int.tdiv (IntKind.wrap .i64 (IntKind.wrap .i64 (IntKind.wrap .i64 (IntKind.wrap .i64 (4+IntKind.wrap .i64 (Int.tmod slots 8)) - 2) - 2) * 84)) 2))),(.pointer (some ⟨26,0,none⟩)),(.pointer (some ⟨27,0,none⟩)),(.int .i64 0),(.slice none 0 0),(.pointer none),(.int .i64 0),(.bool false)] 0 false),some (.cells [(.slice none 0 0)] 1 false),some (.cells [(.pointer (some ⟨28,0,none⟩)),(.int .i64 (IntKind.wrap .i64 (4+IntKind.wrap .i64 (Int.tmod slots 8)))),(.int .i64 100),(.int .i64 2),(.int .i64 200),(.int .i64 8),(.int .i64 16),(.int .i64 1),(.slice (some ⟨29,0,none⟩) 1 1)] 0 false),some (.cells [(.pointer (some ⟨28,0,none⟩)),(.int .i64 (IntKind.wrap .i64 (4+IntKind.wrap .i64 (Int.tmod slots 8)))),(.int .i64 100),(.int .i64 2),(.int .i64 200),(.int .i64 8),(.int .i64 16),(.int .i64 1),(.slice (some ⟨29,0,none⟩) 1 1)] 0 false)])))):=by kernel_rfl
end Go.AD

set_option maxRecDepth 1000000
namespace Go.AD
open Go.Proofs
theorem Vq {x:Int} (h:Eg x):0≤Int.tmod x 8∧Int.tmod x 8≤7:=by
 obtain⟨h1,_⟩:=h
 rw[Int.tmod_eq_emod_of_nonneg h1]
 have:=Int.emod_nonneg x (show(8:Int)≠0 by decide)
 have:=Int.emod_lt_of_pos x (show(0:Int) < 8 by decide)
 omega
noncomputable def m0 (s:Int):AB:=⟨Dt s,42 * s,[],[],0,[],0,false⟩
noncomputable def fj (s:Int):List Value:=(LZ (Dt s) 28 29 0).take 8++[.slice (some ⟨29,0,none⟩) 1 1]
theorem WX {slots:Int} (h:Eg slots):IntKind.wrap .i64 (4+IntKind.wrap .i64 (Int.tmod slots 8))=4+Int.tmod slots 8:=by
 obtain⟨h1,h2⟩:=Vq h
 rw[wrap64 (x:=Int.tmod slots 8) (by omega) (by omega),wrap64 (by omega) (by omega)]
theorem Yk {s:Int} (h0:0≤s) (h7:s≤7):IntKind.wrap .i64 (Int.tdiv (IntKind.wrap .i64 (IntKind.wrap .i64 (IntKind.wrap .i64 (4+s - 2) - 2) * 84)) 2)=42 * s:=V7 h0 h7
theorem ZA {slots:Int} (h:Eg slots):Ai XM 9 BR (fun v H=>v=De 30∧[H.get 26,H.get 27,H.get 28,H.get 29,H.get 30]=[some (Ch []),some (Ch []),some (.cells (BJ (m0 (Int.tmod slots 8)) 26 27 (.slice none 0 0)) 0 false),some (.cells [.slice none 0 0] 1 false),some (.cells (fj (Int.tmod slots 8)) 0 false)])
 (st BR 28 [.int .u8 slots] ⟨.leaf,9⟩):=by
 obtain⟨h1,h2⟩:=Vq h
 have hw:=WX h
 have hl:=Yk h1 h2
 refine(Bc.GF (B4 Hq (ids:=[26,27,28,29,30]) (Q:=fun v os=>v=De 30∧∃x,os=[some (Ch []),some (Ch []),some (.cells (BJ (m0 (Int.tmod slots 8)) 26 27 (.slice none 0 0)) 0 false),some (.cells [.slice none 0 0] 1 false),some (.cells (fj (Int.tmod slots 8)) 0 false),x]) 3000 _ ?_)).mono ?_
 ·rw[bo,hw,hl]
  repeat' first
   | refine And.intro rfl ?_
   | refine AY (fun h=>absurd h (by omega)) (fun _=>?_)
  exact⟨_,rfl⟩
 ·rintro v H ⟨rfl,x,hh⟩
  have hh:[H.get 26,H.get 27,H.get 28,H.get 29,H.get 30,H.get 30]=_:=hh
  refine⟨rfl,?_⟩
  simp only[List.cons.injEq,and_true]at hh ⊢
  exact⟨hh.1,hh.2.1,hh.2.2.1,hh.2.2.2.1,hh.2.2.2.2.1⟩
theorem fc {s:Int} (h0:0≤s) (h7:s≤7):FE (Dt s) (m0 s) 0 [] 0:=
 ⟨⟨s,h0,h7,rfl,rfl,rfl⟩,rfl,List.Pairwise.nil,rfl,rfl,rfl,rfl,Nat.le_refl _,Nat.le_refl _,Nat.le_refl _,(fun x hx=>by cases hx),by decide⟩
end Go.AD

namespace Go.AD
section
variable {base:Env} {W0:World} {μ:Ad} {H:AA} {W:World}
theorem Ql (μ:Ad):Ad.le (fun _=>none) μ:=fun b x e=>by cases e
noncomputable def AA.LC (H:AA) (a j:Nat) (k:EK) (L:List (Option (List (EK.C k)))) (l:List (EK.C k)):AA:=(H.put a (.abs (.mem k (L.set j none)) false)).alloc (.vec k l false)
theorem F6 {H:AA} {a j:Nat} {k:EK} {L:List (Option (List (EK.C k)))} {l:List (EK.C k)} (x:Nat):(H.LC a j k L l).get x=if x=H.next then some (.vec k l false)else if x=a then some (.abs (.mem k (L.set j none)) false)else H.get x:=by
 unfold AA.LC
 rw[AA.AQ]
 show(if x=H.next then _ else _)=_
 split
 ·rfl
 ·rw[AA.AN]
theorem AP.LC (h:AP base W0 μ H W) {a j:Nat} {k:EK} {L:List (Option (List (EK.C k)))} {l:List (EK.C k)} {T:Bv} (ha:H.get a=some (.abs (.mem k L) false)) (hm:μ a=some T) (hj:L[j]? = some (some l)):
 ∃ts M,T.e=Cg ts∧ts[j]? = some M∧AP base W0 (μ.ext H.next M) (H.LC a j k L l) W:=by
 obtain⟨φ,q⟩:=h.abs
 obtain⟨⟨ts,hR⟩,hK⟩:=q.rep a _ false T ha hm
 have hlt:=h.lt ha
 have hjt:j < ts.length:=by
  rw[hR.len];exact(List.getElem?_eq_some_iff.1 hj).1
 have hM:=List.getElem?_eq_getElem hjt
 generalize ts[j]=M at hM
 refine⟨ts,M,hR.code,hM,?_⟩
 obtain⟨o',ho1,ho2⟩:=hR.row j M l hM hj
 have hMs:M.c < W.heap.size:=F0 ho1
 have hle:μ.le (μ.ext H.next M):=Ad.DK M (h.fresh _ (Nat.le_refl _)).2
 have hφM:¬(AJ.vec k l false).void M→φ a M.c:=fun hv=>(hR.own _).2 ⟨j,M,l,hM,hj,hv,rfl⟩
 have key:∀b o T2,(H.LC a j k L l).get b=some o→(μ.ext H.next M) b=some T2→(b=H.next∧o= .vec k l false∧T2=M)∨(b=a∧o= .abs (.mem k (L.set j none)) false∧T2=T)∨(b≠H.next∧b≠a∧H.get b=some o∧μ b=some T2):=by
  intro b o T2 hb hT
  rw[F6]at hb
  by_cases e:b=H.next
  ·rw[if_pos e]at hb;cases hb
   subst e;rw[Ad.Ak]at hT;cases hT
   exact .inl ⟨rfl,rfl,rfl⟩
  ·rw[if_neg e]at hb
   rw[Ad.BX _ _ e]at hT
   by_cases e2:b=a
   ·rw[if_pos e2]at hb;cases hb
    subst e2;rw[hm]at hT;cases hT
    exact .inr (.inl ⟨rfl,rfl,rfl⟩)
   ·rw[if_neg e2]at hb
    exact .inr (.inr ⟨e,e2,hb,hT⟩)
 have D2:∀b o T2,H.get b=some o→μ b=some T2→b≠a→¬o.void T2→¬(AJ.vec k l false).void M→T2.c≠M.c:=by
  intro b o T2 hb hT hne hv hvM e
  have:=(q.D2 a _ false T ha hm b o T2 hb hT hne).1 hv
  rw[e]at this
  exact this (hφM hvM)
 have hset:∀(i:Nat) (m:List (EK.C k)),(L.set j none)[i]? = some (some m)→i≠j∧L[i]? = some (some m):=by
  intro i m hi
  rw[List.getElem?_set]at hi
  by_cases e:j=i
  ·rw[if_pos e]at hi;split at hi<;>cases hi
  ·rw[if_neg e]at hi;exact⟨fun h=>e h.symm,hi⟩
 have hset2:∀(i:Nat) (m:List (EK.C k)),i≠j→L[i]? = some (some m)→(L.set j none)[i]? = some (some m):=by
  intro i m e hi
  rw[List.getElem?_set,if_neg (fun h=>e h.symm)];exact hi
 let φ':Nat→Nat→Prop:=fun b x=>if b=a then φ a x∧¬(¬(AJ.vec k l false).void M∧x=M.c)else φ b x
 have φa:∀x,φ' a x ↔ (φ a x∧¬(¬(AJ.vec k l false).void M∧x=M.c)):=fun x=>by show(if a=a then _ else _) ↔ _;rw[if_pos rfl]
 have φo:∀b,b≠a→φ' b=φ b:=fun b hb=>by funext x;show(if b=a then _ else _)=_;rw[if_neg hb]
 have φs:∀b x,φ' b x→φ b x:=fun b x hx=>by
  by_cases e:b=a
  ·subst e;exact((φa x).1 hx).1
  ·rw[φo b e]at hx;exact hx
 refine⟨?_,?_,?_,?_,?_,h.size,h.below,h.out,h.os,⟨φ',?_,?_⟩,Ad.le_trans h.le hle,h.grow⟩
 ·intro b o hb T2 hT
  rcases key b o T2 hb hT with⟨rfl,rfl,rfl⟩ | ⟨rfl,rfl,rfl⟩ | ⟨_,_,hb,hT⟩
  ·exact⟨o',ho1,ho2.mono (Ql _)⟩
  ·obtain⟨p,hp,_⟩:=h.obj b _ ha _ hm
   exact⟨p,hp,.abs _ _ _ _⟩
  ·obtain⟨p,hp,hp2⟩:=h.obj b o hb T2 hT
   exact⟨p,hp,hp2.mono hle⟩
 ·intro b o hb hr T2 hT hv
  rcases key b o T2 hb hT with⟨rfl,rfl,rfl⟩ | ⟨rfl,rfl,rfl⟩ | ⟨_,_,hb,hT⟩
  ·exact hK rfl _ (hφM hv)
  ·exact absurd trivial hv
  ·exact h.own b o hb hr T2 hT hv
 ·intro b1 b2 o1 o2 h1 h2 T1 T2 m1 m2 v1 v2 hc hrr
  rcases key b1 o1 T1 h1 m1 with⟨rfl,rfl,rfl⟩ | ⟨rfl,rfl,rfl⟩ | ⟨n1,n2,g1,k1⟩<;>rcases key b2 o2 T2 h2 m2 with⟨rfl,rfl,rfl⟩ | ⟨rfl,rfl,rfl⟩ | ⟨n3,n4,g2,k2⟩
  ·rfl
  ·exact absurd trivial v2
  ·exact absurd hc.symm (D2 b2 o2 T2 g2 k2 n4 v2 v1)
  ·exact absurd trivial v1
  ·rfl
  ·exact absurd trivial v1
  ·exact absurd hc (D2 b1 o1 T1 g1 k1 n2 v1 v2)
  ·exact absurd trivial v2
  ·exact h.inj _ _ o1 o2 g1 g2 T1 T2 k1 k2 v1 v2 hc hrr
 ·intro b hb
  have hb:H.next+1≤b:=hb
  refine⟨?_,by rw[Ad.BX _ _ (by omega)];exact(h.fresh b (by omega)).2⟩
  rw[F6,if_neg (by omega),if_neg (by omega)]
  exact(h.fresh b (by omega)).1
 ·intro b T2 hT
  by_cases e:b=H.next
  ·subst e;rw[Ad.Ak]at hT;cases hT;exact hMs
  ·rw[Ad.BX _ _ e]at hT;exact h.bound b T2 hT
 ·intro b c ro T2 hb hT
  rcases key b _ T2 hb hT with⟨_,e,_⟩ | ⟨rfl,e,rfl⟩ | ⟨_,n2,hb,hT⟩
  ·cases e
  ·cases e
   refine⟨⟨ts,hR.code,by rw[List.length_set];exact hR.len,hR.dF,fun i N m h1 h2=>?_,fun i1 i2 N1 N2 m1 m2 h1 h2 h3 h4=>?_,fun x=>?_⟩,fun hro i hi=>hK rfl i (φs _ i hi)⟩
   ·exact hR.row i N m h1 (hset i m h2).2
   ·exact hR.inj i1 i2 N1 N2 m1 m2 h1 h2 (hset i1 m1 h3).2 (hset i2 m2 h4).2
   ·rw[φa x,hR.own x]
    constructor
    ·rintro⟨⟨i,N,m,g1,g2,g3,rfl⟩,h2⟩
     by_cases e:i=j
     ·subst e
      rw[hM]at g1;cases g1
      rw[hj]at g2;cases g2
      exact absurd ⟨g3,rfl⟩ h2
     ·exact⟨i,N,m,g1,hset2 i m e g2,g3,rfl⟩
    ·rintro⟨i,N,m,g1,g2,g3,rfl⟩
     obtain⟨e,g4⟩:=hset i m g2
     exact⟨⟨i,N,m,g1,g4,g3,rfl⟩,fun hh=>e (hR.inj i j N M m l g1 hM g4 hj g3 hh.1 hh.2)⟩
  ·obtain⟨r1,r2⟩:=q.rep b c ro T2 hb hT
   rw[φo b n2]
   exact⟨r1.mono hle,r2⟩
 ·intro b c ro T2 hb hT b2 o2 T3 hb2 hT2 hne
  rcases key b _ T2 hb hT with⟨_,e,_⟩ | ⟨rfl,e,rfl⟩ | ⟨_,n2,hb,hT⟩
  ·cases e
  ·rcases key b2 o2 T3 hb2 hT2 with⟨rfl,rfl,rfl⟩ | ⟨rfl,_,_⟩ | ⟨_,n4,g2,k2⟩
   ·exact⟨fun hv2 hh=>((φa _).1 hh).2 ⟨hv2,rfl⟩,fun hh=>by cases hh⟩
   ·exact absurd rfl hne
   ·have:=q.D2 b _ false _ ha hm b2 o2 T3 g2 k2 n4
    exact⟨fun hv2 hh=>this.1 hv2 (φs _ _ hh),fun h1 i hi hi2=>this.2 h1 i (φs _ _ hi) (φs _ _ hi2)⟩
  ·rw[φo b n2]
   have hba:=q.D2 b c ro T2 hb hT a _ T ha hm (Ne.symm n2)
   rcases key b2 o2 T3 hb2 hT2 with⟨rfl,rfl,rfl⟩ | ⟨rfl,rfl,rfl⟩ | ⟨_,n4,g2,k2⟩
   ·exact⟨fun hv2 hh=>hba.2 rfl _ hh (hφM hv2),fun hh=>by cases hh⟩
   ·exact⟨fun hv2=>absurd trivial hv2,fun _ i hi hi2=>hba.2 rfl i hi (φs _ _ hi2)⟩
   ·have:=q.D2 b c ro T2 hb hT b2 o2 T3 g2 k2 hne
    exact⟨this.1,fun h1 i hi hi2=>this.2 h1 i hi (φs _ _ hi2)⟩
theorem UU {ν μ:Ad} {k:EK} (hk:k.all Eh=true) {l:List (EK.C k)} {M:Bv} {o':Obj} (h:Cb ν M (.vec k l false) o'):Cb μ M (.vec k l false) o':=by
 cases h with
 | vec _ _ _ _ hc=>
  cases hc with
  | cells _ _ _ c t lo hi he hc hr hf=>exact .vec M k l false _ (.cells M _ _ false c t lo hi he (JY k hk l hc) hr hf)
 | EG _ _ _ he hr hk0=>exact .EG M k false _ he hr hk0
theorem AP.SJ (h:AP base W0 μ H W) {a z j:Nat} {k:EK} (hk:k.all Eh=true) {L:List (Option (List (EK.C k)))} {l:List (EK.C k)} {T M:Bv} {ts:List Bv} (ha:H.get a=some (.abs (.mem k (L.set j none)) false)) (hm:μ a=some T)
 (hc:T.e=Cg ts) (hM:ts[j]? = some M) (hz:H.get z=some (.vec k l false)) (hzm:μ z=some M) (hj:j < L.length):AP base W0 μ ((H.del z).put a (.abs (.mem k (L.set j (some l))) false)) W:=by
 obtain⟨φ,q⟩:=h.abs
 obtain⟨⟨us,hR⟩,hK⟩:=q.rep a _ false T ha hm
 have hut:us=ts:=Ib (hR.code.symm.trans hc)
 subst hut
 have hza:z≠a:=by rintro rfl;rw[ha]at hz;cases hz
 obtain⟨o',ho1,ho2⟩:=h.obj z _ hz M hzm
 have get:∀x,((H.del z).put a (.abs (.mem k (L.set j (some l))) false)).get x=if x=a then some (.abs (.mem k (L.set j (some l))) false)else if x=z then none else H.get x:=fun x=>by
  rw[AA.AN]
  split
  ·rfl
  ·rw[AA.BQ]
 have key:∀b o T2,((H.del z).put a (.abs (.mem k (L.set j (some l))) false)).get b=some o→μ b=some T2→(b=a∧o= .abs (.mem k (L.set j (some l))) false∧T2=T)∨(b≠a∧b≠z∧H.get b=some o):=by
  intro b o T2 hb hT
  rw[get]at hb
  by_cases e:b=a
  ·rw[if_pos e]at hb;cases hb
   subst e;rw[hm]at hT;cases hT
   exact .inl ⟨rfl,rfl,rfl⟩
  ·rw[if_neg e]at hb
   by_cases e2:b=z
   ·rw[if_pos e2]at hb;cases hb
   ·rw[if_neg e2]at hb
    exact .inr ⟨e,e2,hb⟩
 have Pj:∀(i:Nat) (m:List (EK.C k)),(L.set j (some l))[i]? = some (some m)→(i=j∧m=l)∨(i≠j∧(L.set j none)[i]? = some (some m)):=by
  intro i m hi
  rw[List.getElem?_set]at hi
  by_cases e:j=i
  ·rw[if_pos e,if_pos hj]at hi;cases hi
   exact .inl ⟨e.symm,rfl⟩
  ·rw[if_neg e]at hi
   refine .inr ⟨fun h=>e h.symm,?_⟩
   rw[List.getElem?_set,if_neg e];exact hi
 have ZS:∀(i:Nat) (m:List (EK.C k)),(L.set j none)[i]? = some (some m)→i≠j∧(L.set j (some l))[i]? = some (some m):=by
  intro i m hi
  rw[List.getElem?_set]at hi
  by_cases e:j=i
  ·rw[if_pos e]at hi;split at hi<;>cases hi
  ·rw[if_neg e]at hi
   refine⟨fun h=>e h.symm,?_⟩
   rw[List.getElem?_set,if_neg e];exact hi
 have get3:(L.set j (some l))[j]? = some (some l):=by rw[List.getElem?_set,if_pos rfl,if_pos hj]
 have zfar:=(q.D2 a _ false T ha hm z _ M hz hzm hza).1
 let φ':Nat→Nat→Prop:=fun b x=>if b=a then φ a x∨(¬(AJ.vec k l false).void M∧x=M.c)else φ b x
 have φa:∀x,φ' a x ↔ (φ a x∨(¬(AJ.vec k l false).void M∧x=M.c)):=fun x=>by show(if a=a then _ else _) ↔ _;rw[if_pos rfl]
 have φo:∀b,b≠a→φ' b=φ b:=fun b hb=>by funext x;show(if b=a then _ else _)=_;rw[if_neg hb]
 refine⟨?_,?_,?_,?_,h.bound,h.size,h.below,h.out,h.os,⟨φ',?_,?_⟩,h.le,h.grow⟩
 ·intro b o hb T2 hT
  rcases key b o T2 hb hT with⟨rfl,rfl,rfl⟩ | ⟨_,_,hb⟩
  ·obtain⟨p,hp,_⟩:=h.obj b _ ha _ hm
   exact⟨p,hp,.abs _ _ _ _⟩
  ·exact h.obj b o hb T2 hT
 ·intro b o hb hr T2 hT hv
  rcases key b o T2 hb hT with⟨rfl,rfl,rfl⟩ | ⟨_,_,hb⟩
  ·exact absurd trivial hv
  ·exact h.own b o hb hr T2 hT hv
 ·intro b1 b2 o1 o2 h1 h2 T1 T2 m1 m2 v1 v2 hcc hrr
  rcases key b1 o1 T1 h1 m1 with⟨rfl,rfl,rfl⟩ | ⟨n1,n2,g1⟩<;>rcases key b2 o2 T2 h2 m2 with⟨rfl,rfl,rfl⟩ | ⟨n3,n4,g2⟩
  ·rfl
  ·exact absurd trivial v1
  ·exact absurd trivial v2
  ·exact h.inj _ _ o1 o2 g1 g2 T1 T2 m1 m2 v1 v2 hcc hrr
 ·intro b hb
  have hb:H.next≤b:=hb
  refine⟨?_,(h.fresh b hb).2⟩
  have hlt:=h.lt ha
  rw[get,if_neg (by omega)]
  split
  ·rfl
  ·exact(h.fresh b hb).1
 ·intro b c ro T2 hb hT
  rcases key b _ T2 hb hT with⟨rfl,e,rfl⟩ | ⟨n1,n2,hb⟩
  ·cases e
   refine⟨⟨us,hR.code,by rw[List.length_set];have:=hR.len;rw[List.length_set]at this;exact this,hR.dF,fun i N m h1 h2=>?_,fun i1 i2 N1 N2 m1 m2 h1 h2 h3 h4 v1 v2 hcc=>?_,fun x=>?_⟩,fun hro i hi=>?_⟩
   ·rcases Pj i m h2 with⟨rfl,rfl⟩ | ⟨_,h2⟩
    ·rw[hM]at h1;cases h1
     exact⟨o',ho1,UU hk ho2⟩
    ·exact hR.row i N m h1 h2
   ·rcases Pj i1 m1 h3 with⟨e1,e2⟩ | ⟨e1,g3⟩<;>rcases Pj i2 m2 h4 with⟨e3,e4⟩ | ⟨e3,g4⟩
    ·exact e1.trans e3.symm
    ·subst e1 e2
     rw[hM]at h1;cases h1
     exact absurd (hcc ▸ (hR.own _).2 ⟨i2,N2,m2,h2,g4,v2,rfl⟩) (zfar v1)
    ·subst e3 e4
     rw[hM]at h2;cases h2
     exact absurd (hcc ▸ (hR.own _).2 ⟨i1,N1,m1,h1,g3,v1,rfl⟩) (zfar v2)
    ·exact hR.inj i1 i2 N1 N2 m1 m2 h1 h2 g3 g4 v1 v2 hcc
   ·rw[φa x,hR.own x]
    constructor
    ·rintro(⟨i,N,m,g1,g2,g3,rfl⟩ | ⟨h1,rfl⟩)
     ·exact⟨i,N,m,g1,(ZS i m g2).2,g3,rfl⟩
     ·exact⟨j,M,l,hM,get3,h1,rfl⟩
    ·rintro⟨i,N,m,g1,g2,g3,rfl⟩
     rcases Pj i m g2 with⟨rfl,rfl⟩ | ⟨_,g2⟩
     ·rw[hM]at g1;cases g1
      exact .inr ⟨g3,rfl⟩
     ·exact .inl ⟨i,N,m,g1,g2,g3,rfl⟩
   ·rcases(φa i).1 hi with hi | ⟨hv,rfl⟩
    ·exact hK rfl i hi
    ·exact h.own z _ hz rfl M hzm hv
  ·rw[φo b n1]
   exact q.rep b c ro T2 hb hT
 ·intro b c ro T2 hb hT b2 o2 T3 hb2 hT2 hne
  rcases key b _ T2 hb hT with⟨rfl,e,rfl⟩ | ⟨n1,n2,hb'⟩
  ·rcases key b2 o2 T3 hb2 hT2 with⟨rfl,_,_⟩ | ⟨n3,n4,g2⟩
   ·exact absurd rfl hne
   ·have:=q.D2 b _ false _ ha hm b2 o2 T3 g2 hT2 n3
    refine⟨fun hv2 hh=>?_,fun h1 i hi hi2=>?_⟩
    ·rcases(φa _).1 hh with hh | ⟨hv,e⟩
     ·exact this.1 hv2 hh
     ·exact n4 (h.inj b2 z o2 _ g2 hz T3 M hT2 hzm hv2 hv e (.inr rfl))
    ·rw[φo b2 n3]at hi2
     rcases(φa _).1 hi with hi | ⟨hv,rfl⟩
     ·exact this.2 h1 i hi hi2
     ·cases o2<;>first | (cases h1;done) | skip
      exact(q.D2 b2 _ _ T3 g2 hT2 z _ M hz hzm (Ne.symm n4)).1 hv hi2
  ·rw[φo b n1]
   rcases key b2 o2 T3 hb2 hT2 with⟨rfl,rfl,rfl⟩ | ⟨n3,n4,g2⟩
   ·have:=q.D2 b c ro T2 hb' hT b2 _ _ ha hm hne
    refine⟨fun hv2=>absurd trivial hv2,fun _ i hi hi2=>?_⟩
    rcases(φa _).1 hi2 with hi2 | ⟨hv,rfl⟩
    ·exact this.2 rfl i hi hi2
    ·exact(q.D2 b c ro T2 hb' hT z _ M hz hzm (Ne.symm n2)).1 hv hi
   ·have:=q.D2 b c ro T2 hb' hT b2 o2 T3 g2 hT2 hne
    rw[φo b2 n3];exact this
end
end Go.AD

namespace Go.AD
section
variable {base:Env} {W0:World} {μ:Ad} {H:AA} {W:World}
theorem AP.renew (h:AP base W0 μ H W) {a:Nat} {k:EK} {L L2:List (Option (List (EK.C k)))} {T:Bv} {ts ts2:List Bv} (ha:H.get a=some (.abs (.mem k L) false)) (hm:μ a=some T) (hc:T.e=Cg ts)
 (hlen:ts2.length=L2.length) (hsel:∀(i:Nat) (N:Bv) (m:List (EK.C k)),ts2[i]? = some N→L2[i]? = some (some m)→ts[i]? = some N∧L[i]? = some (some m)):
 AP base W0 (μ.ext H.next { T with e:=Cg ts2 }) ((H.del a).alloc (.abs (.mem k L2) false)) W:=by
 obtain⟨φ,q⟩:=h.abs
 obtain⟨⟨us,hR⟩,hK⟩:=q.rep a _ false T ha hm
 have hut:us=ts:=Ib (hR.code.symm.trans hc)
 subst hut
 have hlt:=h.lt ha
 generalize hT2:({ T with e:=Cg ts2 }:Bv)=T2
 have hTc:T2.c=T.c:=by rw[←hT2]
 have hTe:T2.e=Cg ts2:=by rw[←hT2]
 have hle:μ.le (μ.ext H.next T2):=Ad.DK T2 (h.fresh _ (Nat.le_refl _)).2
 have get:∀x,((H.del a).alloc (.abs (.mem k L2) false)).get x=if x=H.next then some (.abs (.mem k L2) false)else if x=a then none else H.get x:=fun x=>by
  rw[AA.AQ]
  show(if x=H.next then _ else _)=_
  split
  ·rfl
  ·rw[AA.BQ]
 have key:∀b o T3,((H.del a).alloc (.abs (.mem k L2) false)).get b=some o→(μ.ext H.next T2) b=some T3→(b=H.next∧o= .abs (.mem k L2) false∧T3=T2)∨(b≠H.next∧b≠a∧H.get b=some o∧μ b=some T3):=by
  intro b o T3 hb hT
  rw[get]at hb
  by_cases e:b=H.next
  ·rw[if_pos e]at hb;cases hb
   subst e;rw[Ad.Ak]at hT;cases hT
   exact .inl ⟨rfl,rfl,rfl⟩
  ·rw[if_neg e]at hb
   rw[Ad.BX _ _ e]at hT
   by_cases e2:b=a
   ·rw[if_pos e2]at hb;cases hb
   ·rw[if_neg e2]at hb
    exact .inr ⟨e,e2,hb,hT⟩
 let F2:Nat→Prop:=fun x=>∃(j:Nat) (M:Bv) (l:List (EK.C k)),ts2[j]? = some M∧L2[j]? = some (some l)∧¬(AJ.vec k l false).void M∧x=M.c
 have hF:∀x,F2 x→φ a x:=fun x hx=>by
  obtain⟨j,M,l,h1,h2,h3,rfl⟩:=hx
  obtain⟨g1,g2⟩:=hsel j M l h1 h2
  exact(hR.own _).2 ⟨j,M,l,g1,g2,h3,rfl⟩
 let φ':Nat→Nat→Prop:=fun b x=>if b=H.next then F2 x else φ b x
 have φn:∀x,φ' H.next x ↔ F2 x:=fun x=>by show(if H.next=H.next then _ else _) ↔ _;rw[if_pos rfl]
 have φo:∀b,b≠H.next→φ' b=φ b:=fun b hb=>by funext x;show(if b=H.next then _ else _)=_;rw[if_neg hb]
 refine⟨?_,?_,?_,?_,?_,h.size,h.below,h.out,h.os,⟨φ',?_,?_⟩,Ad.le_trans h.le hle,h.grow⟩
 ·intro b o hb T3 hT
  rcases key b o T3 hb hT with⟨rfl,rfl,rfl⟩ | ⟨_,_,hb,hT⟩
  ·obtain⟨p,hp,_⟩:=h.obj a _ ha _ hm
   exact⟨p,by rw[hTc];exact hp,.abs _ _ _ _⟩
  ·obtain⟨p,hp,hp2⟩:=h.obj b o hb T3 hT
   exact⟨p,hp,hp2.mono hle⟩
 ·intro b o hb hr T3 hT hv
  rcases key b o T3 hb hT with⟨rfl,rfl,rfl⟩ | ⟨_,_,hb,hT⟩
  ·exact absurd trivial hv
  ·exact h.own b o hb hr T3 hT hv
 ·intro b1 b2 o1 o2 h1 h2 T3 T4 m1 m2 v1 v2 hcc hrr
  rcases key b1 o1 T3 h1 m1 with⟨rfl,rfl,rfl⟩ | ⟨n1,n2,g1,k1⟩<;>rcases key b2 o2 T4 h2 m2 with⟨rfl,rfl,rfl⟩ | ⟨n3,n4,g2,k2⟩
  ·rfl
  ·exact absurd trivial v1
  ·exact absurd trivial v2
  ·exact h.inj _ _ o1 o2 g1 g2 T3 T4 k1 k2 v1 v2 hcc hrr
 ·intro b hb
  have hb:H.next+1≤b:=hb
  refine⟨?_,by rw[Ad.BX _ _ (by omega)];exact(h.fresh b (by omega)).2⟩
  rw[get,if_neg (by omega),if_neg (by omega)]
  exact(h.fresh b (by omega)).1
 ·intro b T3 hT
  by_cases e:b=H.next
  ·subst e;rw[Ad.Ak]at hT;cases hT
   rw[hTc];exact h.bound a T hm
  ·rw[Ad.BX _ _ e]at hT;exact h.bound b T3 hT
 ·intro b c ro T3 hb hT
  rcases key b _ T3 hb hT with⟨rfl,e,rfl⟩ | ⟨n1,_,hb,hT⟩
  ·cases e
   refine⟨⟨ts2,hTe,hlen,by rw[hTc];exact hR.dF,fun i N m h1 h2=>?_,fun i1 i2 N1 N2 m1 m2 h1 h2 h3 h4=>?_,φn⟩,fun hro i hi=>hK rfl i (hF i ((φn i).1 hi))⟩
   ·obtain⟨g1,g2⟩:=hsel i N m h1 h2
    exact hR.row i N m g1 g2
   ·obtain⟨g1,g3⟩:=hsel i1 N1 m1 h1 h3
    obtain⟨g2,g4⟩:=hsel i2 N2 m2 h2 h4
    exact hR.inj i1 i2 N1 N2 m1 m2 g1 g2 g3 g4
  ·obtain⟨r1,r2⟩:=q.rep b c ro T3 hb hT
   rw[φo b n1]
   exact⟨r1.mono hle,r2⟩
 ·intro b c ro T3 hb hT b2 o2 T4 hb2 hT4 hne
  rcases key b _ T3 hb hT with⟨rfl,e,rfl⟩ | ⟨n1,n2,g1,k1⟩
  ·cases e
   rcases key b2 o2 T4 hb2 hT4 with⟨rfl,_,_⟩ | ⟨n3,n4,g2,k2⟩
   ·exact absurd rfl hne
   ·have:=q.D2 a _ false _ ha hm b2 o2 T4 g2 k2 n4
    rw[φo b2 n3]
    exact⟨fun hv2 hh=>this.1 hv2 (hF _ ((φn _).1 hh)),fun h1 i hi hi2=>this.2 h1 i (hF _ ((φn _).1 hi)) hi2⟩
  ·rw[φo b n1]
   rcases key b2 o2 T4 hb2 hT4 with⟨rfl,rfl,rfl⟩ | ⟨n3,n4,g2,k2⟩
   ·have hba:=q.D2 b c ro T3 g1 k1 a _ T ha hm (Ne.symm n2)
    exact⟨fun hv2=>absurd trivial hv2,fun _ i hi hi2=>hba.2 rfl i hi (hF _ ((φn _).1 hi2))⟩
   ·rw[φo b2 n3]
    exact q.D2 b c ro T3 g1 k1 b2 o2 T4 g2 k2 hne
theorem AH.eM {μ ν:Ad} {z n j len cap:Nat} {M T:Bv} {v':Value} (hz:μ z=some M) (hn:ν n=some T) (hm:Iv T.e j=some M) (h:AH μ (.slice (some ⟨z,0,some 0⟩) len cap) v'):AH ν (.slice (some ⟨n,1,some j⟩) len cap) v':=by
 cases h with
 | Bk _ _ _ _ cap' o' T' h hc ho hr=>
  rw[hz]at h;cases h
  exact .CU n j len cap cap' o' T M hn hm (by rw[Nat.zero_mul]at hc;exact hc) (by rw[Nat.zero_mul,Nat.add_zero]at ho;exact ho) hr
 | Cr _ _ _ T' a h hc=>exact .ED n j cap T a hn hc
theorem AH.eX {μ ν:Ad} {a z j len cap:Nat} {M T:Bv} {v':Value} (ha:μ a=some T) (hm:Iv T.e j=some M) (hz:ν z=some M) (h:AH μ (.slice (some ⟨a,1,some j⟩) len cap) v'):AH ν (.slice (some ⟨z,0,some 0⟩) len cap) v':=by
 cases h with
 | CU _ _ _ _ cap' o' T' M' h hm' hc ho hr=>
  rw[ha]at h;cases h
  rw[hm]at hm';cases hm'
  exact .Bk z 0 len cap cap' o' M hz (by rw[Nat.zero_mul];exact hc) (by rw[Nat.zero_mul,Nat.add_zero];exact ho) hr
 | ED _ _ _ T' x h hc=>exact .Cr z 0 cap M x hz hc
theorem AH.VU {μ ν:Ad} {a n j i len cap:Nat} {T T2:Bv} {v':Value} (ha:μ a=some T) (hn:ν n=some T2) (hm:∀M,Iv T.e j=some M→Iv T2.e i=some M) (h:AH μ (.slice (some ⟨a,1,some j⟩) len cap) v'):AH ν (.slice (some ⟨n,1,some i⟩) len cap) v':=by
 cases h with
 | CU _ _ _ _ cap' o' T' M' h hm' hc ho hr=>
  rw[ha]at h;cases h
  exact .CU n i len cap cap' o' T2 M' hn (hm M' hm') hc ho hr
 | ED _ _ _ T' x h hc=>exact .ED n i cap T2 x hn hc
noncomputable def AA.freeze (H:AA) (a z:Nat) (k:EK) (L:List (Option (List (EK.C k)))) (l:List (EK.C k)):AA:=((((H.del a).alloc (.abs (.mem k (L++[none])) false)).del z).put H.next (.abs (.mem k (L++[some l])) false))
theorem AP.freeze (h:AP base W0 μ H W) {a z:Nat} {k:EK} (hk:k.all Eh=true) {L:List (Option (List (EK.C k)))} {l:List (EK.C k)} {T M:Bv} (ha:H.get a=some (.abs (.mem k L) false)) (hm:μ a=some T)
 (hz:H.get z=some (.vec k l false)) (hzm:μ z=some M):∃ts,T.e=Cg ts∧ts.length=L.length∧AP base W0 (μ.ext H.next { T with e:=Cg (ts++[M]) }) (H.freeze a z k L l) W:=by
 obtain⟨φ,q⟩:=h.abs
 obtain⟨⟨ts,hR⟩,_⟩:=q.rep a _ false T ha hm
 refine⟨ts,hR.code,hR.len,?_⟩
 have hza:z≠a:=by rintro rfl;rw[ha]at hz;cases hz
 have hzl:=h.lt hz
 have h1:=h.renew (L2:=L++[none]) (ts2:=ts++[M]) ha hm hR.code (by rw[List.length_append,List.length_append,hR.len];rfl) (fun i N m g1 g2=>by
  rcases Nat.lt_or_ge i L.length with hi | hi
  ·rw[List.getElem?_append_left hi]at g2
   rw[List.getElem?_append_left (by rw[hR.len];exact hi)]at g1
   exact⟨g1,g2⟩
  ·rw[List.getElem?_append_right hi]at g2
   generalize i - L.length=x at g2
   cases x with
   | zero=>cases g2
   | succ x=>cases g2)
 have e1:∀v:Option (List (EK.C k)),(L++[none]).set L.length v=L++[v]:=fun v=>by
  rw[List.set_append_right _ _ (Nat.le_refl _),Nat.sub_self];rfl
 have h2:=h1.SJ (a:=H.next) (z:=z) (j:=L.length) hk (L:=L++[none]) (l:=l) (T:={ T with e:=Cg (ts++[M]) }) (M:=M) (ts:=ts++[M]) (by rw[e1,AA.AQ];exact if_pos rfl) (Ad.Ak _ _ _) rfl
  (by rw[←hR.len,List.getElem?_append_right (Nat.le_refl _),Nat.sub_self];rfl) (by rw[AA.AQ,if_neg (by show z≠H.next;omega),AA.BQ,if_neg hza];exact hz) (by rw[Ad.BX _ _ (by omega)];exact hzm) (by rw[List.length_append];exact Nat.lt_succ_self _)
 rw[e1]at h2
 exact h2
theorem HK {H:AA} {a z:Nat} {k:EK} {L:List (Option (List (EK.C k)))} {l:List (EK.C k)} (x:Nat):(H.freeze a z k L l).get x=if x=H.next then some (.abs (.mem k (L++[some l])) false)else if x=z then none else if x=a then none else H.get x:=by
 unfold AA.freeze
 rw[AA.AN]
 split
 ·rfl
 ·rename_i h
  rw[AA.BQ]
  split
  ·rfl
  ·rw[AA.AQ,if_neg (by show x≠H.next;exact h),AA.BQ]
end
end Go.AD

namespace Go.AD
open Classical in
noncomputable def KX (F:Ci):Ci:=fun args H=>match args with
 | .slice (some ⟨a,1,some j⟩) n c::rest=>match H.get a with
  | some (.abs (.mem [.str,.str] L) false)=>match L[j]? with
   | some (some l)=>match F (.slice (some ⟨H.next,0,some 0⟩) n c::rest) (H.LC a j [.str,.str] L l)with
    | some (v,H2)=>if H2.get H.next=some (.vec [.str,.str] l false)∧H2.get a=some (.abs (.mem [.str,.str] (L.set j none)) false)then some (v,(H2.del H.next).put a (.abs (.mem [.str,.str] L) false))else none
    | none=>none
   | _=>none
  | _=>none
 | _=>F args H
theorem Jz {P:Program} {laid:List (Nat × List Value)} {f:FuncId} {F:Ci} (h:Dr P laid f F):Dr P laid f (KX F):=by
 refine⟨h.1,fun base W0 μ H W args args' v H' hW hH hl ha hF=>?_⟩
 unfold KX at hF
 split at hF
 ·rename_i a j n c rest
  split at hF
  ·rename_i L hga
   split at hF
   ·rename_i l hLj
    split at hF
    ·rename_i v1 H2 hF2
     split at hF
     ·rename_i hkeep
      cases hF
      obtain⟨k1,k2⟩:=hkeep
      obtain⟨args'⟩:=args'
      cases ha with
      | cons ha0 har=>
       rename_i w rest'
       obtain⟨T,hT⟩:∃T,μ a=some T:=by
        cases ha0 with
        | CU _ _ _ _ _ _ T _ h=>exact⟨T,h⟩
        | ED _ _ _ T _ h=>exact⟨T,h⟩
       obtain⟨ts,M,e1,e2,hH2⟩:=hH.LC hga hT hLj
       have hlt:=hH.lt hga
       have hle:μ.le (μ.ext H.next M):=Ad.DK M (hH.fresh _ (Nat.le_refl _)).2
       have ha0':AH (μ.ext H.next M) (.slice (some ⟨H.next,0,some 0⟩) n c) w:=AH.eX hT (by rw[e1,Ek];exact e2) (Ad.Ak _ _ _) ha0
       refine(h.2 base W0 _ _ W _ _ _ _ hW hH2 (hl.mono hle) (.cons ha0' (har.mono hle)) hF2).mono fun e W' ⟨v',μ',he,r1,r2,r3⟩=>?_
       have ma:μ' a=some T:=r3.le a T (hle a T hT)
       have mz:μ' H.next=some M:=r3.le _ M (Ad.Ak _ _ _)
       have hLL:L.set j (some l)=L:=by
        obtain⟨hj,hx⟩:=List.getElem?_eq_some_iff.1 hLj
        rw[←hx,List.set_getElem_self]
       have r4:=r1.SJ (a:=a) (z:=H.next) (j:=j) (by rfl) k2 ma e1 e2 k1 mz (List.getElem?_eq_some_iff.1 hLj).1
       rw[hLL]at r4
       refine⟨v',μ',he,r4,r2,Ad.le_trans hle r3.le,?_,fun b hb hn=>?_⟩
       ·have h1:=r3.next
        have h2:H.next+1≤H2.next:=h1
        show H.next≤H2.next
        omega
       ·have hba:b≠a:=by rintro rfl;rw[hT]at hn;cases hn
        have g:=r3.ghost b (by show b < H.next+1;omega) (by rw[Ad.BX _ _ (by omega)];exact hn)
        refine⟨g.1,?_⟩
        rw[AA.AN,if_neg hba,AA.BQ,if_neg (by omega),g.2,F6,if_neg (by omega),if_neg hba]
     ·cases hF
    ·cases hF
   ·cases hF
  ·cases hF
 ·exact h.2 base W0 μ H W args args' v H' hW hH hl ha hF
structure FJ (L:List (Option (List (EK.C [.str,.str])))) (j:Nat) (l:List (EK.C [.str,.str])):Prop where
 e:L[j]? = some (some l)
structure C5 (l l2:List (EK.C [.str,.str])) (L L2:List (Option (List (EK.C [.str,.str])))) (j:Nat):Prop where
 e1:l2=l
 e2:L2=L.set j none
noncomputable def SV (p:GP) (cur:List (EK.C [.str,.str])):GP:=fun args H K=>match args with
 | .slice (some ⟨a,1,some j⟩) n c::rest=>match H.get a with
  | some (.abs (.mem [.str,.str] L) false)=>FJ L j cur∧p (.slice (some ⟨H.next,0,some 0⟩) n c::rest) (H.LC a j [.str,.str] L cur) fun v H2=>
   match H2.get H.next with
   | some (.vec [.str,.str] l2 false)=>match H2.get a with
    | some (.abs (.mem [.str,.str] L2) false)=>C5 cur l2 L L2 j∧K v ((H2.del H.next).put a (.abs (.mem [.str,.str] L) false))
    | _=>False
   | _=>False
  | _=>False
 | _=>False
theorem Jl {X:Ctx} {f:FuncId} {F:Ci} {p:GP} {cur:List (EK.C [.str,.str])} (hX:X.GC f=some (KX F)) (hp:∀(args:List Value) (H:AA) (K:Value→AA→Prop),p args H K→∃v H',F args H=some (v,H')∧K v H')
 (args:List Value) (H:AA) (K:Value→AA→Prop) (h:SV p cur args H K):∃v H',B5 X f args .normal H=some (v,H')∧K v H':=by
 unfold SV at h
 split at h
 ·rename_i a j n c rest
  split at h
  ·rename_i L hga
   obtain⟨⟨hL⟩,h⟩:=h
   obtain⟨v,H2,h1,h5⟩:=hp _ _ _ h
   split at h5
   ·rename_i l2 h2
    split at h5
    ·rename_i L2 h3
     obtain⟨⟨rfl,rfl⟩,h4⟩:=h5
     refine⟨v,_,?_,h4⟩
     have e:KX F (.slice (some ⟨a,1,some j⟩) n c::rest) H=some (v,(H2.del H.next).put a (.abs (.mem [.str,.str] L) false)):=by
      unfold KX
      simp only[hga,hL,h1]
      rw[if_pos ⟨h2,h3⟩]
     unfold B5
     rw[hX]
     exact e
    ·exact h5.elim
   ·exact h5.elim
  ·exact h.elim
 ·exact h.elim
end Go.AD

namespace Go.AD
section
variable {base:Env} {W0:World} {μ:Ad} {H:AA} {W:World}
theorem A2.maps {μ ν:Ad}:∀(x x' l:List Value),x'.length=x.length→(∀(i:Nat) v v',x[i]? = some v→x'[i]? = some v'→∀w,AH μ v w→AH ν v' w)→A2 μ x l→A2 ν x' l
 | [],[],_,_,_,h=>by cases h;exact .nil
 | [],_::_,_,hl,_,_=>by cases hl
 | _::_,[],_,hl,_,_=>by cases hl
 | _::x,_::x',_,hl,hv,h=>by
  cases h with
  | cons h1 h2=>exact .cons (hv 0 _ _ rfl rfl _ h1) (A2.maps x x' _ (by simpa using hl) (fun i v v' e1 e2=>hv (i+1) v v' e1 e2) h2)
theorem AP.TS (h:AP base W0 μ H W) {b:Nat} {x x':List (EK.C [.tok])} {ro:Bool} (hb:H.get b=some (.vec [.tok] x ro)) (hlen:x'.length=x.length) (hv:∀(i:Nat) (v v':Value),x[i]? = some v→x'[i]? = some v'→∀w,AH μ v w→AH μ v' w):
 AP base W0 μ (H.put b (.vec [.tok] x' ro)) W:=by
 refine h.swap hb (fun T o' _ ho=>?_) rfl rfl rfl (fun T _ hvd=>?_)
 ·cases ho with
  | EG _ _ _ h1 h2 h3=>
   cases x' with
   | nil=>exact .EG T _ ro _ h1 h2 h3
   | cons=>cases hlen
  | vec _ _ _ _ hc=>
   refine .vec T [.tok] _ ro o' ?_
   rw[Gk]at hc ⊢
   cases hc with
   | cells _ _ _ c t lo hi he hc hr hf=>
    refine .cells T _ _ ro c t lo hi he ?_ hr hf
    have e2:List.length (α:=Value) x'=List.length (α:=Value) x:=hlen
    rw[e2]
    exact A2.maps x x' _ hlen hv hc
 ·obtain⟨h1,h2⟩:=hvd
  refine⟨?_,h2⟩
  cases x' with
  | nil=>rfl
  | cons=>rw[h1]at hlen;cases hlen
end
theorem Nx (b:Nat):∀(j:Nat) (L:List (List (ByteArray × ByteArray))),(E6 b j L).length=L.length
 | _,[]=>rfl
 | j,l::L=>by show(E6 b (j+1) L).length+1=L.length+1;rw[Nx b (j+1) L]
theorem OH (b:Nat):∀(j i:Nat) (L:List (List (ByteArray × ByteArray))),(E6 b j L)[i]? = (L[i]?).map fun l=>Value.slice (some ⟨b,1,some (j+i)⟩) l.length AE
 | j,i,[]=>by simp[E6]
 | j,0,l::L=>by simp[E6]
 | j,i+1,l::L=>by
  show(E6 b (j+1) L)[i]? = _
  rw[OH b (j+1) i L,show j+1+i=j+(i+1) by omega];rfl
theorem JT (b i:Nat) (L:List (List (ByteArray × ByteArray))):(Ae b L)[i]? = (L[i]?).map fun l=>Value.slice (some ⟨b,1,some i⟩) l.length AE:=by
 unfold Ae;rw[OH,Nat.zero_add]
theorem Da (b:Nat) (L:List (List (ByteArray × ByteArray))):(Ae b L).length=L.length:=Nx b 0 L
section
variable {base:Env} {W0:World} {μ:Ad} {H:AA} {W:World}
theorem AP.Up (h:AP base W0 μ H W) {a y z:Nat} {L:List (List (ByteArray × ByteArray))} {l:List (ByteArray × ByteArray)} {r:List (EK.C [.tok])} {T M:Bv} (ha:H.get a=some (.abs (.mem [.str,.str] (L.map some)) false)) (hm:μ a=some T)
 (hy:H.get y=some (.vec [.tok] (VK a z L l.length r) false)) (hz:H.get z=some (.vec [.str,.str] l false)) (hzm:μ z=some M):
 ∃T2,AP base W0 (μ.ext H.next T2) ((H.freeze a z [.str,.str] (L.map some) l).put y (.vec [.tok] (Ae H.next (L++[l])++r) false)) W:=by
 obtain⟨ts,e1,e2,h1⟩:=h.freeze (k:=[.str,.str]) (by rfl) ha hm hz hzm
 refine⟨_,h1.TS (x:=VK a z L l.length r) ?_ ?_ ?_⟩
 ·have hyz:y≠z:=by rintro rfl;rw[hz]at hy;cases hy
  have hya:y≠a:=by rintro rfl;rw[ha]at hy;cases hy
  have hyl:=h.lt hy
  rw[HK,if_neg (by omega),if_neg hyz,if_neg hya];exact hy
 ·unfold VK
  rw[List.length_append,List.length_append,Da,Da,List.length_append,List.length_cons]
  show L.length+1+r.length=L.length+(r.length+1)
  omega
 ·intro i v v' g1 g2 w hw
  have hlt:=h.lt ha
  have hzl:=h.lt hz
  have ma:(μ.ext H.next { T with e:=Cg (ts++[M]) }) a=some T:=by rw[Ad.BX _ _ (by omega)];exact hm
  have mz:(μ.ext H.next { T with e:=Cg (ts++[M]) }) z=some M:=by rw[Ad.BX _ _ (by omega)];exact hzm
  have hL:(L.map some).length=L.length:=List.length_map _
  have hl1:(Ae H.next (L++[l])).length=L.length+1:=by rw[Da,List.length_append];rfl
  unfold VK at g1
  rcases Nat.lt_or_ge i L.length with hi | hi
  ·rw[List.getElem?_append_left (by rw[Da];exact hi),JT,List.getElem?_eq_getElem hi]at g1
   rw[List.getElem?_append_left (by rw[hl1];omega),JT,List.getElem?_append_left hi,List.getElem?_eq_getElem hi]at g2
   cases g1;cases g2
   refine AH.VU ma (Ad.Ak _ _ _) (fun N hN=>?_) hw
   rw[e1,Ek]at hN
   show Iv (Cg (ts++[M])) i=some N
   rw[Ek,List.getElem?_append_left (by rw[e2,hL];exact hi)];exact hN
  ·rw[List.getElem?_append_right (by rw[Da];exact hi),Da]at g1
   rcases Nat.lt_or_ge L.length i with hi2 | hi2
   ·rw[List.getElem?_append_right (by rw[hl1];omega),hl1]at g2
    obtain⟨x,hx⟩:∃x,i - L.length=x+1:=⟨i - L.length - 1,by omega⟩
    rw[hx]at g1
    rw[show i - (L.length+1)=x by omega]at g2
    have g1:r[x]? = some v:=g1
    rw[g1]at g2;cases g2
    exact hw
   ·obtain rfl:i=L.length:=by omega
    rw[Nat.sub_self]at g1
    rw[List.getElem?_append_left (by rw[hl1];omega),JT,List.getElem?_append_right (Nat.le_refl _),Nat.sub_self]at g2
    cases g1;cases g2
    refine AH.eM mz (Ad.Ak _ _ _) ?_ hw
    show Iv (Cg (ts++[M])) L.length=some M
    rw[Ek,List.getElem?_append_right (by rw[e2,hL];exact Nat.le_refl _),e2,hL,Nat.sub_self];rfl
end
end Go.AD
