/-
  Part of the proof: the machine that runs a program by fixed orders, and that each of its runs is a run of the model; or a run of it in parts. No conditions.
-/
import Derived.WalkKit
import Derived.Lib.Walk
import Derived.Lib.SliceRun
import Derived.Lib.JoinLaws
import Derived.Lib.AppendZeros
import Derived.Lib.AppendZerosOnto
import Derived.Lib.Overlaps
import Derived.Laws.Externs
import Derived.Laws.IdiomCopy
import Derived.Laws.NewBlocks
import Derived.Shelf.RegionOpenPlain
import Derived.Shelf.Spec.SlicesInsert
import Derived.Test.YtbojbpalkegahaaGreatDoorC42e
import Derived.Test.YtbojbpalkegahaaGreatDoorChecked
import Derived.OwnWalk
import Derived.Deep.RegionLaw
import Derived.Below
import Derived.Test.YtbojbpalkegahaaGreatDoorIdSim5
import Derived.Laws.Strings
noncomputable section
set_option maxRecDepth 1000000
set_option linter.unusedVariables false
set_option linter.unusedSimpArgs false
namespace Go.AI
variable {P:Program}
theorem EO (w:World) (dT sT ty elem:TypeId) (k b o dLen dCap:Nat) (a:Addr) (sLen sCap m:Nat) (cs:List Value)
 (hu:P.underlying dT=some (.slice elem)) (hs:(P.info? elem).map (·.size)=some k) (hm:m=Nat.min sLen dLen) (hn:cs.length=m * k)
 (hsrc:∀j v,cs[j]? = some v->w.cell? (a.add j)=some v) (hc:∀j,j < cs.length->(w.cell? ⟨b,o+j,none⟩).isSome=true) (hf:∀j,j < cs.length->w.frozen? ⟨b,o+j,none⟩=false) (h1:∀v∈cs,v.oneCell'=true):
 (Builtin.copy_ #[dT,sT] ty #[.slice (some ⟨b,o,none⟩) dLen dCap,.slice (some a) sLen sCap]).run P w= .ok (goInt m) (w.setCells b o cs):=by
 have hl:=run_loadCells_list (P:=P) w a cs hsrc;have hst:=run_storeCells_cells (P:=P) b o cs 0 w (by simpa using hc) (by simpa using hf) h1;cases hq:P.info? elem with
 | none=>simp[hq]at hs
 | some i=>
  have hi:i.size=k:=by simpa [hq] using hs
  simp[Builtin.copy_,run_underlying hu,Builtin.lenOf,Builtin.firstCells,sizeOf,typeInfo,hq,hi,<-hm,<-hn,hl,hst]
end Go.AI
set_option linter.unusedVariables false
set_option linter.unusedSimpArgs false
namespace Go.AI
open Go.Proofs Go.RowKit Go.Lib
set_option maxHeartbeats 4000000 in
set_option maxRecDepth 100000 in
theorem Rb (b off n c i vb voff m vc:Nat) (cs vs:List Value) (w:World) (hi:i < n) (hm:0 < m) (hroom:n+m<=c) (hc63:c<=9223372036854775807) (hvb:vb≠b)
 (hcl:cs.length=n * 2) (hvl:vs.length=m * 2)
 (hcs:∀j v,cs[j]? = some v->w.cell? ⟨b,off+j,none⟩=some v) (hsp:∀j,j < (n+m) * 2->(w.cell? ⟨b,off+j,none⟩).isSome=true) (hfz:∀j,j < (n+m) * 2->w.frozen? ⟨b,off+j,none⟩=false)
 (hvs:∀j v,vs[j]? = some v->w.cell? ⟨vb,voff+j,none⟩=some v) (h1c:∀v∈cs,v.oneCell'=true) (h1v:∀v∈vs,v.oneCell'=true)
 (tA tB:TypeId) (kA kB:Nat) (hsa:w.shape? vb=some (tA,kA)) (hsb:w.shape? b=some (tB,kB)) (hkB:kB≠0) (hfa:w.frozen? ⟨vb,voff,none⟩=false) (hfe:w.frozen? ⟨vb,kA,none⟩=false):
 Calls Tryz.prog 69 #[.slice (some ⟨b,off,none⟩) n c,.int .i64 i,.slice (some ⟨vb,voff,none⟩) m vc] w fun e w'=>
  e= .returned (.slice (some ⟨b,off,none⟩) (n+m) c)/\w'=(w.drew.setCells b (off+(i+m) * 2) (cs.drop (i * 2))).setCells b (off+i * 2) vs:=by
 have mixed:Tryz.prog.follows .mixedOrders=true:=by kernel_rfl
 have hz1:¬((m:Int)=0):=by omega
 have hz2:¬((i:Int)=(n:Int)):=by omega
 have hsz:(Tryz.prog.info? 101).map (·.size)=some 2:=by kernel_rfl
 have hov:∀lb cb,(callFunc 73 #[.slice (some ⟨vb,voff,none⟩) m vc,.slice (some ⟨b,off+(i+m) * 2,none⟩) lb cb]).run Tryz.prog w= .ok (.value (.bool false)) w:=fun lb cb=>by
  rw[run_callFunc_extern Tryz.func73 (by kernel_rfl) (by kernel_rfl) (by kernel_rfl) (e:=Extern.SlicesOverlaps.overlaps #[95,95] #[4]) (by kernel_rfl),
   Lib.run_overlaps_apart w 95 4 101 Tryz.underlying95 2 (fun w=>Tryz.sizeOf101 w) ⟨vb,voff,none⟩ ⟨b,off+(i+m) * 2,none⟩ m vc lb cb hvb tA tB kA kB hsa hsb hkB hfa hfe]
  rfl
 have hdl:(cs.drop (i * 2)).length=(n - i) * 2:=by rw[List.length_drop,hcl,Nat.sub_mul]
 have hw1:IntKind.i64.wrap ((i:Int)+(m:Int))=(i:Int)+(m:Int):=by rw[IntKind.wrap_i64];omega
 have hb1:(0:Int)<=(i:Int)+(m:Int):=by omega
 have hin:i<=n:=by omega
 have htn:((i:Int)+(m:Int)).toNat=i+m:=by omega
 have hb2:¬(c=i+m):=by omega
 have hb3:(i:Int)<=(n:Int)+(m:Int):=by omega
 have hb4:¬(c=i):=by omega
 have hcp1:∀ty dc sc,(Builtin.copy_ #[95,95] ty #[.slice (some ⟨b,off+(i+m) * 2,none⟩) (n+m - (i+m)) dc,.slice (some ⟨b,off+i * 2,none⟩) (n+m - i) sc]).run Tryz.prog w.drew= .ok (goInt ((n - i:Nat):Int)) (w.drew.setCells b (off+(i+m) * 2) (cs.drop (i * 2))):=fun ty dc sc=>
  EO w.drew _ _ ty 101 2 b (off+(i+m) * 2) (n+m - (i+m)) dc ⟨b,off+i * 2,none⟩ (n+m - i) sc (n - i) (cs.drop (i * 2)) Tryz.underlying95 hsz (by simp only[Nat.min_def];split<;>omega) hdl
   (fun j v hj=>by rw[Addr.add_lit,Nat.add_assoc];exact hcs (i * 2+j) v (by rwa [List.getElem?_drop]at hj))
   (fun j hj=>by rw[Nat.add_assoc];exact hsp _ (by omega)) (fun j hj=>by rw[Nat.add_assoc];exact hfz _ (by omega)) (fun v hv=>h1c v (List.mem_of_mem_drop hv))
 obtain⟨W1,hW1⟩:∃W1,W1=w.drew.setCells b (off+(i+m) * 2) (cs.drop (i * 2)):=⟨_,rfl⟩
 have hsp1:∀k,k < (n+m) * 2->(W1.cell? ⟨b,off+k,none⟩).isSome=true:=fun k hk=>by
  rw[hW1];exact isSome_setCells b _ _ _ (fun j hj=>by rw[Nat.add_assoc];exact hsp _ (by omega)) _ (hsp k hk)
 have hcp2:∀(W:World),(∀x,W.cell? x=W1.cell? x)->(∀x,W.frozen? x=W1.frozen? x)->∀ty dc,(Builtin.copy_ #[95,95] ty #[.slice (some ⟨b,off+i * 2,none⟩) (n+m - i) dc,.slice (some ⟨vb,voff,none⟩) m vc]).run Tryz.prog W= .ok (goInt m) (W.setCells b (off+i * 2) vs):=fun W hWc hWf ty dc=>
  EO W _ _ ty 101 2 b (off+i * 2) (n+m - i) dc ⟨vb,voff,none⟩ m vc m vs Tryz.underlying95 hsz (by simp only[Nat.min_def];split<;>omega) hvl
   (fun j v hj=>by
    rw[Addr.add_lit,hWc,hW1,World.cell?_setCells_out b _ _ _ _ (fun h _=>absurd h hvb)];exact hvs j v hj)
   (fun j hj=>by rw[hWc,Nat.add_assoc];exact hsp1 _ (by omega)) (fun j hj=>by rw[hWf,hW1,World.frozen?_setCells,Nat.add_assoc];exact hfz _ (by omega)) h1v
 rw[<-hW1]at hcp1
 go_enter Tryz.func69,Tryz.ntmps69
 go_wp2_with (simp only[hov])
 go_region_law_o (refine step_copy_runI rfl _ _ 95 95 rfl _ _ (by simp[Act.eval,Act.put]) (by simp[Act.eval,Act.put]) (hcp1 _ _ _) ?_)
 go_wp2_with (at_builtin;refine wpList_copy_runI _ rfl _ _ 95 95 rfl _ _ rfl rfl (hcp2 _ (fun _=>rfl) (fun _=>rfl) _ _) ?_)
 go_ret
 first | exact⟨rfl,rfl⟩ | exact⟨rfl,by rw[hW1]⟩
set_option maxHeartbeats 4000000 in
set_option maxRecDepth 100000 in
theorem Ss (b off n c i vb voff m vc:Nat) (cs vs:List Value) (w:World) (hi:i < n) (hm:0 < m) (hnc:n<=c) (hroom:c < n+m) (hbig:(2 * (n+m)+192) * 32<=281474976710656)
 (hcl:cs.length=n * 2) (hvl:vs.length=m * 2)
 (hcs:∀j v,cs[j]? = some v->w.cell? ⟨b,off+j,none⟩=some v)
 (hvs:∀j v,vs[j]? = some v->w.cell? ⟨vb,voff+j,none⟩=some v) (h1c:∀v∈cs,v.oneCell'=true) (h1v:∀v∈vs,v.oneCell'=true):
 Calls Tryz.prog 69 #[.slice (some ⟨b,off,none⟩) n c,.int .i64 i,.slice (some ⟨vb,voff,none⟩) m vc] w fun e w'=>
  ∃(G:Nat) (ROW:Array Value),n+m<=G/\ROW.size=G * 2/\ROW.toList.take (i * 2)=cs.take (i * 2)/\e= .returned (.slice (some ⟨w.heap.size,0,none⟩) (n+m) G)/\G<=9223372036854775807/\
   w'=(((w.alloc (.cells ROW 101)).drew.setCells w.heap.size (i * 2) vs).drew).setCells w.heap.size ((i+m) * 2) (cs.drop (i * 2)):=by
 have mixed:Tryz.prog.follows .mixedOrders=true:=by kernel_rfl
 obtain⟨i0,z0,hi0,hz0,hzs,hzb,hzc⟩:∃i0 z0,Tryz.prog.info? 101=some i0/\i0.zero=some z0/\i0.size=2/\i0.bytes=32/\z0.cells.size=2:=⟨Tryz.t101,Tryz.t101.zero.getD default,by kernel_rfl,by kernel_rfl,by kernel_rfl,by kernel_rfl,by kernel_rfl⟩
 have hz1:¬((m:Int)=0):=by omega
 have hz2:¬((i:Int)=(n:Int)):=by omega
 have hz3:(c:Int) < (n:Int)+(m:Int):=by omega
 have hsz:(Tryz.prog.info? 101).map (·.size)=some 2:=by rw[hi0];simp[hzs]
 have hbw:b < w.heap.size:=block_lt_of_cell (hcs 0 _ (List.getElem?_eq_getElem (by omega)));have hvw:vb < w.heap.size:=block_lt_of_cell (hvs 0 _ (List.getElem?_eq_getElem (by omega)));have hkk:(n:Int)+(m:Int) - (i:Int)=((n+m - i:Nat):Int):=by omega
 have hik:i+(n+m - i)=n+m:=by omega
 have hold:(Builtin.firstCells i0.size i (.slice (some ⟨b,off,none⟩) i c)).run Tryz.prog w.drew= .ok (cs.take (i * 2)).toArray w.drew:=by
  rw[hzs];exact run_firstCells_some w.drew 2 i ⟨b,off,none⟩ i c (cs.take (i * 2)) (by rw[List.length_take];omega) (fun j v hj=>by
   rw[Addr.add_lit];rw[List.getElem?_take]at hj;split at hj
   ·exact hcs j v hj
   ·cases hj)
 have hncl:=Js (need:=n+m) (cap:=c) hroom;have hfits:Builtin.nextslicecap (n+m) c * 32<=281474976710656:=Nat.le_trans (Nat.mul_le_mul_right _ hncl) hbig;have hrz:∀ty,(Builtin.append_ #[95,3] ty #[.slice (some ⟨b,off,none⟩) i c,.int .i64 ((n:Int)+(m:Int) - (i:Int))]).run Tryz.prog w=
  .ok (.slice (some ⟨w.heap.size,0,none⟩) (n+m) (grownCap w (n+m) c 101)) (w.drew.alloc (.cells ((cs.take (i * 2)).toArray++Builtin.zeroCells z0.cells (n+m - i)++Builtin.zeroCells z0.cells (grownCap w (n+m) c 101 - (n+m))) 101)):=fun ty=>by
  have h:=Lib.run_append_grow_zeros w 95 3 ty 101 i0 _ .i64 .i64 Tryz.underlying95 Tryz.underlying3 hi0 hz0 (some ⟨b,off,none⟩) i c (cs.take (i * 2)) hold (n+m - i) (by omega) (by omega) (by omega) (by omega) (by rw[hzb];omega) (by rw[hzb,hik];exact hfits);rw[hik]at h;rw[hkk];exact h
 obtain⟨G,hG⟩:∃G,G=grownCap w (n+m) c 101:=⟨_,rfl⟩
 have hGn:n+m<=G:=by rw[hG];exact grownCap_ge w _ _ _
 obtain⟨ROW,hROW⟩:∃ROW:Array Value,ROW=(cs.take (i * 2)).toArray++Builtin.zeroCells z0.cells (n+m - i)++Builtin.zeroCells z0.cells (G - (n+m)):=⟨_,rfl⟩
 rw[<-hG]at hrz;rw[<-hROW]at hrz;have hRl:ROW.size=G * 2:=by
  rw[hROW];simp[EG,hzc,hcl];omega
 have hRt:ROW.toList.take (i * 2)=cs.take (i * 2):=by
  rw[hROW];simp only[Array.toList_append,List.append_assoc];rw[List.take_append_of_le_length (by simp[hcl];omega),List.take_take,Nat.min_self]
 obtain⟨W1,hW1⟩:∃W1,W1=w.drew.alloc (.cells ROW 101):=⟨_,rfl⟩
 rw[<-hW1]at hrz;have hN:∀j,j < (n+m) * 2->(W1.cell? ⟨w.heap.size,j,none⟩).isSome=true:=fun j hj=>by
  rw[hW1,World.cell?_alloc_at (w:=w.drew) ROW _ w.heap.size j rfl,Array.getElem?_eq_getElem (by omega)];rfl
 have hNf:∀j,W1.frozen? ⟨w.heap.size,j,none⟩=false:=fun j=>by rw[hW1];exact World.frozen?_alloc_at (w:=w.drew) ROW _ w.heap.size j rfl
 have hOb:∀j v,w.cell? ⟨b,j,none⟩=some v->W1.cell? ⟨b,j,none⟩=some v:=fun j v h=>by rw[hW1,World.cell?_alloc_past (w:=w.drew) _ b j hbw];exact h
 have hOv:∀j v,w.cell? ⟨vb,j,none⟩=some v->W1.cell? ⟨vb,j,none⟩=some v:=fun j v h=>by rw[hW1,World.cell?_alloc_past (w:=w.drew) _ vb j hvw];exact h
 have hcpA:∀(W:World),(∀x,W.cell? x=W1.cell? x)->(∀x,W.frozen? x=W1.frozen? x)->∀ty dc,(Builtin.copy_ #[95,95] ty #[.slice (some ⟨w.heap.size,i * 2,none⟩) (n+m - i) dc,.slice (some ⟨vb,voff,none⟩) m vc]).run Tryz.prog W= .ok (goInt m) (W.setCells w.heap.size (i * 2) vs):=fun W hWc hWf ty dc=>
  EO W _ _ ty 101 2 w.heap.size (i * 2) (n+m - i) dc ⟨vb,voff,none⟩ m vc m vs Tryz.underlying95 hsz (by simp only[Nat.min_def];split<;>omega) hvl
   (fun j v hj=>by rw[Addr.add_lit,hWc];exact hOv _ v (hvs j v hj))
   (fun j hj=>by rw[hWc];exact hN _ (by omega)) (fun j hj=>by rw[hWf];exact hNf _) h1v
 have hG63:G<=9223372036854775807:=by
  have:=grownCap_le_maxLen w (n+m) c 101 (by unfold maxLen;omega);rw[<-hG]at this;unfold maxLen at this;omega
 have hGi:¬(G=i):=by omega
 have hGim:¬(G=i+m):=by omega
 have hci:¬(c=i):=by omega
 have hbN:b≠w.heap.size:=by omega
 have hdl:(cs.drop (i * 2)).length=(n - i) * 2:=by rw[List.length_drop,hcl,Nat.sub_mul]
 have hcpB:∀(W:World),(∀x,W.cell? x=(W1.setCells w.heap.size (i * 2) vs).cell? x)->(∀x,W.frozen? x=(W1.setCells w.heap.size (i * 2) vs).frozen? x)->∀ty dc sc,(Builtin.copy_ #[95,95] ty #[.slice (some ⟨w.heap.size,(i+m) * 2,none⟩) (n+m - (i+m)) dc,.slice (some ⟨b,off+i * 2,none⟩) (n - i) sc]).run Tryz.prog W= .ok (goInt ((n - i:Nat):Int)) (W.setCells w.heap.size ((i+m) * 2) (cs.drop (i * 2))):=fun W hWc hWf ty dc sc=>
  EO W _ _ ty 101 2 w.heap.size ((i+m) * 2) (n+m - (i+m)) dc ⟨b,off+i * 2,none⟩ (n - i) sc (n - i) (cs.drop (i * 2)) Tryz.underlying95 hsz (by simp only[Nat.min_def];split<;>omega) hdl
   (fun j v hj=>by
    rw[Addr.add_lit,hWc,World.cell?_setCells_out _ _ _ _ _ (fun h _=>absurd h hbN),Nat.add_assoc];exact hOb _ v (hcs (i * 2+j) v (by rwa [List.getElem?_drop]at hj)))
   (fun j hj=>by rw[hWc];exact isSome_setCells _ _ _ _ (fun t ht=>hN _ (by omega)) _ (hN _ (by omega)))
   (fun j hj=>by rw[hWf,World.frozen?_setCells];exact hNf _) (fun v hv=>h1c v (List.mem_of_mem_drop hv))
 subst hW1;have hE1:∀x,((w.alloc (.cells ROW 101)).drew).cell? x=(w.drew.alloc (.cells ROW 101)).cell? x:=fun x=>rfl
 have hE2:∀x,((w.alloc (.cells ROW 101)).drew).frozen? x=(w.drew.alloc (.cells ROW 101)).frozen? x:=fun x=>rfl
 have hF1:∀x,(((w.alloc (.cells ROW 101)).drew.setCells w.heap.size (i * 2) vs).drew).cell? x=((w.drew.alloc (.cells ROW 101)).setCells w.heap.size (i * 2) vs).cell? x:=fun x=>rfl
 have hF2:∀x,(((w.alloc (.cells ROW 101)).drew.setCells w.heap.size (i * 2) vs).drew).frozen? x=((w.drew.alloc (.cells ROW 101)).setCells w.heap.size (i * 2) vs).frozen? x:=fun x=>rfl
 have hw1:IntKind.i64.wrap ((i:Int)+(m:Int))=(i:Int)+(m:Int):=by rw[IntKind.wrap_i64];omega
 have hb1:(0:Int)<=(i:Int)+(m:Int):=by omega
 have hin:i<=n:=by omega
 have htn:((i:Int)+(m:Int)).toNat=i+m:=by omega
 have hb3:(i:Int)<=(n:Int):=by omega
 clear hkk hik hold hROW hG hncl hfits
 go_enter Tryz.func69,Tryz.ntmps69
 go_wp2_with (first
  | (at_builtin;refine Lib.wpList_append_run _ rfl _ _ _ _ rfl _ _ rfl rfl _ _ (hrz _) ?_)
  | (at_builtin;refine wpList_copy_runI _ rfl _ _ 95 95 rfl _ _ rfl rfl (hcpA _ hE1 hE2 _ _) ?_)
  | (at_builtin;refine wpList_copy_runI _ rfl _ _ 95 95 rfl _ _ rfl rfl (hcpB _ (fun _=>rfl) (fun _=>rfl) _ _ _) ?_))
 go_region_law_o (refine step_copy_runI rfl _ _ 95 95 rfl (.slice (some ⟨w.heap.size,(i+m) * 2,none⟩) (n+m - (i+m)) (G - (i+m))) (.slice (some ⟨b,off+i * 2,none⟩) (n - i) (c - i)) (by simp[Act.eval,Act.put]) (by simp[Act.eval,Act.put]) (hcpB _ hF1 hF2 3 (G - (i+m)) (c - i)) ?_)
 go_wp2
 go_ret
 exact⟨G,ROW,hGn,hRl,hRt,rfl,hG63,rfl⟩
end Go.AI
set_option linter.unusedVariables false
set_option linter.unusedSimpArgs false
namespace Go.AI
variable {P:Program}
theorem LP (w:World) (t e ty:TypeId) (z:Value) (ht:P.underlying t=some (.slice e)) (hv:∀w,(zeroValue e).run P w= .ok z w) (h1:∀v∈z.cells.toList,v.oneCell'=true) (b o n c:Nat) (hn:0 < n)
 (hc:∀j,j < n * z.cells.size->(w.cell? ⟨b,o+j,none⟩).isSome=true) (hf:∀j,j < n * z.cells.size->w.frozen? ⟨b,o+j,none⟩=false):
 (Builtin.clear_ #[t] ty #[.slice (some ⟨b,o,none⟩) n c]).run P w= .ok (.tuple #[]) (w.setCells b o (Builtin.zeroCells z.cells n).toList):=by
 have hl:(Builtin.zeroCells z.cells n).toList.length=n * z.cells.size:=by simp[Builtin.zeroCells]
 have hm:∀v∈(Builtin.zeroCells z.cells n).toList,v.oneCell'=true:=by
  intro v hv';simp only[Builtin.zeroCells,Array.toList_map,List.mem_map]at hv';obtain⟨i,hi,rfl⟩:=hv';have hi:i < n * z.cells.size:=by simpa using hi
  have hp:0 < z.cells.size:=by
   rcases Nat.eq_zero_or_pos z.cells.size with h | h
   ·rw[h,Nat.mul_zero]at hi;omega
   ·exact h
  have hlt:=Nat.mod_lt i hp;rw[getElem!_pos z.cells (i % z.cells.size) hlt];exact h1 _ (by simp)
 have hst:=run_storeCells_cells (P:=P) b o (Builtin.zeroCells z.cells n).toList 0 w (by rw[hl];simpa using hc) (by rw[hl];simpa using hf) hm;simp only[Nat.add_zero]at hst;obtain⟨m,rfl⟩:∃m,n=m+1:=⟨n - 1,by omega⟩
 simp[Builtin.clear_,run_underlying ht,hv,hst]
end Go.AI
namespace Go.AI
open Classical in
def HU (sz:Nat):Cn:=fun args H=>
 match args with
 | [.slice (some ⟨b,0,some q⟩) n cap,.int .i64 x,.int .i64 y]=>
  match H.get b with
  | some (.vec k l false)=>
   if k.length=sz/\cap=AF/\k.all SK.plain=true/\q+n<=l.length/\0<=x/\x < y/\y<=n then
    some (.slice (some ⟨H.next,0,some 0⟩) (n - (y.toNat - x.toNat)) AF,(H.del b).alloc (.vec k (((l.drop q).take n).take x.toNat++((l.drop q).take n).drop y.toNat) false))
   else none
  | _=>none
 | _=>none
def QR (sz:Nat):EB:=fun args H K=>
 match args with
 | [.slice (some ⟨b,0,some q⟩) n cap,.int .i64 x,.int .i64 y]=>
  match H.get b with
  | some (.vec k l false)=>
   bif Nat.beq k.length sz&&Nat.beq cap AF&&k.all SK.plain then
    (q+n<=l.length/\0<=x/\x < y/\y<=n)/\K (.slice (some ⟨H.next,0,some 0⟩) (n - (y.toNat - x.toNat)) AF) ((H.del b).alloc (.vec k (((l.drop q).take n).take x.toNat++((l.drop q).take n).drop y.toNat) false))
   else False
  | _=>False
 | _=>False
theorem Sh {X:Ctx} {f:FuncId} {sz:Nat} (hX:X.Ep f=some (HU sz)) {args:List Value} {H:AA} {K:Value->AA->Prop} (h:QR sz args H K):∃v H',Bd X f args .normal H=some (v,H')/\K v H':=by
 unfold QR at h;split at h
 ·rename_i b q n cap x y;split at h
  ·rename_i k l hb;cases hc:(Nat.beq k.length sz&&Nat.beq cap AF&&k.all SK.plain)
   ·rw[hc]at h;cases h
   ·rw[hc]at h;refine⟨_,_,?_,h.2⟩;unfold Bd;simp only[hX];unfold HU;simp only[hb];simp only[Bool.and_eq_true]at hc;exact if_pos ⟨Nat.eq_of_beq_eq_true hc.1.1,Nat.eq_of_beq_eq_true hc.1.2,hc.2,h.1⟩
  ·cases h
 ·cases h
def ZG (P:Program) (f:FuncId) (k:Nat):Prop:=∀(b off n c i j:Nat) (cs:List Value) (w:World),i < j->j<=n->n<=c->c<=9223372036854775807->cs.length=n * k->
 (∀t v,cs[t]? = some v->w.cell? ⟨b,off+t,none⟩=some v)->(∀t,t < n * k->w.frozen? ⟨b,off+t,none⟩=false)->(∀v∈cs,v.oneCell'=true)->
 Calls P f #[.slice (some ⟨b,off,none⟩) n c,.int .i64 i,.int .i64 j] w fun e w'=>
  ∃zs:List Value,zs.length=(j - i) * k/\e= .returned (.slice (some ⟨b,off,none⟩) (n - (j - i)) c)/\w'=(w.drew.setCells b (off+i * k) (cs.drop (j * k))).setCells b (off+(n - (j - i)) * k) zs
theorem R4 (A D Z:List Value) (x y:Nat) (hy:x+D.length=y) (hl:y+Z.length<=A.length):(BX (BX A x D) y Z).take (x+D.length)=A.take x++D:=by
 unfold BX;have h1:(A.take x++(D++A.drop (x+D.length))).take y=A.take x++D:=by
  rw[<-List.append_assoc,List.take_append_of_le_length (by simp;omega),List.take_of_length_le (by simp;omega)]
 rw[h1,List.take_append_of_le_length (by simp;omega),List.take_of_length_le (by simp;omega)]
section
variable {P:Program} {laid:List (Nat × List Value)}
theorem Sw {f:FuncId} {sz:Nat} (hent:∃n c,entry P f=some (n,c)) (hk0:0 < sz) (hk1:sz≠1) (hD:ZG P f sz):C3 P laid f (HU sz):=by
 refine⟨hent,?_⟩;intro base W0 μ H W args args' v H' hW h hl ha hF;unfold HU at hF;split at hF
 ·rename_i b q n cap x y;split at hF
  ·rename_i k l hb;split at hF
   ·rename_i hc;obtain⟨rfl,rfl,hpl,hq,hx0,hxy,hyn⟩:=hc;obtain⟨i,rfl⟩:∃i:Nat,x=i:=⟨x.toNat,by omega⟩
    obtain⟨j,rfl⟩:∃j:Nat,y=j:=⟨y.toNat,by omega⟩
    simp only[Int.toNat_natCast,Option.some.injEq,Prod.mk.injEq]at hF;obtain⟨rfl,rfl⟩:=hF;have hij:i < j:=by omega
    have hjn:j<=n:=by omega
    generalize hqq:args'.toList=qq at ha;cases ha with
    | cons h1 ha=>cases ha with
     | cons h2 ha=>cases ha with
      | cons h3 ha=>
       cases ha
       cases h2
       cases h3
       rcases Fb h hb h1 with⟨h1f,hnr,_⟩ | ⟨_,hn0,_⟩
       rotate_left
       ·omega
       have hdv:=h.Ke hb fun T hT hv=>hnr T hT hv.2.1
       have hg:(H.put b (.cells (A2 k l) k.length false)).get b=some (.cells (A2 k l) k.length false):=by rw[AA.AQ,if_pos rfl]
       have hT:∃T,μ b=some T:=by cases h1 with | Bw _ _ _ _ _ _ T hm _ _ _=>exact⟨T,hm⟩ | C8 _ _ _ T _ hm _=>exact⟨T,hm⟩
       have h1:=Nd h1f;generalize hoff:q * k.length=off at h1;cases h1 with
       | slice _ _ _ _ cap' o' T hm hcr ho=>
        have hargs:args'=#[.slice (some ⟨T.c,o',none⟩) n cap',.int .i64 (i:Int),.int .i64 (j:Int)]:=by rw[<-Array.toList_inj,hqq]
        subst hargs;have hcr':n<=cap'/\off+cap' * T.e<=T.r/\(T.e=1∨cap'<=9223372036854775807):=by
         rcases hcr with⟨c1,c2⟩ | ⟨c1,c2,c3,c4,c5⟩
         ·omega
         ·exact⟨c3,c4,c5⟩
        obtain⟨c3,c4,c5⟩:=hcr';have hoo:o'=T.d+off:=by
         rcases ho with ho | ⟨e1,_⟩
         ·exact ho
         ·omega
        subst hoo;obtain⟨ob,hob,hor⟩:=hdv.obj b _ hg T hm;have hqe:off+n * k.length<=l.length * k.length:=by rw[<-hoff,<-Nat.add_mul];exact Nat.mul_le_mul_right _ hq
        have hO1:((A2 k l).drop off).take (n * k.length)=A2 k ((l.drop q).take n):=by rw[<-hoff,D6,Ee]
        have hOl:(A2 k ((l.drop q).take n)).length=n * k.length:=by rw[CM,List.length_take,List.length_drop,Nat.min_eq_left (by omega)]
        generalize hM:(l.drop q).take n=M at hO1 hOl ⊢;have hres:A2 k (M.take i++M.drop j)=(A2 k M).take (i * k.length)++(A2 k M).drop (j * k.length):=by rw[DL,Ee,D6]
        cases hor with
        | cells _ _ _ arr t lo hi2 hTe hcl hsz hfz=>
         rw[<-hTe]at c4 c5;have hold:BD μ (A2 k M) ((arr.toList.drop (T.d+off)).take (n * k.length)):=by
          rw[<-hO1];have:=(hcl.drop off).take (n * k.length);rw[List.drop_take,List.drop_drop,List.take_take,Nat.min_eq_left (by rw[CM];omega)]at this;exact this
         generalize hO':(arr.toList.drop (T.d+off)).take (n * k.length)=O' at hold;have hlo:=hold.length;have hcsC:∀p v,O'[p]? = some v->W.cell? ⟨T.c,T.d+off+p,none⟩=some v:=fun p v hp=>IV hob (by rw[hO'];exact hp)
         have h1O:=IW hold (PO k hpl M);have hie:i * k.length<=j * k.length:=Nat.mul_le_mul_right _ (by omega);have hje:j * k.length<=n * k.length:=Nat.mul_le_mul_right _ hjn;have hne:n * k.length<=cap' * k.length:=Nat.mul_le_mul_right _ c3;have e1:(j - i) * k.length=j * k.length - i * k.length:=Nat.sub_mul _ _ _;have e2:(n - (j - i)) * k.length=n * k.length - (j * k.length - i * k.length):=by rw[Nat.sub_mul,e1]
         have hdl:(O'.drop (j * k.length)).length=n * k.length - j * k.length:=by rw[List.length_drop];omega
         refine Calls.mono (hD T.c (T.d+off) n cap' i j O' W hij hjn c3 (by omega) (by omega) hcsC ?_ h1O) ?_
         ·intro p hp;have:=hfz rfl (T.d+off+p) (.inl (by omega));simp only[World.frozen?,hob,Bool.and_eq_false_iff,decide_eq_false_iff_not];omega
         ·rintro ex W' ⟨zs,hz,rfl,rfl⟩;obtain⟨a1,r1,r2,r2b,r3,r4,r5,r6⟩:=D1 T.c t (lo,hi2) (O'.drop (j * k.length)) (T.d+off+i * k.length) arr W.drew hob (by omega);obtain⟨a2,s1,s2,s2b,s3,s4,s5,s6⟩:=D1 T.c t (lo,hi2) zs (T.d+off+(n - (j - i)) * k.length) a1 _ r1 (by omega);obtain⟨hdel,hdelE⟩:=hdv.del hm;obtain⟨φ,qa⟩:=hdv.abs;have hmap:=hdel.Hr (T:=⟨T.c,T.d+off,T.r - off,k.length⟩) (o:= .cells (A2 k (M.take i++M.drop j)) k.length false) (W':=(W.drew.setCells T.c (T.d+off+i * k.length) (O'.drop (j * k.length))).setCells T.c (T.d+off+(n - (j - i)) * k.length) zs)
           (by rw[s3,r3];exact Nat.le_refl _) (fun p _ hp=>by rw[s4 p hp,r4 p hp];rfl)
           (fun b' p T' hb' hm' hv=>by
            intro e1;obtain⟨e2,hb2⟩:=AA.BJ hb';exact e2 (hdv.inj b' b _ _ hb2 hg T' T hm' hm hv id e1 (.inr rfl)))
           ⟨φ,⟨fun b' a ro T' h1 h2=>qa.rep b' a ro T' (AA.BJ h1).2 h2,fun b' a ro T' h1 h2 b2 o2 T2 h3 h4 h5=>qa.ER b' a ro T' (AA.BJ h1).2 h2 b2 o2 T2 (AA.BJ h3).2 h4 h5⟩,
            fun b' a ro h1 ⟨T',h2⟩=>(qa.ER b' a ro T' (AA.BJ h1).2 h2 b _ T hg hm (Ne.symm (AA.BJ h1).1)).1 id⟩
           s1 (hdv.own b _ hg rfl T hm id) ?_ (by rw[s5,r5];rfl) (by rw[s6,r6];rfl)
          ·obtain⟨g1,g2⟩:=Ed (by omega) (H1:=H.del b) (m:=n - (j - i)) (v':= .slice (some ⟨T.c,T.d+off,none⟩) (n - (j - i)) cap') hmap.1
            (.slice H.next 0 _ _ _ _ ⟨T.c,T.d+off,T.r - off,k.length⟩ (Ai.Av _ _ _) (.inr ⟨by omega,by omega,by omega,by show 0+cap' * k.length<=T.r - off;omega,.inr (by omega)⟩) (.inl rfl))
            (fun p _=>by
             rw[AA.Bb,AA.Bb,AA.AQ]
             by_cases e:p=b<;>simp[e]) rfl
           refine⟨_,_,rfl,g1,g2,?_⟩;refine(hdelE.trans hmap.2).congr (fun p hp hmp=>?_) (fun p hp hmp=>?_) rfl rfl
           ·have:p≠b:=by rintro rfl;rw[hm]at hmp;cases hmp
            rw[AA.AQ,if_neg this]
           ·have:p≠b:=by rintro rfl;rw[hm]at hmp;cases hmp
            have hp:p < H.next:=hp;rw[AA.AW,AA.AW,if_neg (by show p≠H.next;omega),if_neg (by show p≠H.next;omega),AA.Bb,AA.Bb,AA.AQ,if_neg this,if_neg this,if_neg this]
          ·refine .cells ⟨T.c,T.d+off,T.r - off,k.length⟩ _ _ false _ t lo hi2 rfl ?_ ?_ ?_
           ·show BD μ _ (List.take _ (List.drop (T.d+off) a2.toList));have hA:arr.toList=arr.toList.take (T.d+off)++arr.toList.drop (T.d+off):=(List.take_append_drop _ _).symm;have hAl:(arr.toList.take (T.d+off)).length=T.d+off:=by rw[List.length_take,Array.length_toList];omega
            have hA1l:n * k.length<=(arr.toList.drop (T.d+off)).length:=by
             have e5:arr.toList.length=arr.size:=Array.length_toList;rw[List.length_drop,e5];omega
            generalize hA0:arr.toList.take (T.d+off)=A0 at hA hAl;generalize hA1:arr.toList.drop (T.d+off)=A1 at hA hO' hA1l;have hs2:a2.toList=A0++BX (BX A1 (i * k.length) (O'.drop (j * k.length))) ((n - (j - i)) * k.length) zs:=by
             rw[s2,r2,hA];rw[show T.d+off+i * k.length=A0.length+i * k.length by omega,I8];rw[show T.d+off+(n - (j - i)) * k.length=A0.length+(n - (j - i)) * k.length by omega,I8]
            have hrl:((A2 k M).take (i * k.length)++(A2 k M).drop (j * k.length)).length=i * k.length+(O'.drop (j * k.length)).length:=by
             simp only[List.length_append,List.length_take,List.length_drop];omega
            rw[hs2,hres,hrl,List.drop_left' hAl];have hjn2:j * k.length - i * k.length<=n * k.length:=Nat.le_trans (Nat.sub_le _ _) hje;rw[R4 A1 (O'.drop (j * k.length)) zs (i * k.length) ((n - (j - i)) * k.length) (by omega) (by rw[hz,e1,e2,Nat.sub_add_cancel hjn2];exact hA1l)];rw[show A1.take (i * k.length)=O'.take (i * k.length) by rw[<-hO',List.take_take,Nat.min_eq_left (by omega)]];exact(hold.take _).append (hold.drop _)
           ·show a2.size=T.d+off+(T.r - off);omega
           ·intro _ p hp;refine hfz rfl p ?_;have:a2.size=arr.size:=by omega
            rw[<-this];exact hp
   ·cases hF
  ·cases hF
 ·cases hF
end
end Go.AI
set_option linter.unusedVariables false
set_option linter.unusedSimpArgs false
namespace Go.AI
open Go.Proofs Go.RowKit Go.Lib
set_option maxHeartbeats 4000000 in
set_option maxRecDepth 1000000 in
theorem U9:ZG Tryz.prog 67 2:=by
 intro b off n c i j cs w hij hjn hnc hc63 hcl hcs hfz h1c;have mixed:Tryz.prog.follows .mixedOrders=true:=by kernel_rfl
 obtain⟨i0,z0,hi0,hz0,hzs,hzc,hz1⟩:∃i0 z0,Tryz.prog.info? 101=some i0/\i0.zero=some z0/\i0.size=2/\z0.cells.size=2/\z0.cells.toList.all (·.oneCell')=true:=⟨Tryz.t101,Tryz.t101.zero.getD default,by kernel_rfl,by kernel_rfl,by kernel_rfl,by kernel_rfl,by kernel_rfl⟩
 have hzv:∀w,(zeroValue 101).run Tryz.prog w= .ok z0 w:=fun w=>by simp[zeroValue,typeInfo,hi0,hz0]
 obtain⟨news,hnews⟩:∃news,news=cs.drop (j * 2):=⟨_,rfl⟩
 have hlen:news.length=(n - j) * 2:=by rw[hnews,List.length_drop,hcl,Nat.sub_mul]
 obtain⟨A,hA,hsrc⟩:∃A:Addr,(if c=j then some (⟨b,off,none⟩:Addr)else some ⟨b,off+j * 2,none⟩)=some A/\Hid (∀t u,news[t]? = some u->w.drew.cell? (A.add t)=some u):=by
  by_cases h:c=j
  ·refine⟨⟨b,off,none⟩,by simp[h],fun t u hu=>?_⟩;have h0:news.length=0:=by rw[hlen,show n - j=0 by omega,Nat.zero_mul]
   rw[List.length_eq_zero_iff.1 h0]at hu;simp at hu
  ·refine⟨⟨b,off+j * 2,none⟩,by simp[h],fun t u hu=>?_⟩;rw[Addr.add_lit,Nat.add_assoc];rw[hnews,List.getElem?_drop]at hu;exact hcs _ _ hu
 have s1:Hid (news.length=(n - j) * 2):=hlen;have s2:Hid (∀u∈news,u.oneCell'=true):=fun u hu=>h1c u (by rw[hnews]at hu;exact List.mem_of_mem_drop hu)
 have hsome:∀t,t < n * 2->(w.cell? ⟨b,off+t,none⟩).isSome=true:=fun t ht=>by
  rw[hcs t _ (List.getElem?_eq_getElem (by omega))];rfl
 have s3:Hid (∀t,t < news.length->(w.drew.cell? ⟨b,off+i * 2+t,none⟩).isSome=true/\w.drew.frozen? ⟨b,off+i * 2+t,none⟩=false):=by
  intro t ht;rw[hlen]at ht;rw[Nat.add_assoc];exact⟨hsome _ (by omega),hfz _ (by omega)⟩
 obtain⟨W1,hW1⟩:∃W1,W1=w.drew.setCells b (off+i * 2) news:=⟨_,rfl⟩
 obtain⟨zs,hzs2⟩:∃zs,zs=(Builtin.zeroCells z0.cells (n - (i+(n - j)))).toList:=⟨_,rfl⟩
 have hzl:zs.length=(j - i) * 2:=by rw[hzs2];simp[Builtin.zeroCells,hzc];omega
 have hcl2:∀ty,(Builtin.clear_ #[95] ty #[.slice (some ⟨b,off+(i+(n - j)) * 2,none⟩) (n - (i+(n - j))) (c - (i+(n - j)))]).run Tryz.prog W1= .ok (.tuple #[]) (W1.setCells b (off+(i+(n - j)) * 2) zs):=fun ty=>by
  rw[hzs2];refine LP W1 95 101 ty z0 Tryz.underlying95 hzv (fun v hv=>List.all_eq_true.1 hz1 v hv) b (off+(i+(n - j)) * 2) _ _ (by omega) (fun t ht=>?_) (fun t ht=>?_)
  ·rw[hzc]at ht;rw[hW1,Nat.add_assoc];exact isSome_setCells b _ _ _ (fun p hp=>by rw[hlen]at hp;rw[Nat.add_assoc];exact hsome _ (by omega)) _ (hsome _ (by omega))
  ·rw[hzc]at ht;rw[hW1,World.frozen?_setCells,Nat.add_assoc];exact hfz _ (by omega)
 have hW:Hid (W1=w.drew.setCells b (off+i * 2) news):=hW1;have X:Hid (news=cs.drop (j * 2)):=hnews;have Y:Hid (zs.length=(j - i) * 2):=hzl;have hic:i<=c:=by omega
 have hjc:j<=c:=by omega
 have hin:i<=n:=by omega
 clear hW1 hcs hfz h1c hnews hlen hzl hsome hzs2
 go_enter Tryz.func67,Tryz.ntmps67
 go_wp2_with fail
 go_region_law_o (refine step_append_room rfl (.tmp 22) (.tmp 25) 95 rfl 101 i0 2 Tryz.underlying95 hi0 hzs b off i c (by simp[Act.eval,Act.put]) A (n - j) (c - j) news (by simp[Act.eval,Act.put]) s1.out hsrc.out s2.out (by omega) s3.out ?_;rw[<-hW.out])
 go_wp2
 go_ret
 refine⟨zs,Y.out,by rw[show n - (j - i)=i+(n - j) by omega];rfl,?_⟩;rw[<-X.out,<-hW.out,show n - (j - i)=i+(n - j) by omega]
theorem Za (laid:List (Nat × List Value)):C3 Tryz.prog laid 67 (HU 2):=
 Sw ⟨_,_,show entry Tryz.prog 67=some (33,BI Tryz.prog 67 []) by kernel_rfl⟩ (by decide) (by decide) U9
end Go.AI
namespace Go.AI
open Classical in
def EE (sz bytes:Nat):Cn:=fun args H=>
 match args with
 | [.slice (some ⟨b,0,some q⟩) n cap,.int .i64 x,.slice (some ⟨vb,voff,none⟩) m _]=>
  match H.get b,H.get vb with
  | some (.vec k l false),some (.cells vcs ve false)=>
   if k.length=sz/\cap=AF/\k.all SK.plain=true/\vb≠b/\m≠0/\ve≠1/\q+n<=l.length/\0<=x/\x < n/\BK bytes (n+m)=true then
    match R0 k m ((vcs.drop voff).take (m * k.length))with
    | some new=>some (.slice (some ⟨H.next,0,some 0⟩) (n+m) AF,(H.del b).alloc (.vec k (((l.drop q).take n).take x.toNat++(new++((l.drop q).take n).drop x.toNat)) false))
    | none=>none
   else none
  | _,_=>none
 | _=>none
def MZ (sz bytes:Nat):EB:=fun args H K=>
 match args with
 | [.slice (some ⟨b,0,some q⟩) n cap,.int .i64 x,.slice (some ⟨vb,voff,none⟩) m _]=>
  match H.get b,H.get vb with
  | some (.vec k l false),some (.cells vcs ve false)=>
   bif Nat.beq k.length sz&&Nat.beq cap AF&&k.all SK.plain&& !(Nat.beq vb b)&& !(Nat.beq m 0)&& !(Nat.beq ve 1)then
    match R0 k m ((vcs.drop voff).take (m * k.length))with
    | some new=>(q+n<=l.length/\0<=x/\x < n/\BK bytes (n+m)=true)/\K (.slice (some ⟨H.next,0,some 0⟩) (n+m) AF) ((H.del b).alloc (.vec k (((l.drop q).take n).take x.toNat++(new++((l.drop q).take n).drop x.toNat)) false))
    | none=>False
   else False
  | _,_=>False
 | _=>False
theorem KE {a b:Nat} (h:Nat.beq a b=false):a≠b:=by
 rintro rfl;rw[Nat.beq_refl]at h;cases h
theorem MN {a b:Nat} (h:a≠b):Nat.beq a b=false:=by
 cases hq:Nat.beq a b
 ·rfl
 ·exact absurd (Nat.eq_of_beq_eq_true hq) h
theorem Th {X:Ctx} {f:FuncId} {sz B:Nat} (hX:X.Ep f=some (EE sz B)) {args:List Value} {H:AA} {K:Value->AA->Prop} (h:MZ sz B args H K):∃v H',Bd X f args .normal H=some (v,H')/\K v H':=by
 unfold MZ at h;split at h
 ·rename_i b q n cap x vb voff m vcap;split at h
  ·rename_i k l vcs ve hb hvb;cases hc:(Nat.beq k.length sz&&Nat.beq cap AF&&k.all SK.plain&& !(Nat.beq vb b)&& !(Nat.beq m 0)&& !(Nat.beq ve 1))
   ·rw[hc]at h;cases h
   ·rw[hc]at h;simp only[cond_true]at h;split at h
    ·rename_i new hnew;refine⟨_,_,?_,h.2⟩;unfold Bd;simp only[hX];unfold EE;simp only[hb,hvb];simp only[Bool.and_eq_true,Bool.not_eq_true']at hc;obtain⟨⟨⟨⟨⟨c1,c2⟩,c3⟩,c4⟩,c5⟩,c6⟩:=hc;rw[if_pos ⟨Nat.eq_of_beq_eq_true c1,Nat.eq_of_beq_eq_true c2,c3,KE c4,KE c5,KE c6,h.1⟩];simp only[hnew]
    ·cases h
  ·cases h
 ·cases h
section
variable {P:Program} {laid:List (Nat × List Value)}
theorem SE {f:FuncId} {sz B:Nat} {E:TypeId} (hent:∃n c,entry P f=some (n,c)) (hk0:0 < sz) (hk1:sz≠1) (hS:Ri P f sz) (hG:Uv P f sz B E):C3 P laid f (EE sz B):=by
 refine⟨hent,?_⟩;intro base W0 μ H W args args' v H' hW h hl ha hF;unfold EE at hF;split at hF
 ·rename_i b q n cap x vb voff m vcap;split at hF
  ·rename_i k l vcs ve hb hvb;split at hF
   ·rename_i hc;obtain⟨rfl,rfl,hpl,hne,hm0,hve,hq,hx0,hxn,hbig⟩:=hc;split at hF
    ·rename_i new hnew;obtain⟨i,rfl⟩:∃i:Nat,x=i:=⟨x.toNat,by omega⟩
     simp only[Int.toNat_natCast,Option.some.injEq,Prod.mk.injEq]at hF;obtain⟨rfl,rfl⟩:=hF;generalize hqq:args'.toList=qq at ha;cases ha with
     | cons h1 ha=>cases ha with
      | cons h2 ha=>cases ha with
       | cons h3 ha=>
        cases ha
        rcases Fb h hb h1 with⟨h1f,hnr,_⟩ | ⟨_,hn0,_⟩
        rotate_left
        ·omega
        have hdv:=h.Ke hb fun T hT hv=>hnr T hT hv.2.1
        have hg:(H.put b (.cells (A2 k l) k.length false)).get b=some (.cells (A2 k l) k.length false):=by rw[AA.AQ,if_pos rfl]
        have hgv:(H.put b (.cells (A2 k l) k.length false)).get vb=some (.cells vcs ve false):=by rw[AA.AQ,if_neg hne];exact hvb
        have hT:∃T,μ b=some T:=by cases h1 with | Bw _ _ _ _ _ _ T hm _ _ _=>exact⟨T,hm⟩ | C8 _ _ _ T _ hm _=>exact⟨T,hm⟩
        obtain⟨d1,d2,d3⟩:=ND k (by omega) _ _ _ hnew;rw[List.take_take,Nat.min_self]at d1;have hll:((vcs.drop voff).take (m * k.length)).length=m * k.length:=by rw[<-d1,CM,d2]
        have hmk:Nat.beq (m * k.length) 0=false:=MN (Nat.mul_ne_zero hm0 (by omega));have hsrc:Dg k.length (.slice (some ⟨vb,voff,none⟩) m vcap) (H.put b (.cells (A2 k l) k.length false))=some (m,A2 k new):=by
         unfold Dg;simp only[hmk,cond_false,hgv,hll,Nat.beq_refl,cond_true,d1]
        have hold:((A2 k l).drop (q * k.length)).take (n * k.length)=A2 k ((l.drop q).take n):=by rw[D6,Ee]
        have hOl:(A2 k ((l.drop q).take n)).length=n * k.length:=by rw[CM,List.length_take,List.length_drop,Nat.min_eq_left (by omega)]
        have hok:=PO k hpl;generalize hM:(l.drop q).take n=M at hold hOl ⊢;have hres:A2 k (M.take i++(new++M.drop i))=(A2 k M).take (i * k.length)++(A2 k new++(A2 k M).drop (i * k.length)):=by rw[DL,DL,Ee,D6]
        obtain⟨b5,b6⟩:=IQ hbig;have hins:ML k.length B [.slice (some ⟨b,q * k.length,none⟩) n AF,.int .i64 (Int.ofNat i),.slice (some ⟨vb,voff,none⟩) m vcap] (H.put b (.cells (A2 k l) k.length false))=
         some (.slice (some ⟨H.next,0,none⟩) (n+m) (AF+(n+m)),((H.put b (.cells (A2 k l) k.length false)).del b).alloc (.cells (A2 k (M.take i++(new++M.drop i))) k.length false)):=by
         unfold ML;have g1:Nat.ble AF AF=true:=Nat.ble_eq_true_of_le (Nat.le_refl _);have g2:Nat.blt i n=true:=Nat.ble_eq_true_of_le (by omega);have g3:Nat.beq vb b=false:=MN hne;have g4:Nat.beq m 0=false:=MN hm0;have g5:Rd ((H.put b (.cells (A2 k l) k.length false)).get vb)=true:=by
          rw[hgv];unfold Rd;simp only[MN hve,Bool.not_false]
         simp only[g1,g2,g3,g4,g5,Bool.and_self,Bool.not_false,cond_true,hsrc];unfold eC;simp only[hg,hold,hOl,Nat.beq_refl,hok,b5,b6,Bool.and_self,cond_true,hres];rfl
        have hrun:=(TF (laid:=laid) hent hk0 hk1 hS hG).2 base W0 μ _ W _ args' _ _ hW hdv hl (by rw[hqq];exact .cons h1f (.cons h2 (.cons h3 .nil))) hins;refine Calls.mono hrun ?_;rintro e W' ⟨v',μ',rfl,r2,r3,r4⟩;obtain⟨g1,g2⟩:=Ed (by omega) (H1:=H.del b) r2 r3 (fun p _=>by
         rw[AA.Bb,AA.Bb,AA.AQ]
         by_cases e:p=b<;>simp[e]) rfl
        refine⟨v',μ',rfl,g1,g2,?_⟩;obtain⟨T,hT⟩:=hT;refine r4.congr (fun p hp hmp=>?_) (fun p hp hmp=>?_) rfl rfl
        ·have:p≠b:=by rintro rfl;rw[hT]at hmp;cases hmp
         rw[AA.AQ,if_neg this]
        ·have:p≠b:=by rintro rfl;rw[hT]at hmp;cases hmp
         have hp:p < H.next:=hp;rw[AA.AW,AA.AW,if_neg (by show p≠H.next;omega),if_neg (by show p≠H.next;omega),AA.Bb,AA.Bb,AA.AQ,if_neg this,if_neg this,if_neg this]
    ·cases hF
   ·cases hF
  ·cases hF
 ·cases hF
end
end Go.AI
namespace Go.AI
open Go.Proofs
theorem ae (k:ByteArray) (Q:Value->List (Option AK)->Prop):Ex XA ak B5 [9] Q 300 (st B5 26 [p9,.string k] (BH ⟨.leaf,9⟩ Nz))=(
 (((.bool false):Value)=(.bool false))/\(Q (.tuple ⟨[(.string ({ data:=#[] })),(.bool false)]⟩) [some (.cells [(.bool true),(.slice none 0 0)] 0 false)])):=by kernel_rfl
theorem aD (l:List (EK.C AR)) (k:ByteArray) (Q:Value->List (Option AK)->Prop):Ex XA ak B5 [9,10] Q 300 (st B5 26 [p9,.string k] (BH ⟨.leaf,9⟩ (LJ l)))=(
 (List.length l=List.length l/\AF=AF/\A5 l/\List.length l < 4611686018427387904)/\(bif decide (↑(AS l k) < Int.ofNat (List.length l))then(bif decide (0<=↑(AS l k))&&Nat.blt (Int.toNat ↑(AS l k)) (List.length l)then(bif Nat.blt (0+Int.toNat ↑(AS l k)) (List.length l)then(bif ByteArray.toList (Prod.fst (List.getD l (0+Int.toNat ↑(AS l k)) (EK.AZ AR)))==ByteArray.toList k then(((.bool true):Value)=(.bool true))/\(((.bool (ByteArray.toList (Prod.fst (List.getD l (0+Int.toNat ↑(AS l k)) (EK.AZ AR)))==ByteArray.toList k)):Value)=(.bool true))/\(((.string k):Value)=(.string k))/\(bif Nat.blt (0+Int.toNat ↑(AS l k)) (List.length l)then(((.string (Prod.fst (List.getD l (0+Int.toNat ↑(AS l k)) (EK.AZ AR)))):Value)=(.string (Prod.fst (List.getD l (0+Int.toNat ↑(AS l k)) (EK.AZ AR)))))/\(((.pointer (some ⟨10,0,(some (0+Int.toNat ↑(AS l k)))⟩)):Value)=(.pointer (some ⟨10,0,(some (0+Int.toNat ↑(AS l k)))⟩)))/\(bif decide (0<=↑(AS l k))&&Nat.blt (Int.toNat ↑(AS l k)) (List.length l)then(((.pointer (some ⟨10,0,(some (0+Int.toNat ↑(AS l k)))⟩)):Value)=(.pointer (some ⟨10,0,(some (0+Int.toNat ↑(AS l k)))⟩)))/\(((.int .i64 (↑(AS l k))):Value)=(.int .i64 (↑(AS l k))))/\(((.slice (some ⟨10,0,(some 0)⟩) (List.length l) 18446744073709551616):Value)=(.slice (some ⟨10,0,(some 0)⟩) (List.length l) 18446744073709551616))/\(bif decide (0<=↑(AS l k))&&Nat.blt (Int.toNat ↑(AS l k)) (List.length l)then(bif Nat.blt (0+Int.toNat ↑(AS l k)) (List.length l)then(Q (.tuple ⟨[(.string (Prod.snd (List.getD l (0+Int.toNat ↑(AS l k)) (EK.AZ AR)))),(.bool true)]⟩) [some (.cells [(.bool true),(.slice (some ⟨10,0,(some 0)⟩) (List.length l) 18446744073709551616)] 0 false),some (.vec AR l false)])else False)else False)else False)else False)else(((.bool false):Value)=(.bool false))/\(((.bool (ByteArray.toList (Prod.fst (List.getD l (0+Int.toNat ↑(AS l k)) (EK.AZ AR)))==ByteArray.toList k)):Value)=(.bool false))/\(((.string k):Value)=(.string k))/\(bif Nat.blt (0+Int.toNat ↑(AS l k)) (List.length l)then(((.string (Prod.fst (List.getD l (0+Int.toNat ↑(AS l k)) (EK.AZ AR)))):Value)=(.string (Prod.fst (List.getD l (0+Int.toNat ↑(AS l k)) (EK.AZ AR)))))/\(((.pointer (some ⟨10,0,(some (0+Int.toNat ↑(AS l k)))⟩)):Value)=(.pointer (some ⟨10,0,(some (0+Int.toNat ↑(AS l k)))⟩)))/\(bif decide (0<=↑(AS l k))&&Nat.blt (Int.toNat ↑(AS l k)) (List.length l)then(((.pointer (some ⟨10,0,(some (0+Int.toNat ↑(AS l k)))⟩)):Value)=(.pointer (some ⟨10,0,(some (0+Int.toNat ↑(AS l k)))⟩)))/\(((.int .i64 (↑(AS l k))):Value)=(.int .i64 (↑(AS l k))))/\(((.slice (some ⟨10,0,(some 0)⟩) (List.length l) 18446744073709551616):Value)=(.slice (some ⟨10,0,(some 0)⟩) (List.length l) 18446744073709551616))/\(Q (.tuple ⟨[(.string ({ data:=#[] })),(.bool false)]⟩) [some (.cells [(.bool true),(.slice (some ⟨10,0,(some 0)⟩) (List.length l) 18446744073709551616)] 0 false),some (.vec AR l false)])else False)else False))else False)else False)else(((.bool false):Value)=(.bool false))/\(Q (.tuple ⟨[(.string ({ data:=#[] })),(.bool false)]⟩) [some (.cells [(.bool true),(.slice (some ⟨10,0,(some 0)⟩) (List.length l) 18446744073709551616)] 0 false),some (.vec AR l false)]))):=by kernel_rfl
theorem aE (Q:Value->List (Option AK)->Prop):Ex XA ak Ce [9] Q 300 (st Ce 6 [p9] (BH ⟨.leaf,9⟩ Nz))=(
 (Q (.int .i64 0) [some (.cells [(.bool true),(.slice none 0 0)] 0 false)])):=by kernel_rfl
theorem aA (l:List (EK.C AR)) (Q:Value->List (Option AK)->Prop):Ex XA ak Ce [9,10] Q 300 (st Ce 6 [p9] (BH ⟨.leaf,9⟩ (LJ l)))=(
 (Q (.int .i64 (Int.ofNat (List.length l))) [some (.cells [(.bool true),(.slice (some ⟨10,0,(some 0)⟩) (List.length l) 18446744073709551616)] 0 false),some (.vec AR l false)])):=by kernel_rfl
theorem aU (l:List (EK.C AR)) (k v:ByteArray) (n:Nat) (x:Int) (Q:Value->List (Option AK)->Prop):Ex XA ak BZ [] Q 300 (st BZ 95 [.slice (some ⟨9,0,some 0⟩) n AF,.int .i64 x,.slice (some ⟨10,0,none⟩) 1 1] (BH ⟨.leaf,9⟩ [.vec AR l false,.cells [.string k,.string v] 2 true]))=(
 (bif decide (0<=Int.ofNat n)&&Nat.ble (Int.toNat (Int.ofNat n)) n&&decide (0<=x)&&Nat.ble (Int.toNat x) (Int.toNat (Int.ofNat n))then(bif x==Int.ofNat n then(bif true&&Nat.ble (0+n) (List.length l)&&BK 32 (n+1)then(Q (.slice (some ⟨11,0,(some 0)⟩) (n+1) 18446744073709551616) [some (.vec ([SK.str]++([SK.str]++[])) (List.take n (List.drop 0 l)++[(k,v)]) false)])else False)else False)else False)):=by kernel_rfl
def DZ (l:List (EK.C AR)) (k:ByteArray):Option ByteArray:=
 if AS l k < l.length/\((l.getD (AS l k) (EK.AZ AR)).1.toList==k.toList)=true then some (l.getD (AS l k) (EK.AZ AR)).2 else none
def OT (o:Option ByteArray):Value:= .tuple ⟨[.string (o.getD { data:=#[] }),.bool o.isSome]⟩
theorem F9 (o:Option ByteArray):Ct 6 (OT o)=true/\Af 4 (OT o)=[]:=by
 cases o<;>exact⟨rfl,rfl⟩
def BF:Aw:=
 ⟨fun l rest=>A5 l/\l.length < 4611686018427387904/\∃k,rest=[.string k],fun l rest=>match rest with
  | [.string k]=>OT (DZ l k)
  | _=>Bn,fun l _=>l⟩
theorem cb {a n:Nat} (h:a < n):Nat.blt (0+Int.toNat (a:Int)) n=true:=by
 rw[Nat.zero_add,Int.toNat_natCast];exact Nat.ble_eq_true_of_le h
theorem ca {a n:Nat} (h:a < n):(decide ((0:Int)<=(a:Int))&&Nat.blt (Int.toNat (a:Int)) n)=true:=by
 rw[Int.toNat_natCast,show Nat.blt a n=true from Nat.ble_eq_true_of_le h];simp
theorem Zr:C3 Tryz.prog AL B5 (Al AL 9 [true] BF.G):=by
 refine MT Xy (by kernel_rfl) (n:=26) ?_;rintro l rest ⟨hs,hn,k,rfl⟩;refine⟨by simp,(F9 _).1,(F9 _).2,?_,?_⟩
 ·rintro rfl;have hv:BF.v [] [.string k]= .tuple ⟨[.string { data:=#[] },.bool false]⟩:=by
   show OT (DZ [] k)=_;unfold DZ;rw[if_neg (by simp)];rfl
  rw[hv];refine(BW.Fk (Bt J7 (ids:=[9]) (Q:=fun v os=>v= .tuple ⟨[.string { data:=#[] },.bool false]⟩/\os=[some (.cells [.bool true,.slice none 0 0] 0 false)]) 300 _ (by rw[ae];exact⟨rfl,rfl,rfl⟩))).mono ?_;rintro v H ⟨rfl,h⟩;exact⟨rfl,.inl ⟨rfl,Q9 rfl h⟩⟩
 ·have hE:Ad XA 10 B5 (fun v H=>v=OT (DZ l k)/\([9,10]++Af 4 v).map H.get=[some (.cells [.bool true,.slice (some ⟨10,0,some 0⟩) l.length AF] 0 false),some (.vec AR l false)]) (st B5 26 [p9,.string k] (BH ⟨.leaf,9⟩ (LJ l))):=by
   refine BW.Fk (Bt J7 (ids:=[9,10]) (Q:=fun v os=>v=OT (DZ l k)/\os=[some (.cells [.bool true,.slice (some ⟨10,0,some 0⟩) l.length AF] 0 false),some (.vec AR l false)]) 300 _ ?_);rw[aD];refine⟨⟨rfl,rfl,hs,hn⟩,AU (fun h=>?_) (fun h=>?_)⟩
   ·have hlt:AS l k < l.length:=by
     have:(AS l k:Int) < (l.length:Int):=h;omega
    refine AH (ca hlt) (AH (cb hlt) (Ae (fun hc=>?_) (fun hc=>?_)))
    ·have e:DZ l k=some (l.getD (0+Int.toNat (AS l k:Int)) (EK.AZ AR)).2:=by
      unfold DZ;rw[Nat.zero_add,Int.toNat_natCast]at hc ⊢;rw[if_pos ⟨hlt,hc⟩]
     refine⟨rfl,by rw[hc],rfl,AH (cb hlt) ⟨rfl,rfl,AH (ca hlt) ⟨rfl,rfl,rfl,AH (ca hlt) (AH (cb hlt) ⟨by rw[e];rfl,by unfold AF;rfl⟩)⟩⟩⟩
    ·have e:DZ l k=none:=by
      unfold DZ;rw[Nat.zero_add,Int.toNat_natCast]at hc;rw[if_neg (by rintro⟨_,h2⟩;rw[hc]at h2;cases h2)]
     exact⟨rfl,by rw[hc],rfl,AH (cb hlt) ⟨rfl,rfl,AH (ca hlt) ⟨rfl,rfl,rfl,by rw[e];rfl,by unfold AF;rfl⟩⟩⟩
   ·have e:DZ l k=none:=by
     unfold DZ;rw[if_neg (by rintro⟨h2,_⟩;exact h (by show(AS l k:Int) < (l.length:Int);omega))]
    exact⟨rfl,by rw[e];rfl,by unfold AF;rfl⟩
  refine hE.mono ?_;rintro v H ⟨rfl,h⟩;obtain⟨h1,h2⟩:=dC (F9 _).2 h;exact⟨rfl,.inr ⟨10,by decide,h1,h2⟩⟩
def e7:Aw:=
 ⟨fun _ rest=>rest=[],fun l _=> .int .i64 l.length,fun l _=>l⟩
theorem bQ:C3 Tryz.prog AL Ce (Al AL 9 [true] e7.G):=by
 refine MT Xy (by kernel_rfl) (n:=6) ?_;rintro l rest rfl;refine⟨by simp,rfl,rfl,?_,?_⟩
 ·rintro rfl;refine(BW.Fk (Bt J7 (ids:=[9]) (Q:=fun v os=>v= .int .i64 0/\os=[some (.cells [.bool true,.slice none 0 0] 0 false)]) 300 _ (by rw[aE];exact⟨rfl,rfl⟩))).mono ?_;rintro v H ⟨rfl,h⟩;exact⟨rfl,.inl ⟨rfl,Q9 rfl h⟩⟩
 ·refine(BW.Fk (Bt J7 (ids:=[9,10]) (Q:=fun v os=>v= .int .i64 l.length/\os=[some (.cells [.bool true,.slice (some ⟨10,0,some 0⟩) l.length AF] 0 false),some (.vec AR l false)]) 300 _ (by rw[aA];exact⟨rfl,by unfold AF;rfl⟩))).mono ?_;rintro v H ⟨rfl,h⟩;obtain⟨h1,h2⟩:=dC rfl h;exact⟨rfl,.inr ⟨10,by decide,h1,h2⟩⟩
def Hv (args:List Value) (objs:List AK):GT:=
 match args,objs with
 | [.slice (some ⟨9,0,some 0⟩) n c,.int .i64 x,.slice (some ⟨10,0,none⟩) 1 1],[.vec [.str,.str] l _,.cells [.string k,.string v] 2 _]=>
  .ask (n=l.length/\c=AF/\x=n/\BK 32 (n+1)=true) (.ret ⟨.slice (some ⟨11,0,some 0⟩) (n+1) AF,[none,none],[.vec AR (l++[(k,v)]) false]⟩)
 | [.slice none 0 0,.int .i64 (.ofNat 0),.slice (some ⟨9,0,none⟩) 1 1],[.cells [.string k,.string v] 2 _]=> .ret ⟨.slice (some ⟨10,0,some 0⟩) 1 AF,[none],[.vec AR [(k,v)] false]⟩
 | _,_=> .fail
def WH:Cn:=fun args H=>match EE 2 32 args H with
 | some r=>some r
 | none=>Al AL 9 [true,false] Hv args H
def fQ:EB:=fun args H K=>match args with
 | [.slice a n c,.int .i64 x,s]=>bif decide (x < (n:Int))then MZ 2 32 [.slice a n c,.int .i64 x,s] H K else BU AL 9 [true,false] Hv [.slice a n c,.int .i64 x,s] H K
 | _=>False
theorem cX (k v:ByteArray) (Q:Value->List (Option AK)->Prop):Ex XA ak BZ [10] Q 300 (st BZ 95 [.slice none 0 0,.int .i64 0,.slice (some ⟨9,0,none⟩) 1 1] (BH ⟨.leaf,9⟩ [.cells [.string k,.string v] 2 false]))=(
 (Q (.slice (some ⟨10,0,none⟩) 1 18446744073709551617) [some (.cells [(.string k),(.string v)] 2 false),some (.cells [(.string k),(.string v)] 2 false)])):=by kernel_rfl
def kR:List (FuncId × Cn):=(BZ,WH)::(IA,HU 2)::j7
def XS:Ctx:=Cx Tryz.prog AL kR
def jE:Pf:=fun g=>bif Nat.beq g BZ then some fQ else bif Nat.beq g IA then some (QR 2)else ak g
theorem aQ (k v:ByteArray) (Q:Value->List (Option AK)->Prop):Ex XS jE B3 [9,12] Q 500 (st B3 61 [p9,.string k,.string v] (BH ⟨.leaf,9⟩ Nz))=(
 (((.bool false):Value)=(.bool false))/\(Q (.tuple ⟨[(.string e_),(.bool false),(.int .i64 0)]⟩) [some (.cells [(.bool true),(.slice (some ⟨12,0,(some 0)⟩) 1 18446744073709551616)] 0 false),some (.vec ([SK.str,SK.str]) ([(k,v)]) false)])):=by kernel_rfl
theorem cx (l:List (EK.C AR)) (k v:ByteArray) (Q:Value->List (Option AK)->Prop):Ex XS jE B3 [9,10,13] Q 500 (st B3 61 [p9,.string k,.string v] (BH ⟨.leaf,9⟩ (LJ l)))=(
 (List.length l=List.length l/\AF=AF/\A5 l/\List.length l < 4611686018427387904)/\(bif decide (((AS l k):Int) < Int.ofNat (List.length l))then(bif decide (0<=((AS l k):Int))&&Nat.blt (Int.toNat ((AS l k):Int)) (List.length l)then(bif Nat.blt (0+Int.toNat ((AS l k):Int)) (List.length l)then(bif ByteArray.toList (Prod.fst (List.getD l (0+Int.toNat ((AS l k):Int)) (EK.AZ AR)))==ByteArray.toList k then(((.bool true):Value)=(.bool true))/\(((.bool (ByteArray.toList (Prod.fst (List.getD l (0+Int.toNat ((AS l k):Int)) (EK.AZ AR)))==ByteArray.toList k)):Value)=(.bool true))/\(((.string k):Value)=(.string k))/\(bif Nat.blt (0+Int.toNat ((AS l k):Int)) (List.length l)then(((.string (Prod.fst (List.getD l (0+Int.toNat ((AS l k):Int)) (EK.AZ AR)))):Value)=(.string (Prod.fst (List.getD l (0+Int.toNat ((AS l k):Int)) (EK.AZ AR)))))/\(((.pointer (some ⟨10,0,(some (0+Int.toNat ((AS l k):Int)))⟩)):Value)=(.pointer (some ⟨10,0,(some (0+Int.toNat ((AS l k):Int)))⟩)))/\(bif decide (0<=((AS l k):Int))&&Nat.blt (Int.toNat ((AS l k):Int)) (List.length l)then(((.pointer (some ⟨10,0,(some (0+Int.toNat ((AS l k):Int)))⟩)):Value)=(.pointer (some ⟨10,0,(some (0+Int.toNat ((AS l k):Int)))⟩)))/\(((.int .i64 (((AS l k):Int))):Value)=(.int .i64 (((AS l k):Int))))/\(((.slice (some ⟨10,0,(some 0)⟩) (List.length l) 18446744073709551616):Value)=(.slice (some ⟨10,0,(some 0)⟩) (List.length l) 18446744073709551616))/\(bif decide (0<=((AS l k):Int))&&Nat.blt (Int.toNat ((AS l k):Int)) (List.length l)then(bif Nat.blt (0+Int.toNat ((AS l k):Int)) (List.length l)then(((.string v):Value)=(.string v))/\(((.int .i64 (((AS l k):Int))):Value)=(.int .i64 (((AS l k):Int))))/\(((.slice (some ⟨10,0,(some 0)⟩) (List.length l) 18446744073709551616):Value)=(.slice (some ⟨10,0,(some 0)⟩) (List.length l) 18446744073709551616))/\(((.pointer (some ⟨9,1,none⟩)):Value)=(.pointer (some ⟨9,1,none⟩)))/\(p_ 9=p_ 9)/\(p_ 9=p_ 9)/\(bif decide (0<=((AS l k):Int))&&Nat.blt (Int.toNat ((AS l k):Int)) (List.length l)then(bif Nat.blt (0+Int.toNat ((AS l k):Int)) (List.length l)then(Q (.tuple ⟨[(.string (Prod.snd (List.getD l (0+Int.toNat ((AS l k):Int)) (EK.AZ AR)))),(.bool true),(.int .i64 0)]⟩) [some (.cells [(.bool true),(.slice (some ⟨10,0,(some 0)⟩) (List.length l) 18446744073709551616)] 0 false),some (.vec AR (List.set l (0+Int.toNat ((AS l k):Int)) (Prod.fst (List.getD l (0+Int.toNat ((AS l k):Int)) (EK.AZ AR)),v)) false),none])else False)else False)else False)else False)else False)else False)else(((.bool false):Value)=(.bool false))/\(((.bool (ByteArray.toList (Prod.fst (List.getD l (0+Int.toNat ((AS l k):Int)) (EK.AZ AR)))==ByteArray.toList k)):Value)=(.bool false))/\(((.string k):Value)=(.string k))/\(bif Nat.blt (0+Int.toNat ((AS l k):Int)) (List.length l)then(((.string (Prod.fst (List.getD l (0+Int.toNat ((AS l k):Int)) (EK.AZ AR)))):Value)=(.string (Prod.fst (List.getD l (0+Int.toNat ((AS l k):Int)) (EK.AZ AR)))))/\(((.pointer (some ⟨10,0,(some (0+Int.toNat ((AS l k):Int)))⟩)):Value)=(.pointer (some ⟨10,0,(some (0+Int.toNat ((AS l k):Int)))⟩)))/\(bif decide (0<=((AS l k):Int))&&Nat.blt (Int.toNat ((AS l k):Int)) (List.length l)then(((.pointer (some ⟨10,0,(some (0+Int.toNat ((AS l k):Int)))⟩)):Value)=(.pointer (some ⟨10,0,(some (0+Int.toNat ((AS l k):Int)))⟩)))/\(((.int .i64 (((AS l k):Int))):Value)=(.int .i64 (((AS l k):Int))))/\
 (((.slice (some ⟨10,0,(some 0)⟩) (List.length l) 18446744073709551616):Value)=(.slice (some ⟨10,0,(some 0)⟩) (List.length l) 18446744073709551616))/\(bif decide (((AS l k):Int) < ((List.length l):Int))then(0+List.length l<=List.length l/\0<=((AS l k):Int)/\((AS l k):Int) < ((List.length l):Int)/\BK 32 (List.length l+1)=true)/\(Q (.tuple ⟨[(.string e_),(.bool false),(.int .i64 0)]⟩) [some (.cells [(.bool true),(.slice (some ⟨13,0,(some 0)⟩) (List.length l+1) 18446744073709551616)] 0 false),none,some (.vec AR (List.take (Int.toNat ((AS l k):Int)) (List.take (List.length l) (List.drop 0 l))++([(k,v)]++List.drop (Int.toNat ((AS l k):Int)) (List.take (List.length l) (List.drop 0 l)))) false)])else(List.length l=List.length l/\AF=AF/\((AS l k):Int)=((List.length l):Int)/\BK 32 (List.length l+1)=true)/\(Q (.tuple ⟨[(.string e_),(.bool false),(.int .i64 0)]⟩) [some (.cells [(.bool true),(.slice (some ⟨13,0,(some 0)⟩) (List.length l+1) 18446744073709551616)] 0 false),none,some (.vec ([SK.str,SK.str]) (l++[(k,v)]) false)]))else False)else False))else False)else False)else(((.bool false):Value)=(.bool false))/\(bif decide (((AS l k):Int) < ((List.length l):Int))then(0+List.length l<=List.length l/\0<=((AS l k):Int)/\((AS l k):Int) < ((List.length l):Int)/\BK 32 (List.length l+1)=true)/\(Q (.tuple ⟨[(.string e_),(.bool false),(.int .i64 0)]⟩) [some (.cells [(.bool true),(.slice (some ⟨13,0,(some 0)⟩) (List.length l+1) 18446744073709551616)] 0 false),none,some (.vec AR (List.take (Int.toNat ((AS l k):Int)) (List.take (List.length l) (List.drop 0 l))++([(k,v)]++List.drop (Int.toNat ((AS l k):Int)) (List.take (List.length l) (List.drop 0 l)))) false)])else(List.length l=List.length l/\AF=AF/\((AS l k):Int)=((List.length l):Int)/\BK 32 (List.length l+1)=true)/\(Q (.tuple ⟨[(.string e_),(.bool false),(.int .i64 0)]⟩) [some (.cells [(.bool true),(.slice (some ⟨13,0,(some 0)⟩) (List.length l+1) 18446744073709551616)] 0 false),none,some (.vec ([SK.str,SK.str]) (l++[(k,v)]) false)])))):=by kernel_rfl
theorem cE (k:ByteArray) (Q:Value->List (Option AK)->Prop):Ex XS jE BP [9] Q 500 (st BP 32 [p9,.string k] (BH ⟨.leaf,9⟩ Nz))=(
 (((.bool false):Value)=(.bool false))/\(Q (.tuple ⟨[(.string e_),(.bool false)]⟩) [some (.cells [(.bool true),(.slice none 0 0)] 0 false)])):=by kernel_rfl
theorem aN (l:List (EK.C AR)) (k:ByteArray) (Q:Value->List (Option AK)->Prop):Ex XS jE BP [9,10,13] Q 500 (st BP 32 [p9,.string k] (BH ⟨.leaf,9⟩ (LJ l)))=(
 (List.length l=List.length l/\AF=AF/\A5 l/\List.length l < 4611686018427387904)/\(bif decide (((AS l k):Int) < Int.ofNat (List.length l))then(bif decide (0<=((AS l k):Int))&&Nat.blt (Int.toNat ((AS l k):Int)) (List.length l)then(bif Nat.blt (0+Int.toNat ((AS l k):Int)) (List.length l)then(bif ByteArray.toList (Prod.fst (List.getD l (0+Int.toNat ((AS l k):Int)) (EK.AZ AR)))==ByteArray.toList k then(((.bool true):Value)=(.bool true))/\(((.bool (ByteArray.toList (Prod.fst (List.getD l (0+Int.toNat ((AS l k):Int)) (EK.AZ AR)))==ByteArray.toList k)):Value)=(.bool true))/\(((.string k):Value)=(.string k))/\(bif Nat.blt (0+Int.toNat ((AS l k):Int)) (List.length l)then(((.string (Prod.fst (List.getD l (0+Int.toNat ((AS l k):Int)) (EK.AZ AR)))):Value)=(.string (Prod.fst (List.getD l (0+Int.toNat ((AS l k):Int)) (EK.AZ AR)))))/\(((.pointer (some ⟨10,0,(some (0+Int.toNat ((AS l k):Int)))⟩)):Value)=(.pointer (some ⟨10,0,(some (0+Int.toNat ((AS l k):Int)))⟩)))/\(bif decide (0<=((AS l k):Int))&&Nat.blt (Int.toNat ((AS l k):Int)) (List.length l)then(((.pointer (some ⟨10,0,(some (0+Int.toNat ((AS l k):Int)))⟩)):Value)=(.pointer (some ⟨10,0,(some (0+Int.toNat ((AS l k):Int)))⟩)))/\(((.int .i64 (((AS l k):Int))):Value)=(.int .i64 (((AS l k):Int))))/\(((.slice (some ⟨10,0,(some 0)⟩) (List.length l) 18446744073709551616):Value)=(.slice (some ⟨10,0,(some 0)⟩) (List.length l) 18446744073709551616))/\(bif decide (0<=((AS l k):Int))&&Nat.blt (Int.toNat ((AS l k):Int)) (List.length l)then(bif Nat.blt (0+Int.toNat ((AS l k):Int)) (List.length l)then(List.length l=List.length l/\AF=AF/\A5 l/\List.length l < 4611686018427387904)/\(0+List.length l<=List.length l/\0<=((AS l k):Int)/\((AS l k):Int) < IntKind.wrap .i64 (((AS l k):Int)+1)/\IntKind.wrap .i64 (((AS l k):Int)+1)<=((List.length l):Int))/\(Q (.tuple ⟨[(.string (Prod.snd (List.getD l (0+Int.toNat ((AS l k):Int)) (EK.AZ AR)))),(.bool true)]⟩) [some (.cells [(.bool true),(.slice (some ⟨13,0,(some 0)⟩) (List.length l - (Int.toNat (IntKind.wrap .i64 (((AS l k):Int)+1)) - Int.toNat ((AS l k):Int))) 18446744073709551616)] 0 false),none,some (.vec AR (List.take (Int.toNat ((AS l k):Int)) (List.take (List.length l) (List.drop 0 l))++List.drop (Int.toNat (IntKind.wrap .i64 (((AS l k):Int)+1))) (List.take (List.length l) (List.drop 0 l))) false)])else False)else False)else False)else False)else(((.bool false):Value)=(.bool false))/\(((.bool (ByteArray.toList (Prod.fst (List.getD l (0+Int.toNat ((AS l k):Int)) (EK.AZ AR)))==ByteArray.toList k)):Value)=(.bool false))/\(((.string k):Value)=(.string k))/\(bif Nat.blt (0+Int.toNat ((AS l k):Int)) (List.length l)then(((.string (Prod.fst (List.getD l (0+Int.toNat ((AS l k):Int)) (EK.AZ AR)))):Value)=(.string (Prod.fst (List.getD l (0+Int.toNat ((AS l k):Int)) (EK.AZ AR)))))/\(((.pointer (some ⟨10,0,(some (0+Int.toNat ((AS l k):Int)))⟩)):Value)=(.pointer (some ⟨10,0,(some (0+Int.toNat ((AS l k):Int)))⟩)))/\(bif decide (0<=((AS l k):Int))&&Nat.blt (Int.toNat ((AS l k):Int)) (List.length l)then(((.pointer (some ⟨10,0,(some (0+Int.toNat ((AS l k):Int)))⟩)):Value)=(.pointer (some ⟨10,0,(some (0+Int.toNat ((AS l k):Int)))⟩)))/\(((.int .i64 (((AS l k):Int))):Value)=(.int .i64 (((AS l k):Int))))/\(((.slice (some ⟨10,0,(some 0)⟩) (List.length l) 18446744073709551616):Value)=(.slice (some ⟨10,0,(some 0)⟩) (List.length l) 18446744073709551616))/\
 (Q (.tuple ⟨[(.string e_),(.bool false)]⟩) [some (.cells [(.bool true),(.slice (some ⟨10,0,(some 0)⟩) (List.length l) 18446744073709551616)] 0 false),some (.vec AR l false),none])else False)else False))else False)else False)else(((.bool false):Value)=(.bool false))/\(Q (.tuple ⟨[(.string e_),(.bool false)]⟩) [some (.cells [(.bool true),(.slice (some ⟨10,0,(some 0)⟩) (List.length l) 18446744073709551616)] 0 false),some (.vec AR l false),none]))):=by kernel_rfl
theorem P9 {m b:Nat} {Bj:List Bool} {Lu:List (Option AK)} {v v':Value} {o o1:AK} {Hf:AA} (holds:∀(j:Nat) (o:AK),Lu[j]?≠some (some o)) (hb:9+m<=b) (hv:FC (CY.ID AL 9 m [b]) v=some v')
 (ho:BV (CY.ID AL 9 m [b]) o=some o1) (h:Hf.get b=some o1):CY AL 9 m Bj ⟨v,Lu,[o]⟩ v' Hf:=by
 refine⟨[b],by simp,fun c hc=>by simp at hc;omega,rfl,hv,fun j c p hj hp=>?_,fun j p _ _ hp=>absurd hp (holds j p)⟩;cases j with
 | zero=>cases hj;cases hp;exact⟨o1,ho,h⟩
 | succ j=>cases j<;>cases hj
theorem RL:C3 Tryz.prog AL BZ (Al AL 9 [true,false] Hv):=by
 refine BY Xy (by kernel_rfl) (n:=95) (by kernel_rfl) (by kernel_rfl) fun argsc objs x hx hro=>?_
 unfold Hv at hx;split at hx
 ·rename_i n c x0 l ro k v ro2;simp only[GT.run]at hx;split at hx
  ·rename_i hc;cases hx
   obtain⟨rfl,rfl,rfl,hbig⟩:=hc;have hr0:ro=false:=hro 0 _ rfl rfl;subst hr0;refine⟨by simp,?_⟩;have h0:Ad XA 11 BZ (fun w H=>w= .slice (some ⟨11,0,some 0⟩) (l.length+1) AF/\H.get 11=some (.vec AR (l++[(k,v)]) false)) (st BZ 95 [.slice (some ⟨9,0,some 0⟩) l.length AF,.int .i64 (l.length:Int),.slice (some ⟨10,0,none⟩) 1 1] (BH ⟨.leaf,9⟩ [.vec AR l false,.cells [.string k,.string v] 2 true])):=by
    refine(BW.Fk (Bt J7 (ids:=[]) (Q:=fun w os=>w= .slice (some ⟨11,0,some 0⟩) (l.length+1) AF/\os=[some (.vec AR (l++[(k,v)]) false)]) 300 _ ?_)).mono ?_
    ·rw[aU];refine AH ?_ (AH ?_ (AH ?_ ⟨by unfold AF;rfl,?_⟩))
     ·simp
     ·simp
     ·simp[hbig]
     ·rw[List.drop_zero,List.take_of_length_le (Nat.le_refl _)];rfl
    ·rintro w H ⟨rfl,h⟩;exact⟨rfl,by simpa [Af] using h⟩
   refine Aq.mono (Q:=fun w H=>w= .slice (some ⟨11,0,some 0⟩) (l.length+1) AF/\H.get 11=some (.vec AR (l++[(k,v)]) false)) h0.IC ?_;rintro w H ⟨rfl,h⟩;refine P9 (b:=11) (fun j o hj=>?_) (Nat.le_refl _) rfl rfl h;cases j with
   | zero=>cases hj
   | succ j=>cases j<;>cases hj
  ·cases hx
 ·rename_i k v ro;cases hx
  have hr0:ro=false:=hro 0 _ rfl rfl;subst hr0;refine⟨by simp,?_⟩;have h0:Ad XA 10 BZ (fun w H=>w= .slice (some ⟨10,0,none⟩) 1 (AF+1)/\H.get 10=some (.cells [.string k,.string v] 2 false)) (st BZ 95 [.slice none 0 0,.int .i64 0,.slice (some ⟨9,0,none⟩) 1 1] (BH ⟨.leaf,9⟩ [.cells [.string k,.string v] 2 false])):=by
   refine(BW.Fk (Bt J7 (ids:=[10]) (Q:=fun w os=>w= .slice (some ⟨10,0,none⟩) 1 (AF+1)/\os=[some (.cells [.string k,.string v] 2 false),some (.cells [.string k,.string v] 2 false)]) 300 _ ?_)).mono ?_
   ·rw[cX];exact⟨by unfold AF;rfl,rfl⟩
   ·rintro w H ⟨rfl,h⟩;refine⟨rfl,?_⟩;have h:[H.get 10,H.get 10]=_:=h;simpa using h
  refine Aq.row (k:=AR) (Q:=fun w H=>w= .slice (some ⟨10,0,none⟩) 1 (AF+1)/\H.get 10=some (.cells [.string k,.string v] 2 false)) h0.IC ?_;rintro w H ⟨rfl,h⟩;refine⟨10,1,[(k,v)],rfl,h,?_⟩;refine P9 (b:=10) (fun j o hj=>?_) (Nat.le_refl _) rfl rfl (by rw[AA.AQ,if_pos rfl]);cases j<;>cases hj
 ·cases hx
theorem Xx:C3 Tryz.prog AL BZ (EE 2 32):=SE ⟨95,_,show entry Tryz.prog 69=some (95,BI Tryz.prog 69 []) by kernel_rfl⟩ (by decide) (by decide) Rb Ss
theorem W3:C3 Tryz.prog AL BZ WH:=by
 refine⟨RL.1,fun base W0 μ H W args args' v H' a b c d hF=>?_⟩;unfold WH at hF;split at hF
 ·rename_i r hr;cases hF
  exact Xx.2 base W0 μ H W args args' v H' a b c d hr
 ·exact RL.2 base W0 μ H W args args' v H' a b c d hF
theorem WE {a:Option Addr} {n c:Nat} {x:Int} {s:Value} {H:AA} (h:¬x < (n:Int)):EE 2 32 [.slice a n c,.int .i64 x,s] H=none:=by
 unfold EE;split
 ·rename_i heq;cases heq
  split
  ·split
   ·rename_i hc;exact absurd hc.2.2.2.2.2.2.2.2.1 h
   ·rfl
  ·rfl
 ·rfl
theorem Z0 {X:Ctx} {f:FuncId} (hX:X.Ep f=some WH) {args:List Value} {H:AA} {K:Value->AA->Prop} (h:fQ args H K):∃v H',Bd X f args .normal H=some (v,H')/\K v H':=by
 unfold fQ at h;split at h
 ·rename_i a n c x s
  by_cases hx:x < (n:Int)
  ·rw[decide_eq_true hx]at h;have h:MZ 2 32 [.slice a n c,.int .i64 x,s] H K:=h;let X2:Ctx:=⟨X.P,X.laid,fun _=>some (EE 2 32),X.Bu⟩
   obtain⟨v,H',h1,h2⟩:=Th (X:=X2) (f:=f) (sz:=2) (B:=32) rfl h;refine⟨v,H',?_,h2⟩;unfold Bd at h1 ⊢;simp only[hX];have h1:EE 2 32 [.slice a n c,.int .i64 x,s] H=some (v,H'):=h1;unfold WH;rw[h1]
  ·rw[decide_eq_false hx]at h;have h:BU AL 9 [true,false] Hv [.slice a n c,.int .i64 x,s] H K:=h;let X2:Ctx:=⟨X.P,X.laid,fun _=>some (Al AL 9 [true,false] Hv),X.Bu⟩
   obtain⟨v,H',h1,h2⟩:=A9 (X:=X2) (f:=f) rfl h;refine⟨v,H',?_,h2⟩;unfold Bd at h1 ⊢;simp only[hX];have h1:Al AL 9 [true,false] Hv [.slice a n c,.int .i64 x,s] H=some (v,H'):=h1;unfold WH;rw[WE hx];exact h1
 ·cases h
theorem iY:A4 Tryz.prog AL kR:=A4.cons W3 (A4.cons (Za _) Xy)
theorem Pp:Eg XS jE:=Ap (fun _ _ _ h=>Z0 (by kernel_rfl) h) (Ap (fun _ _ _ h=>Sh (by kernel_rfl) h) (Ap (fun _ _ _ h=>A9 (by kernel_rfl) h) (A6 _)))
def Ez (l:List (EK.C AR)) (k v:ByteArray):List (EK.C AR):=
 match DZ l k with
 | some _=>l.set (AS l k) ((l.getD (AS l k) (EK.AZ AR)).1,v)
 | none=>l.take (AS l k)++([(k,v)]++l.drop (AS l k))
def E4 (l:List (EK.C AR)) (k:ByteArray):List (EK.C AR):=
 match DZ l k with
 | some _=>l.take (AS l k)++l.drop (AS l k+1)
 | none=>l
def VY (o:Option ByteArray):Value:= .tuple ⟨[.string (o.getD { data:=#[] }),.bool o.isSome,.int .i64 0]⟩
theorem LX (o:Option ByteArray):Ct 6 (VY o)=true/\Af 4 (VY o)=[]:=by
 cases o<;>exact⟨rfl,rfl⟩
theorem Rh {l:List (EK.C AR)} {k:ByteArray} (h:AS l k < l.length) (hc:((l.getD (0+Int.toNat (AS l k:Int)) (EK.AZ AR)).1.toList==k.toList)=true):DZ l k=some (l.getD (AS l k) (EK.AZ AR)).2:=by
 unfold DZ;rw[Nat.zero_add,Int.toNat_natCast]at hc;rw[if_pos ⟨h,hc⟩]
theorem R6 {l:List (EK.C AR)} {k:ByteArray} (hc:((l.getD (0+Int.toNat (AS l k:Int)) (EK.AZ AR)).1.toList==k.toList)=false):DZ l k=none:=by
 unfold DZ;rw[Nat.zero_add,Int.toNat_natCast]at hc;rw[if_neg (by rintro⟨_,h2⟩;rw[hc]at h2;cases h2)]
theorem MR {l:List (EK.C AR)} {k:ByteArray} (h:¬AS l k < l.length):DZ l k=none:=by
 unfold DZ;rw[if_neg (by rintro⟨h2,_⟩;exact h h2)]
def J2:Aw:=
 ⟨fun l rest=>A5 l/\l.length < 1000000/\∃k v,rest=[.string k,.string v],fun l rest=>match rest with
  | [.string k,.string _]=>VY (DZ l k)
  | _=>Bn,fun l rest=>match rest with
  | [.string k,.string v]=>Ez l k v
  | _=>l⟩
theorem Ot {n:Nat} (h:n < 1000000):BK 32 (n+1)=true:=by
 unfold BK;rw[Nat.ble_eq_true_of_le (by omega),Nat.ble_eq_true_of_le (by omega)];rfl
def CS (m n:Nat):AK:= .cells [.bool true,.slice (some ⟨m,0,some 0⟩) n AF] 0 false
theorem cQ:C3 Tryz.prog AL B3 (Al AL 9 [true] J2.G):=by
 refine MT iY (by kernel_rfl) (n:=61) ?_;rintro l rest ⟨hs,hn,k,v,rfl⟩;refine⟨by simp,(LX _).1,(LX _).2,?_,?_⟩
 ·rintro rfl;have hat:DZ [] k=none:=MR (by simp);have hv:J2.v [] [.string k,.string v]= .tuple ⟨[.string { data:=#[] },.bool false,.int .i64 0]⟩:=by
   show VY (DZ [] k)=_;rw[hat];rfl
  have hnx:J2.nx [] [.string k,.string v]=[(k,v)]:=by
   show Ez [] k v=_;unfold Ez;rw[hat];simp
  rw[hv,hnx];refine(BW.Fk (Bt Pp (ids:=[9,12]) (Q:=fun w os=>w= .tuple ⟨[.string { data:=#[] },.bool false,.int .i64 0]⟩/\os=[some (CS 12 1),some (.vec AR [(k,v)] false)]) 500 _ (by rw[aQ];exact⟨rfl,rfl,by unfold CS AF;rfl⟩))).mono ?_;rintro w H ⟨rfl,h⟩;have h:[H.get 9,H.get 12]=_:=h;simp only[List.cons.injEq,and_true]at h;exact⟨rfl,.inr ⟨12,by decide,h.1,h.2⟩⟩
 ·have hlen:(Ez l k v).length=(match DZ l k with | some _=>l.length | none=>l.length+1):=by
   have:=Mk l k;unfold Ez;cases DZ l k with
   | some _=>simp
   | none=>simp only[List.length_append,List.length_take,List.length_drop,List.length_cons,List.length_nil];omega
  have hE:Ad XS 10 B3 (fun w H=>w=VY (DZ l k)/\((∃o3,([9,10,13]++Af 4 w).map H.get=[some (CS 10 (Ez l k v).length),some (.vec AR (Ez l k v) false),o3])∨
   ([9,10,13]++Af 4 w).map H.get=[some (CS 13 (Ez l k v).length),none,some (.vec AR (Ez l k v) false)])) (st B3 61 [p9,.string k,.string v] (BH ⟨.leaf,9⟩ (LJ l))):=by
   refine BW.Fk (Bt Pp (ids:=[9,10,13]) (Q:=fun w os=>w=VY (DZ l k)/\((∃o3,os=[some (CS 10 (Ez l k v).length),some (.vec AR (Ez l k v) false),o3])∨os=[some (CS 13 (Ez l k v).length),none,some (.vec AR (Ez l k v) false)])) 500 _ ?_);rw[cx];refine⟨⟨rfl,rfl,hs,by omega⟩,AU (fun h=>?_) (fun h=>?_)⟩
   ·have hlt:AS l k < l.length:=by
     have:(AS l k:Int) < (l.length:Int):=h;omega
    refine AH (ca hlt) (AH (cb hlt) (Ae (fun hc=>?_) (fun hc=>?_)))
    ·have e:=Rh hlt hc;have e2:Ez l k v=l.set (AS l k) ((l.getD (AS l k) (EK.AZ AR)).1,v):=by unfold Ez;rw[e]
     rw[e]at hlen;refine⟨rfl,by rw[hc],rfl,AH (cb hlt) ⟨rfl,rfl,AH (ca hlt) ⟨rfl,rfl,rfl,AH (ca hlt) (AH (cb hlt) ⟨rfl,rfl,rfl,rfl,rfl,rfl,AH (ca hlt) (AH (cb hlt) ⟨?_,.inl ⟨none,?_⟩⟩)⟩)⟩⟩⟩
     ·rw[e,Nat.zero_add,Int.toNat_natCast];rfl
     ·rw[hlen,e2,Nat.zero_add,Int.toNat_natCast];unfold CS AF;rfl
    ·have e:=R6 hc;have e2:Ez l k v=l.take (AS l k)++([(k,v)]++l.drop (AS l k)):=by unfold Ez;rw[e]
     rw[e]at hlen;refine⟨rfl,by rw[hc],rfl,AH (cb hlt) ⟨rfl,rfl,AH (ca hlt) ⟨rfl,rfl,rfl,AU (fun h2=>?_) (fun h2=>absurd h h2)⟩⟩⟩;refine⟨⟨by omega,by omega,h2,Ot hn⟩,by rw[e];rfl,.inr ?_⟩;rw[hlen,e2,List.drop_zero,List.take_of_length_le (Nat.le_refl _),Int.toNat_natCast];unfold CS AF;rfl
   ·have hge:¬AS l k < l.length:=fun h2=>h (by show(AS l k:Int) < (l.length:Int);omega)
    have e:=MR (k:=k) hge;have hr:AS l k=l.length:=by have:=Mk l k;omega
    have e2:Ez l k v=l++[(k,v)]:=by
     unfold Ez;rw[e];simp only[hr,List.take_length,List.drop_length,List.append_nil]
    rw[e]at hlen;refine⟨rfl,AU (fun h2=>absurd h2 h) (fun _=>⟨⟨rfl,rfl,by rw[hr],Ot hn⟩,by rw[e];rfl,.inr ?_⟩)⟩;rw[hlen,e2];unfold CS AF;rfl
  refine hE.mono ?_;rintro w H ⟨rfl,h⟩;rw[(LX _).2]at h;refine⟨rfl,.inr ?_⟩;rcases h with⟨o3,h⟩ | h
  ·simp only[List.append_nil,List.map_cons,List.map_nil,List.cons.injEq,and_true]at h;exact⟨10,by decide,h.1,h.2.1⟩
  ·simp only[List.append_nil,List.map_cons,List.map_nil,List.cons.injEq,and_true]at h;exact⟨13,by decide,h.1,h.2.2⟩
def Jt:Aw:=
 ⟨fun l rest=>A5 l/\l.length < 1000000/\∃k,rest=[.string k],fun l rest=>match rest with
  | [.string k]=>OT (DZ l k)
  | _=>Bn,fun l rest=>match rest with
  | [.string k]=>E4 l k
  | _=>l⟩
theorem ag:C3 Tryz.prog AL BP (Al AL 9 [true] Jt.G):=by
 refine MT iY (by kernel_rfl) (n:=32) ?_;rintro l rest ⟨hs,hn,k,rfl⟩;refine⟨by simp,(F9 _).1,(F9 _).2,?_,?_⟩
 ·rintro rfl;have hat:DZ [] k=none:=MR (by simp);have hv:Jt.v [] [.string k]= .tuple ⟨[.string { data:=#[] },.bool false]⟩:=by
   show OT (DZ [] k)=_;rw[hat];rfl
  have hnx:Jt.nx [] [.string k]=[]:=by
   show E4 [] k=_;unfold E4;rw[hat]
  rw[hv,hnx];have hE:Ad XS 10 BP (fun w H=>w= .tuple ⟨[.string { data:=#[] },.bool false]⟩/\([9]++Af 4 w).map H.get=[some (.cells [.bool true,.slice none 0 0] 0 false)]) (st BP 32 [p9,.string k] (BH ⟨.leaf,9⟩ Nz)):=
   BW.Fk (Bt Pp (ids:=[9]) (Q:=fun w os=>w= .tuple ⟨[.string { data:=#[] },.bool false]⟩/\os=[some (.cells [.bool true,.slice none 0 0] 0 false)]) 500 _ (by rw[cE];exact⟨rfl,rfl,rfl⟩))
  refine hE.mono ?_;rintro w H ⟨rfl,h⟩;exact⟨rfl,.inl ⟨rfl,Q9 rfl h⟩⟩
 ·have hE:Ad XS 10 BP (fun w H=>w=OT (DZ l k)/\((∃o3,([9,10,13]++Af 4 w).map H.get=[some (CS 10 (E4 l k).length),some (.vec AR (E4 l k) false),o3])∨
   ([9,10,13]++Af 4 w).map H.get=[some (CS 13 (E4 l k).length),none,some (.vec AR (E4 l k) false)])) (st BP 32 [p9,.string k] (BH ⟨.leaf,9⟩ (LJ l))):=by
   refine BW.Fk (Bt Pp (ids:=[9,10,13]) (Q:=fun w os=>w=OT (DZ l k)/\((∃o3,os=[some (CS 10 (E4 l k).length),some (.vec AR (E4 l k) false),o3])∨os=[some (CS 13 (E4 l k).length),none,some (.vec AR (E4 l k) false)])) 500 _ ?_);rw[aN];refine⟨⟨rfl,rfl,hs,by omega⟩,AU (fun h=>?_) (fun h=>?_)⟩
   ·have hlt:AS l k < l.length:=by
     have:(AS l k:Int) < (l.length:Int):=h;omega
    refine AH (ca hlt) (AH (cb hlt) (Ae (fun hc=>?_) (fun hc=>?_)))
    ·have e:=Rh hlt hc;have e2:E4 l k=l.take (AS l k)++l.drop (AS l k+1):=by unfold E4;rw[e]
     have hw:IntKind.wrap .i64 ((AS l k:Int)+1)=((AS l k+1:Nat):Int):=by rw[wrap64 (by omega) (by omega)];rfl
     have hlen:(E4 l k).length=l.length - (AS l k+1 - AS l k):=by
      rw[e2];simp only[List.length_append,List.length_take,List.length_drop];omega
     refine⟨rfl,by rw[hc],rfl,AH (cb hlt) ⟨rfl,rfl,AH (ca hlt) ⟨rfl,rfl,rfl,AH (ca hlt) (AH (cb hlt) ⟨⟨rfl,rfl,hs,by omega⟩,⟨by omega,by omega,?_,?_⟩,?_,.inr ?_⟩)⟩⟩⟩
     ·rw[hw];omega
     ·rw[hw];omega
     ·rw[e,Nat.zero_add,Int.toNat_natCast];rfl
     ·rw[hlen,e2,hw,List.drop_zero,List.take_of_length_le (Nat.le_refl _),Int.toNat_natCast,Int.toNat_natCast];unfold CS AF;rfl
    ·have e:=R6 hc;have e2:E4 l k=l:=by unfold E4;rw[e]
     refine⟨rfl,by rw[hc],rfl,AH (cb hlt) ⟨rfl,rfl,AH (ca hlt) ⟨rfl,rfl,rfl,by rw[e];rfl,.inl ⟨none,?_⟩⟩⟩⟩;rw[e2];unfold CS AF;rfl
   ·have e:=MR (l:=l) (k:=k) (fun h2=>h (by show(AS l k:Int) < (l.length:Int);omega));have e2:E4 l k=l:=by unfold E4;rw[e]
    refine⟨rfl,by rw[e];rfl,.inl ⟨none,?_⟩⟩;rw[e2];unfold CS AF;rfl
  refine hE.mono ?_;rintro w H ⟨rfl,h⟩;rw[(F9 _).2]at h;refine⟨rfl,.inr ?_⟩;rcases h with⟨o3,h⟩ | h
  ·simp only[List.append_nil,List.map_cons,List.map_nil,List.cons.injEq,and_true]at h;exact⟨10,by decide,h.1,h.2.1⟩
  ·simp only[List.append_nil,List.map_cons,List.map_nil,List.cons.injEq,and_true]at h;exact⟨13,by decide,h.1,h.2.2⟩
theorem fA (Q:Value->List (Option AK)->Prop):Ex XA ak DS [9] Q 100 (st DS 3 [] ⟨.leaf,9⟩)=(
 (Q (.pointer (some ⟨9,0,none⟩)) [some (.cells [(.bool true),(.slice none 0 0)] 0 false),some (.cells [(.bool true),(.slice none 0 0)] 0 false)])):=by kernel_rfl
def UI (args:List Value) (objs:List AK):GT:=
 match args,objs with
 | [],[]=> .ret ⟨.pointer (some ⟨9,0,none⟩),[],[.abs (.pack (.table [])) false]⟩
 | _,_=> .fail
theorem Zf:C3 Tryz.prog AL DS (Al AL 9 [] UI):=by
 refine BY Xy (by kernel_rfl) (n:=3) (by kernel_rfl) (by kernel_rfl) fun argsc objs x hx hro=>?_
 unfold UI at hx;split at hx
 ·cases hx
  refine⟨by simp,?_⟩;have h0:Ad XA 9 DS (fun w H=>w= .pointer (some ⟨9,0,none⟩)/\H.get 9=some (.cells [.bool true,.slice none 0 0] 0 false)) (st DS 3 [] ⟨.leaf,9⟩):=by
   refine(BW.Fk (Bt J7 (ids:=[9]) (Q:=fun w os=>w= .pointer (some ⟨9,0,none⟩)/\os=[some (.cells [.bool true,.slice none 0 0] 0 false),some (.cells [.bool true,.slice none 0 0] 0 false)]) 100 _ (by rw[fA];exact⟨rfl,rfl⟩))).mono ?_;rintro w H ⟨rfl,h⟩;refine⟨rfl,?_⟩;have h:[H.get 9,H.get 9]=_:=h;simpa using h
  refine Aq.shut (Q:=fun w H=>w= .pointer (some ⟨9,0,none⟩)/\H.get 9=some (.cells [.bool true,.slice none 0 0] 0 false)) h0.IC ?_;rintro w H ⟨rfl,h⟩;refine⟨_,No (s:= .table []) (b:=9) (o:= .cells [.bool true,.slice none 0 0] 0 false) .DC (.inl (by simp[Af])) h rfl rfl rfl (.refl _),?_⟩;refine P9 (b:=9) (fun j o hj=>by cases hj) (Nat.le_refl _) rfl rfl ?_;exact(B6 (by simp)).root 9 rfl
 ·cases hx
end Go.AI
namespace Go.AI
def Uy (t:Tr Value) (l:List Nat):Tr Value:=N0 id t l
theorem Of {μ:Ai} {t:Tr Value} {n:Nat} {a:Array Value} (h:FJ μ t n a) (l:List Nat):FJ μ (Uy t l) n a:=by
 refine⟨h.1,fun i=>?_⟩;unfold Uy;rcases KC id t l i with e | e
 ·rw[e];exact .Bn _
 ·rw[e];exact h.2 i
def Cu:List CN->Bool
 | []=>true
 | .Dp _ _::_=>false
 | _::r=>Cu r
def W8:List (FuncId × List Nat)->FuncId->Option (List Nat)
 | [],_=>none
 | p::r,f=>bif Nat.beq p.1 f then some p.2 else W8 r f
def Jv (ks:List (FuncId × List Nat)):Ah->Ah
 | ⟨fn,t,n,todo,ds,r,kd,rd⟩=>match W8 ks fn with
  | some l=>⟨fn,Uy t l,n,todo,ds,r,kd,rd⟩
  | none=>⟨fn,t,n,todo,ds,r,kd,rd⟩
def N3 (ks:List (FuncId × List Nat)):List Nat->AA->AA
 | [],H=>H
 | b::r,H=>match (N3 ks r H).get b with
  | some (.loop ⟨st,pd,fn,t,n,ps,asg,bd,df⟩)=>match W8 ks fn with
   | some l=>(N3 ks r H).put b (.loop ⟨st,pd,fn,Uy t l,n,ps,asg,bd,df⟩)
   | none=>N3 ks r H
  | _=>N3 ks r H
def Fv (ks:List (FuncId × List Nat)) (bs:List Nat) (c:A8):A8:=⟨c.fr,c.cs.map (Jv ks),N3 ks bs c.H⟩
section
variable {X:Ctx} {base:Env} {W0:World} {μ:Ai} {W:World} {N:Nat}
theorem Ok {ks:List (FuncId × List Nat)}:∀(bs:List Nat) {H:AA},AT base W0 μ H W->AT base W0 μ (N3 ks bs H) W
 | [],H,h=>h
 | b::r,H,h=>by
  have h1:=Ok r h (ks:=ks);unfold N3;split
  ·rename_i st pd fn t n ps asg bd df hb;split
   ·refine h1.swap hb (fun T o' _ ho=>?_) rfl rfl rfl (fun _ _ hv=>hv);cases ho with
    | loop _ a R ht hd=>exact .loop T ⟨st,pd,fn,_,n,ps,asg,bd,df⟩ a R (Of ht _) hd
   ·exact h1
  ·exact h1
theorem O8 {H H':AA} {g:List Nat} {f:Ah} {f':Frame} (h:LF X μ H g f f') (hd:Cu f.todo=true):LF X μ H' [] f f':=by
 cases h with
 | plain fn t n tm todo todo' ds ds' r kd rd rd' ht hi hdd hr=>exact .plain _ _ _ _ _ _ _ _ _ _ _ _ ht hi hdd hr
 | drawn=>cases hd
theorem bu {ks:List (FuncId × List Nat)} {H H':AA} {g:List Nat} {f:Ah} {f':Frame} (h:HR X μ H g f f') (hd:Cu f.todo=true):HR X μ H' [] (Jv ks f) f':=by
 cases h with
 | plain fn t n tm todo todo' ds ds' r kd rd rd' ht hi hdd hr=>
  unfold Jv;simp only;split
  ·exact .plain _ _ _ _ _ _ _ _ _ _ _ _ (Of ht _) hi hdd hr
  ·exact .plain _ _ _ _ _ _ _ _ _ _ _ _ ht hi hdd hr
 | Mq=>cases hd
theorem Kv {ks:List (FuncId × List Nat)} {H H':AA} {g:List Nat} {l:List Ah} {l':List Frame} (h:Dh X μ H g l l') (hd:(l.all fun f=>Cu f.todo)=true):Dh X μ H' [] (l.map (Jv ks)) l':=by
 induction h with
 | nil=>exact .nil
 | cons hf _ ih=>
  simp only[List.all_cons,Bool.and_eq_true]at hd;exact .cons (g:=[]) (gs:=[]) (bu hf hd.1) (ih hd.2)
theorem NH {ks:List (FuncId × List Nat)} {bs:List Nat} {c:A8} {Φ:A8->Prop} (h1:Cu c.fr.todo=true) (h2:(c.cs.all fun f=>Cu f.todo)=true) (hr:BC X N (Fv ks bs c) Φ):BC X N c Φ:=by
 intro base W0 hb hok hplan cs0 μ fr cs W hm;refine hr base W0 hb hok hplan cs0 μ fr cs W ?_;obtain⟨hH,hlaid,g,gs,hfr,hcs,hnd⟩:=hm;exact⟨Ok bs hH,hlaid,[],[],O8 hfr h1,Kv hcs h2,by simp⟩
end
def Stop.IY (X:Ctx) (ks:List (FuncId × List Nat)) (S:Stop) (c:A8):Option A8:=
 match D8 X c with
 | some c1=>bif Cu c1.fr.todo&&(c1.cs.all fun f=>Cu f.todo)then
  (bif Nat.ble S.N (Fv ks (S.ids c1) c1).H.next&&(S.ids (Fv ks (S.ids c1) c1)).all (fun b=>Nat.blt b (Fv ks (S.ids c1) c1).H.next)then
   iZ S.N (S.Lu++S.ids (Fv ks (S.ids c1) c1)) (S.ids (Fv ks (S.ids c1) c1)) S.live (Fv ks (S.ids c1) c1)else none)else none
 | none=>none
def cA (X:Ctx) (pf:Pf) (f:FuncId) (ids:List Nat) (S:Stop) (ks:List (FuncId × List Nat)) (Q:Value->List (Option AK)->Prop) (R:A8->Prop) (n:Nat):A8->Prop:=
 Nat.rec (motive:=fun _=>A8->Prop) (fun _=>False) (fun _ ih c=>match DX X f c with
  | some (v,H)=>Q v ((ids++Af 4 v).map H.get)
  | none=>bif S.here c then(match S.IY X ks c with
   | some c2=>R c2
   | none=>False)
   else Ft X pf c ih) n
theorem Gy {X:Ctx} {pf:Pf} (hpf:Eg X pf) {f:FuncId} {ids:List Nat} {S:Stop} {ks:List (FuncId × List Nat)} (hl:(X.laid.all fun p=>Nat.blt p.1 S.N)=true) {Q:Value->List (Option AK)->Prop} {R:A8->Prop} {Q':Value->AA->Prop}
 (hQ:∀v H,Q v ((ids++Af 4 v).map H.get)->Q' v H) (hR:∀c,R c->Ad X S.N f Q' c):∀(n:Nat) (c:A8),cA X pf f ids S ks Q R n c->Ad X S.N f Q' c:=by
 intro n;induction n with
 | zero=>intro c h;cases h
 | succ n ih=>
  intro c h;have h:(match DX X f c with
   | some (v,H)=>Q v ((ids++Af 4 v).map H.get)
   | none=>bif S.here c then(match S.IY X ks c with
    | some c2=>R c2
    | none=>False)
    else Ft X pf c (cA X pf f ids S ks Q R n)):=h
  split at h
  ·rename_i v H e;exact BC.here ⟨v,H,e,hQ v H h⟩
  ·cases hs:S.here c
   ·simp only[hs,cond_false]at h;exact BC.bind (Reach.Fk (Ge hpf h)) fun c' hc=>ih c' hc
   ·simp only[hs,cond_true]at h;split at h
    ·rename_i c2 hc;unfold Stop.IY at hc;split at hc
     ·rename_i c1 h1;cases hd:(Cu c1.fr.todo&&(c1.cs.all fun f=>Cu f.todo))
      ·simp only[hd,cond_false]at hc;cases hc
      ·simp only[hd,cond_true]at hc;simp only[Bool.and_eq_true]at hd;cases hb:(Nat.ble S.N (Fv ks (S.ids c1) c1).H.next&&(S.ids (Fv ks (S.ids c1) c1)).all (fun b=>Nat.blt b (Fv ks (S.ids c1) c1).H.next))
       ·simp only[hb,cond_false]at hc;cases hc
       ·simp only[hb,cond_true]at hc;simp only[Bool.and_eq_true]at hb;have hr:=QQ (X:=X) hl (Nat.le_of_ble_eq_true hb.1) hb.2 hc (hR c2 h);exact BC.bind (Reach.Fk ((Mj.step h1).reach (Φ:=fun c'=>c'=c1) rfl)) fun c' e=>e ▸ NH hd.1 hd.2 hr
     ·cases hc
    ·cases h
end Go.AI
namespace Go.AI
open Go.Proofs
def DW (b:Nat):Value:= .pointer (some ⟨b,0,none⟩)
def jy (l:List (EK.C AR)) (i:Int) (x:Value) (H:AA->AA):A8:=
 ⟨⟨Ao,Gr [(2,.func (.yield 12) ⟨[]⟩ ⟨[]⟩),(11,.slice (some ⟨10,0,some 0⟩) l.length AF),(12,.int .i64 l.length),(13,.int .i64 i)],25,[.code (BI Tryz.prog Ao [1,0,0]),.inLoop (BI Tryz.prog Ao [1,0,0]),.inBlock 0],[],false,.normal,none⟩,
  [⟨BA,Gr [],6,[IG (BI Tryz.prog BA []) 2],[],false,.normal,none⟩,
   ⟨Aa,Gr [(3,DW 13)],34,[.inRangeFunc 12,.inBlock 0,.code (BI Tryz.prog Aa [1,1,1,1])],[⟨.collected 11,⟨[]⟩⟩],false,.normal,none⟩],
  H ((((((BH ⟨.leaf,9⟩ [.cells [.bool true,.slice (some ⟨10,0,some 0⟩) l.length AF] 0 false]).alloc (.vec AR l false)).alloc (.deferred (some []))).alloc (.loop ⟨.ready,none,Aa,Gr [(3,DW 13)],34,#[19,20],BI Tryz.prog Aa [1,1,1,0,1,0,0],BI Tryz.prog Aa [1,1,1,0,1,0,1],11⟩)).alloc (.cells [DW 14] 0 false)).alloc (.cells [.bool true,x] 0 false))⟩
def jm (l:List (EK.C AR)):A8:=jy l 0 (.slice none 0 0) id
def dp (l:List (EK.C AR)) (i:Int) (k v:ByteArray):A8:=jy l i (.slice (some ⟨15,0,none⟩) 1 18446744073709551617) fun H=>H.alloc (.cells [.string k,.string v] 2 false)
def iB (l:List (EK.C AR)) (i:Int) (n:Nat) (m:List (EK.C AR)):A8:=jy l i (.slice (some ⟨15,0,some 0⟩) n AF) fun H=>H.alloc (.vec AR m false)
def fq:Stop:=⟨Ao,2,2,11,[9,10],[2,11,12,13]⟩
def ef:List (FuncId × List Nat):=[(BA,[]),(Aa,[3])]
theorem fl (l:List (EK.C AR)) (Q:Value->List (Option AK)->Prop) (R:A8->Prop):cA X0 C4 Aa [9,10] fq ef Q R 400 (st Aa 34 [p9] (BH ⟨.leaf,9⟩ (LJ l)))=(
 (bif decide (0<=Int.ofNat (List.length l))&&Nat.ble (Int.toNat (Int.ofNat (List.length l))) (List.length l)&&decide (0<=0)&&Nat.ble 0 (Int.toNat (Int.ofNat (List.length l)))then(R (jm l))else False)):=by kernel_rfl
theorem fH (l:List (EK.C AR)) (Q:Value->List (Option AK)->Prop) (R:A8->Prop):cA X0 C4 Aa [9,10,14] fq ef Q R 400 (jm l)=(
 (bif decide (0 < ((List.length l):Int))then(bif decide (0<=0)&&Nat.blt 0 (List.length l)then(bif Nat.blt 0 (List.length l)then(p_ 14=p_ 14)/\(R (dp l 1 (Prod.fst (List.getD l 0 (EK.AZ AR))) (Prod.snd (List.getD l 0 (EK.AZ AR)))))else False)else False)else(Q (p_ 14) [some (.cells [(.bool true),(.slice (some ⟨10,0,(some 0)⟩) (List.length l) 18446744073709551616)] 0 false),some (.vec AR l false),some (.cells [(.bool true),(.slice none 0 0)] 0 false),some (.cells [(.bool true),(.slice none 0 0)] 0 false)]))):=by kernel_rfl
theorem XK (l:List (EK.C AR)) (i:Int) (n:Nat) (m:List (EK.C AR)) (Q:Value->List (Option AK)->Prop) (R:A8->Prop):cA X0 C4 Aa [9,10,14,15] fq ef Q R 400 (iB l i n m)=(
 (bif decide (i < ((List.length l):Int))then(bif decide (0<=i)&&Nat.blt (Int.toNat i) (List.length l)then(bif Nat.blt (0+Int.toNat i) (List.length l)then(bif true&&Nat.ble (0+n) (List.length m)&&BK 32 (n+1)then(p_ 14=p_ 14)/\(R (iB l (IntKind.wrap .i64 (i+1)) (n+1) (List.take n (List.drop 0 m)++[(Prod.fst (List.getD l (0+Int.toNat i) (EK.AZ AR)),Prod.snd (List.getD l (0+Int.toNat i) (EK.AZ AR)))])))else False)else False)else False)else(Q (p_ 14) [some (.cells [(.bool true),(.slice (some ⟨10,0,(some 0)⟩) (List.length l) 18446744073709551616)] 0 false),some (.vec AR l false),some (.cells [(.bool true),(.slice (some ⟨15,0,(some 0)⟩) n 18446744073709551616)] 0 false),some (.vec AR m false),some (.cells [(.bool true),(.slice (some ⟨15,0,(some 0)⟩) n 18446744073709551616)] 0 false)]))):=by kernel_rfl
theorem eS (Q:Value->List (Option AK)->Prop):Ex X0 C4 Aa [9] Q 400 (st Aa 34 [p9] (BH ⟨.leaf,9⟩ Nz))=(
 (Q (p_ 10) [some (.cells [(.bool true),(.slice none 0 0)] 0 false),some (.cells [(.bool true),(.slice none 0 0)] 0 false)])):=by kernel_rfl
end Go.AI
namespace Go.AI
theorem NZ {H:AA}:∀(todo:List Nat) (f:Nat) (seen:List Nat),todo.length<=f->(∀n∈todo,∃p,H.get n=some p/\Eu p=[])->∀x,x∈todo->x∈Am H 0 f todo seen
 | [],_,_,_,_,x,hx=>by cases hx
 | n::r,0,_,hf,_,_,_=>by simp at hf
 | n::r,f+1,seen,hf,hp,x,hx=>by
  obtain⟨p,hg,hr⟩:=hp n (by simp);have ih:=fun seen'=>NZ r f seen' (by simpa using hf) (fun m hm=>hp m (by simp[hm]))
  rw[Am];cases hc:(Nat.blt n 0||seen.any (Nat.beq n))
  ·simp only[cond_false,hg,hr,List.nil_append];rcases List.mem_cons.1 hx with rfl | hx
   ·exact Bf H 0 _ _ _ x (by simp)
   ·exact ih _ x hx
  ·simp only[cond_true];rcases List.mem_cons.1 hx with rfl | hx
   ·have hs:seen.any (Nat.beq x)=true:=by
     have hz:Nat.blt x 0=false:=rfl;rw[hz,Bool.false_or]at hc;exact hc
    obtain⟨y,hy,he⟩:=List.any_eq_true.1 hs;rw[Nat.eq_of_beq_eq_true he];exact Bf H 0 _ _ _ y hy
   ·exact ih _ x hx
theorem RE {D:Nat->Prop} {v:Value} {H H2:AA} {s:Pk} {b:Nat} {ns:List Nat} {o o1:AK} {ps:List AK} (hr:Dv s (o::ps)) (hD:b∈Af 4 v∨D b) (hl:ns.length=ps.length) (hnd:(b::ns).Nodup)
 (hg:H.get b=some o1) (hro:o1.ro=false) (hp:o1.G7=true) (hren:BV (fun i=>(b::ns)[i]?) o=some o1) (href:∀n∈ns,n∈Eu o1) (hrefs:∀n∈Eu o1,n∈ns) (hlr:(Eu o1).length<=100)
 (hps:∀(i n:Nat) (p:AK),ns[i]? = some n->ps[i]? = some p->∃p1,H.get n=some p1/\p1.ro=false/\p1.G7=true/\Eu p1=[]/\BV (fun i=>(b::ns)[i]?) p=some p1)
 (k:CE D v (DE s (b::ns) H) H2)
 (hx0:Eb s=[]:=by rfl) (hroot:∀T,¬o.void T:=by intro _;exact id):CE D v H H2:=by
 have hflat:∀n∈ns,∃p,H.get n=some p/\Eu p=[]:=by
  intro n hn;obtain⟨i,hi,e⟩:=List.getElem_of_mem hn;obtain⟨p1,h1,_,_,h4,_⟩:=hps i n _ (by rw[List.getElem?_eq_getElem hi,e]) (List.getElem?_eq_getElem (by omega));exact⟨p1,h1,h4⟩
 have hreach:∀x∈b::ns,x∈Am H 0 200 [b] []:=by
  intro x hx;rw[As hg rfl,List.append_nil,List.nil_append];rcases List.mem_cons.1 hx with rfl | hx
  ·exact Bf H 0 _ _ _ x (by simp)
  ·exact NZ _ _ _ (by omega) (fun n hn=>hflat n (hrefs n hn)) x (href x hx)
 refine .step s (o::ps) (b::ns) [b] hr (by simp) (by simp[hl]) hnd (fun x hx=>by simp at hx;rw[hx];exact hD) hreach (fun i x q hx hq=>?_) (fun q T hq=>by cases hq;exact hroot T) k;cases i with
 | zero=>cases hx;cases hq;exact⟨o1,hg,hro,hp,by rw[hx0,FX];exact hren⟩
 | succ i=>
  obtain⟨p1,h1,h2,h3,_,h5⟩:=hps i x q hx hq;exact⟨p1,h1,h2,h3,by rw[hx0,FX];exact h5⟩
def EC (H:AA):List AK->AA
 | []=>H
 | o::r=>EC (H.alloc o) r
theorem Ir:∀(l:List AK) (H:AA),(EC H l).next=H.next+l.length
 | [],_=>rfl
 | o::r,H=>by rw[EC,Ir r];show H.next+1+r.length=_;simp;omega
theorem GJ:∀(l:List AK) (H:AA) (x:Nat),(EC H l).get x=if H.next<=x then(match l[x - H.next]? with | some o=>some o | none=>H.get x)else H.get x
 | [],H,x=>by simp[EC]
 | o::r,H,x=>by
  rw[EC,GJ r];show(if H.next+1<=x then _ else _)=_
  by_cases h1:H.next+1<=x
  ·rw[if_pos h1,if_pos (by omega)];show(match r[x - (H.next+1)]? with | some o=>some o | none=>(H.alloc o).get x)=_;have e:x - H.next=(x - (H.next+1))+1:=by omega
   rw[e,List.getElem?_cons_succ];have e2:(H.alloc o).get x=H.get x:=by rw[AA.AW,if_neg (by omega)]
   rw[e2]
  ·rw[if_neg h1,AA.AW]
   by_cases h2:x=H.next
   ·subst h2;simp
   ·rw[if_neg h2,if_neg (by omega)]
theorem LR {H:AA} {b:Nat} {ro:Bool} {o o1:AK} {ps ps1:List AK} (hlt:b < H.next) (hf:∀x,H.next<=x->H.get x=none) (hl:ps1.length=ps.length) (h0:BV (EN b H.next (ps.length+1)) (L3 ro o)=some o1)
 (hps:∀(i:Nat) (p:AK),ps[i]? = some p->∃p1,ps1[i]? = some p1/\BV (EN b H.next (ps.length+1)) (L3 ro p)=some p1):KG H b ro (o::ps) (EC (H.put b o1) ps1):=by
 have hnx:(H.put b o1).next=H.next:=rfl;refine⟨by rw[Ir,hnx,hl];simp,fun x hx De=>?_,fun x hx=>?_,fun i p hp=>?_⟩
 ·rw[GJ,hnx,if_neg (by omega),AA.AQ,if_neg hx]
 ·rw[Ir,hnx]at hx;rw[GJ,hnx,if_pos (by omega),List.getElem?_eq_none (by omega)];show(H.put b o1).get x=none;rw[AA.AQ,if_neg (by omega)];exact hf x (by omega)
 ·cases i with
  | zero=>
   cases hp
   refine⟨o1,h0,?_⟩;show(EC (H.put b o1) ps1).get b=_;rw[GJ,hnx,if_neg (by omega),AA.AQ,if_pos rfl]
  | succ i=>
   obtain⟨p1,h1,h2⟩:=hps i p hp;refine⟨p1,h2,?_⟩;have e:CV b H.next (i+1)=H.next+i:=by unfold CV;rw[if_neg (by omega)];rfl
   rw[e,GJ,hnx,if_pos (by omega),show H.next+i - H.next=i by omega,h1]
theorem GD {μ ν:Ai} {a a1:Value} (hle:μ.le ν) (h:∀v',AM μ a v'->AM ν a1 v') {post:List Value}:∀(pre l':List Value),BD μ (pre++a::post) l'->BD ν (pre++a1::post) l'
 | [],_,hl=>by cases hl with | cons h1 h2=>exact .cons (h _ h1) (h2.mono hle)
 | p::pre,_,hl=>by cases hl with | cons h1 h2=>exact .cons (h1.mono hle) (GD hle h pre _ h2)
section
variable {base:Env} {W0 W:World} {μ:Ai} {H:AA}
theorem AT.ad (h:AT base W0 μ H W) {b n len e:Nat} {k:EK} {l:List (EK.C k)} {ro ro2:Bool} {pre post:List Value}
 (hb:H.get b=some (.cells (pre++ .slice (some ⟨n,0,none⟩) len (AF+len)::post) e ro)) (hn:H.get n=some (.vec k l ro2)) (hk0:k.length≠0:=by decide):
 AT base W0 μ (H.put b (.cells (pre++ .slice (some ⟨n,0,some 0⟩) len AF::post) e ro)) W:=by
 refine h.swap hb (fun T o' _ ho=>?_) rfl rfl rfl (fun _ _ hv=>hv);cases ho with
 | cells _ _ _ c t lo hi he hc hr hf=>
  refine .cells T _ e ro c t lo hi he ?_ hr hf;have hc2:=GD (a1:= .slice (some ⟨n,0,some 0⟩) len AF) (Ai.le_refl _) (fun v' hv=>M8 (j:=0) hk0 (Nat.le_refl _) (fun T hT=>h.elem hn hT) (by rw[Nat.zero_mul];exact Ht hv)) pre _ hc;have e1:(pre++Value.slice (some ⟨n,0,none⟩) len (AF+len)::post).length=(pre++Value.slice (some ⟨n,0,some 0⟩) len AF::post).length:=by simp
  rw[<-e1];exact hc2
def AA.S6 (H:AA) (n:Nat):AA:=⟨H.m,max H.next n⟩
theorem AT.S6 (h:AT base W0 μ H W) (n:Nat):AT base W0 μ (H.S6 n) W:=
 ⟨h.obj,h.own,h.inj,fun b hb=>h.fresh b (Nat.le_trans (Nat.le_max_left _ _) hb),h.bound,h.size,h.below,h.out,h.os,(let ⟨φ,a⟩:=h.abs;⟨φ,a.rep,a.ER⟩),h.le,h.grow⟩
def AA.CR (H:AA) (k:EK):AA:=(H.S6 100).alloc (.vec k [] false)
def AA.Br (H:AA):Nat:=max H.next 100
theorem AA.Dx (H:AA):100<=H.Br:=Nat.le_max_right _ _
theorem AA.CA (H:AA) (k:EK) (i:Nat):(H.CR k).get i=if i=H.Br then some (.vec k [] false)else H.get i:=AA.AW _ _ _
def Iv (μ:Ai) (x:Value):Prop:=∀v',AM μ x v'->∃a:Option (Nat × Nat),v'= .slice (a.map fun p=>⟨p.1,p.2,none⟩) 0 0
theorem EV:Iv μ (.slice none 0 0):=fun v' hv=>by cases hv;exact⟨none,rfl⟩
theorem Lq {b o:Nat}:Iv μ (.slice (some ⟨b,o,none⟩) 0 0):=fun v' hv=>by
 cases hv with
 | slice _ _ _ _ cap' o' T hm hc ho=>
  have:cap'=0:=by
   rcases hc with⟨_,hc⟩ | ⟨hc,_⟩
   ·exact hc
   ·have h0:0 < AF:=by unfold AF;decide
    omega
  subst this;exact⟨some (T.c,o'),rfl⟩
theorem AT.Kh (h:AT base W0 μ H W) {b e c:Nat} {k:EK} {ro:Bool} {x:Value} {pre post:List Value} (hc:∃T,μ c=some T) (hx:∀ν:Ai,Iv ν x)
 (hb:H.get b=some (.cells (pre++x::post) e ro)) (hb2:b < 100) (hk0:k.length≠0:=by decide):
 ∃μ2,μ.le μ2/\AT base W0 μ2 ((H.CR k).put b (.cells (pre++ .slice (some ⟨H.Br,0,some 0⟩) 0 AF::post) e ro)) W:=by
 obtain⟨T,hT⟩:=hc;obtain⟨h1,h2⟩:=(h.S6 100).CR hT hk0 false;refine⟨_,h2.le,?_⟩;have hb3:(H.CR k).get b=some (.cells (pre++x::post) e ro):=by
  rw[AA.CA,if_neg (by have:=H.Dx;omega)];exact hb
 have hs:AT base W0 _ (H.CR k) W:=h1;refine hs.swap hb3 (fun T' o' _ ho=>?_) rfl rfl rfl (fun _ _ hv=>hv);cases ho with
 | cells _ _ _ c t lo hi he hc hr hf=>
  refine .cells T' _ e ro c t lo hi he ?_ hr hf;have hc2:=GD (a1:= .slice (some ⟨H.Br,0,some 0⟩) 0 AF) (Ai.le_refl _) (fun v' hv=>by
   obtain⟨a,rfl⟩:=hx _ v' hv;exact .C8 _ 0 AF _ a (Ai.Av _ _ _) (.inr ⟨Nat.le_refl _,Nat.sub_self _⟩)) pre _ hc
  have e1:(pre++x::post).length=(pre++Value.slice (some ⟨H.Br,0,some 0⟩) 0 AF::post).length:=by simp
  rw[<-e1];exact hc2
theorem AT.ZK (h:AT base W0 μ H W) {c:Nat} {k:EK} (hc:∃T,μ c=some T) (hk0:k.length≠0:=by decide):
 ∃μ2,μ.le μ2/\AT base W0 μ2 (H.CR k) W/\AM μ2 (.slice (some ⟨H.Br,0,some 0⟩) 0 AF) (.slice none 0 0):=by
 obtain⟨T,hT⟩:=hc;obtain⟨h1,h2⟩:=(h.S6 100).CR hT hk0 false;exact⟨_,h2.le,h1,.C8 _ 0 AF _ none (Ai.Av _ _ _) (.inr ⟨Nat.le_refl _,Nat.sub_self _⟩)⟩
end
end Go.AI
namespace Go.AI
open Go.Proofs
theorem BC.dx {X:Ctx} {N:Nat} {Φ:A8->Prop} {c:A8} {H':AA} (hd:Cu c.fr.todo=true) (hds:(c.cs.all fun f=>Cu f.todo)=true) (hn:∀(base:Env) (W0:World) (μ:Ai) (W:World),AT base W0 μ c.H W->AT base W0 μ H' W)
 (hr:BC X N ⟨c.fr,c.cs,H'⟩ Φ):BC X N c Φ:=by
 intro base W0 hb hok hplan cs0 μ fr cs W hm;obtain⟨hH,hlaid,g,gs,hfr,hcs,hnd⟩:=hm;have hcs2:=Kv (ks:=[]) (H':=H') hcs hds;have e:c.cs.map (Jv [])=c.cs:=by
  refine(List.map_congr_left fun f _=>?_).trans (List.map_id _);cases f;rfl
 rw[e]at hcs2;exact hr base W0 hb hok hplan cs0 μ fr cs W ⟨hn base W0 μ W hH,hlaid,[],[],O8 hfr hd,hcs2,by simp⟩
def PF (l:List (EK.C AR)) (v:Value) (H:AA):Prop:=
 v=DW 14/\H.get 9=some (CS 10 l.length)/\H.get 10=some (.vec AR l false)/\
  ((l=[]/\H.get 14=some (.cells [.bool true,.slice none 0 0] 0 false))∨(H.get 14=some (CS 15 l.length)/\H.get 15=some (.vec AR l false)))
theorem Zu {l:List (EK.C AR)} (hn:l.length < 1000000):∀(m i:Nat),l.length - i=m->i<=l.length->Ad X0 11 Aa (PF l) (iB l i i (l.take i)):=by
 intro m;induction m with
 | zero=>
  intro i hm hi;have he:i=l.length:=by omega
  subst he;refine Gy (A6 X0) (ids:=[9,10,14,15]) (S:=fq) (ks:=ef) (by kernel_rfl) (Q:=fun v os=>v=DW 14/\∃o5,os=[some (CS 10 l.length),some (.vec AR l false),some (CS 15 l.length),some (.vec AR l false),o5]) (R:=fun _=>False) (fun v H h=>?_) (fun c h=>h.elim) 400 _ ?_
  ·obtain⟨rfl,o5,h⟩:=h;have h:[H.get 9,H.get 10,H.get 14,H.get 15,H.get 14]=_:=h;simp only[List.cons.injEq,and_true]at h;exact⟨rfl,h.1,h.2.1,.inr ⟨h.2.2.1,h.2.2.2.1⟩⟩
  ·rw[XK,List.take_length];refine AU (fun h=>absurd h (by omega)) (fun _=>⟨rfl,_,by unfold CS AF;rfl⟩)
 | succ m ih=>
  intro i hm hi;have hlt:i < l.length:=by omega
  refine Gy (A6 X0) (ids:=[9,10,14,15]) (S:=fq) (ks:=ef) (by kernel_rfl) (Q:=fun _ _=>False) (R:=fun c=>c=iB l (i+1:Nat) (i+1) (l.take (i+1))) (fun v H h=>h.elim) (fun c h=>by rw[h];exact ih (i+1) (by omega) (by omega)) 400 _ ?_;rw[XK];refine AU (fun h=>?_) (fun h=>absurd (show(i:Int) < (l.length:Int) by omega) h);refine AH (ca hlt) (AH (cb hlt) (AH ?_ ⟨rfl,?_⟩))
  ·rw[Ot (by omega)];have:Nat.ble (0+i) (List.take i l).length=true:=Nat.ble_eq_true_of_le (by rw[List.length_take];omega);rw[this];rfl
  ·have e1:IntKind.wrap .i64 ((i:Int)+1)=((i+1:Nat):Int):=by rw[wrap64 (by omega) (by omega)];rfl
   have e2:List.take i (List.drop 0 (List.take i l))++[((l.getD (0+Int.toNat (i:Int)) (EK.AZ AR)).1,(l.getD (0+Int.toNat (i:Int)) (EK.AZ AR)).2)]=l.take (i+1):=by
    rw[List.drop_zero,List.take_take,Nat.min_self,Nat.zero_add,Int.toNat_natCast,List.take_succ_eq_append_getElem hlt,List.getD_eq_getElem?_getD,List.getElem?_eq_getElem hlt];rfl
   rw[e1,e2]
theorem SN {l:List (EK.C AR)} (hn:l.length < 1000000):Ad X0 11 Aa (PF l) (st Aa 34 [p9] (BH ⟨.leaf,9⟩ (LJ l))):=by
 refine Gy (A6 X0) (ids:=[9,10]) (S:=fq) (ks:=ef) (by kernel_rfl) (Q:=fun _ _=>False) (R:=fun c=>c=jm l) (fun v H h=>h.elim) (fun c h=>?_) 400 _ ?_
 ·rw[h];refine Gy (A6 X0) (ids:=[9,10,14]) (S:=fq) (ks:=ef) (by kernel_rfl) (Q:=fun v os=>l=[]/\v=DW 14/\∃o4,os=[some (CS 10 l.length),some (.vec AR l false),some (.cells [.bool true,.slice none 0 0] 0 false),o4])
   (R:=fun c=>∃k v,l.take 1=[(k,v)]/\c=dp l 1 k v) (fun v H h=>?_) (fun c h=>?_) 400 _ ?_
  ·obtain⟨e,rfl,o4,h⟩:=h;have h:[H.get 9,H.get 10,H.get 14,H.get 14]=_:=h;simp only[List.cons.injEq,and_true]at h;exact⟨rfl,h.1,h.2.1,.inl ⟨e,h.2.2.1⟩⟩
  ·obtain⟨k,v,e,rfl⟩:=h;have h1:1<=l.length:=by
    rcases Nat.eq_zero_or_pos l.length with h | h
    ·rw[List.length_eq_zero_iff.1 h]at e;cases e
    ·exact h
   have hl:=Zu hn (l.length - 1) 1 rfl h1;rw[e]at hl;refine BC.dx (H':=((dp l 1 k v).H.put 15 (.vec AR [(k,v)] false)).put 14 (.cells ([.bool true]++ .slice (some ⟨15,0,some 0⟩) 1 AF::[]) 0 false)) (by rfl) (by rfl) (fun base W0 μ W hH=>?_) ?_
   ·have g1:(dp l 1 k v).H.get 15=some (.cells (A2 AR [(k,v)]) AR.length false):=by kernel_rfl
    have g3:(dp l 1 k v).H.get 14=some (.cells [.bool true,.slice (some ⟨15,0,none⟩) 1 18446744073709551617] 0 false):=by kernel_rfl
    have g2:=hH.Mu g1;refine g2.ad (n:=15) (len:=1) (pre:=[.bool true]) (post:=[]) (l:=[(k,v)]) (ro2:=false) ?_ (by rw[AA.AQ,if_pos rfl]);rw[AA.AQ,if_neg (by decide),g3];unfold AF;rfl
   ·have e3:(⟨(dp l 1 k v).fr,(dp l 1 k v).cs,((dp l 1 k v).H.put 15 (.vec AR [(k,v)] false)).put 14 (.cells ([.bool true]++ .slice (some ⟨15,0,some 0⟩) 1 AF::[]) 0 false)⟩:A8)=iB l 1 1 [(k,v)]:=by kernel_rfl
    rw[e3];exact hl
  ·rw[fH];refine AU (fun h=>?_) (fun h=>?_)
   ·have hp:0 < l.length:=by omega
    have hb:Nat.blt 0 l.length=true:=Nat.ble_eq_true_of_le hp;refine AH (by rw[hb];rfl) (AH hb ⟨rfl,_,_,?_,rfl⟩);cases l with
    | nil=>cases hp
    | cons x l=>rfl
   ·have h0:l=[]:=List.length_eq_zero_iff.1 (by omega);exact⟨h0,rfl,_,by unfold CS AF;rfl⟩
 ·rw[fl];exact AH (by simp) rfl
end Go.AI
namespace Go.AI
theorem JS {μ:Ai} {b o m cap:Nat} {s:Option Nat} {v':Value} (h:AM μ (.slice (some ⟨b,o,s⟩) m cap) v'):∃T,μ b=some T:=by
 cases h with
 | slice _ _ _ _ _ _ T h _ _=>exact⟨T,h⟩
 | Bw _ _ _ _ _ _ T h _ _ _=>exact⟨T,h⟩
 | C8 _ _ _ T _ h _=>exact⟨T,h⟩
 | Cf _ _ _ _ _ _ T _ h _ _ _ _=>exact⟨T,h⟩
 | Er _ _ _ T _ h _=>exact⟨T,h⟩
theorem Up {μ:Ai} {b o:Nat} {s:Option Nat} {v':Value} (h:AM μ (.pointer (some ⟨b,o,s⟩)) v'):∃T,μ b=some T:=by
 cases h with
 | ptr _ _ T h=>exact⟨T,h⟩
 | Gt _ _ _ T h=>exact⟨T,h⟩
theorem BC.WM {X:Ctx} {N:Nat} {Φ:A8->Prop} {fn:FuncId} {t:Tr Value} {n:Nat} {todo:List CN} {ds:List Deferred} {r:Bool} {kd:CallKind} {rd:Option Nat} {cs:List Ah} {H:AA} (i j:Nat) (k:EK) {b o m cap:Nat} {s:Option Nat}
 (hd:Cu todo=true) (hi:look t i= .slice none 0 0) (hj:look t j= .slice (some ⟨b,o,s⟩) m cap) (hk:k.length≠0)
 (hr:BC X N ⟨⟨fn,t.put i (some (.slice (some ⟨H.next,0,some 0⟩) 0 AF)),n,todo,ds,r,kd,rd⟩,cs,H.alloc (.vec k [] false)⟩ Φ):BC X N ⟨⟨fn,t,n,todo,ds,r,kd,rd⟩,cs,H⟩ Φ:=by
 intro base W0 hb hok hplan cs0 μ fr cs' W hm;obtain⟨hH,hlaid,g,gs,hfr,hcs,hnd⟩:=hm;cases hfr with
 | plain fn t n tm todo todo' ds ds' r kd rd rd' ht hi2 hd2 hr2=>
  have hj2:=ht.2 j;rw[hj]at hj2;obtain⟨T,hT⟩:=JS hj2;obtain⟨h1,h2⟩:=hH.CR hT hk false;refine hr base W0 hb hok hplan cs0 _ _ cs' W ⟨h1,hlaid.mono h2.le,[],gs,.plain fn _ n tm todo todo' ds ds' r kd rd rd' ⟨ht.1,fun u=>?_⟩ (hi2.mono h2.le) (hd2.mono h2.le) (hr2.mono h2.le),hcs.mono (h2.keeps _),by simpa using hnd⟩
  by_cases hu:u=i
  ·subst hu;have hi3:=ht.2 u;rw[hi]at hi3;rw[Db];generalize tm.getD u Go.undef=w at hi3;cases hi3
   exact .C8 _ 0 AF _ none (Ai.Av _ _ _) (.inr ⟨Nat.le_refl _,Nat.sub_self _⟩)
  ·rw[Dw _ _ hu];exact(ht.2 u).mono h2.le
 | drawn fn t n tm ops Bu idx D G k k' ds ds' kd rd rd' hD hk2 hd2 hr2=>cases hd
theorem BC.WC {X:Ctx} {N:Nat} {Φ:A8->Prop} {fn:FuncId} {t:Tr Value} {n:Nat} {todo:List CN} {ds:List Deferred} {r:Bool} {kd:CallKind} {rd:Option Nat} {cs:List Ah} {H:AA} (b j:Nat) (k:EK) (pre post:List Value) {e:Nat} {ro:Bool}
 (hd:Cu todo=true) (hds:(cs.all fun f=>Cu f.todo)=true) (hj:∀(ν:Ai) v',AM ν (look t j) v'->∃c T,ν c=some T) (hb:H.get b=some (.cells (pre++ .slice none 0 0::post) e ro)) (hk:k.length≠0)
 (hr:BC X N ⟨⟨fn,t,n,todo,ds,r,kd,rd⟩,cs,(H.alloc (.vec k [] false)).put b (.cells (pre++ .slice (some ⟨H.next,0,some 0⟩) 0 AF::post) e ro)⟩ Φ):BC X N ⟨⟨fn,t,n,todo,ds,r,kd,rd⟩,cs,H⟩ Φ:=by
 intro base W0 hb0 hok hplan cs0 μ fr cs' W hm;obtain⟨hH,hlaid,g,gs,hfr,hcs,hnd⟩:=hm;cases hfr with
 | plain fn t n tm todo todo' ds ds' r kd rd rd' ht hi2 hd2 hr2=>
  have hj2:=ht.2 j;obtain⟨_,T,hT⟩:=hj _ _ hj2;obtain⟨h1,h2⟩:=hH.CR hT hk false;have hlt:b < H.next:=hH.lt hb;have hb3:(H.alloc (.vec k [] false)).get b=some (.cells (pre++ .slice none 0 0::post) e ro):=by
   rw[AA.AW,if_neg (by omega)];exact hb
  have h3:=h1.swap (o1:= .cells (pre++ .slice (some ⟨H.next,0,some 0⟩) 0 AF::post) e ro) hb3 (fun T' o' _ ho=>by
   cases ho with
   | cells _ _ _ c t lo hi he hc hr hf=>
    refine .cells T' _ e ro c t lo hi he ?_ hr hf;have hc2:=GD (a1:= .slice (some ⟨H.next,0,some 0⟩) 0 AF) (Ai.le_refl _) (fun v' hv=>by
     cases hv
     exact .C8 _ 0 AF _ none (Ai.Av _ _ _) (.inr ⟨Nat.le_refl _,Nat.sub_self _⟩)) pre _ hc
    have e1:(pre++Value.slice none 0 0::post).length=(pre++Value.slice (some ⟨H.next,0,some 0⟩) 0 AF::post).length:=by simp
    rw[<-e1];exact hc2) rfl rfl rfl (fun _ _ hv=>hv)
  have hcs2:=Kv (ks:=[]) (H':=(H.alloc (.vec k [] false)).put b (.cells (pre++ .slice (some ⟨H.next,0,some 0⟩) 0 AF::post) e ro)) (hcs.mono (h2.keeps _)) hds;have e:cs.map (Jv [])=cs:=by
   refine(List.map_congr_left fun f _=>?_).trans (List.map_id _);cases f;rfl
  rw[e]at hcs2;exact hr base W0 hb0 hok hplan cs0 _ _ cs' W ⟨h3,hlaid.mono h2.le,[],[],.plain fn t n tm todo todo' ds ds' r kd rd rd' (ht.mono h2.le) (hi2.mono h2.le) (hd2.mono h2.le) (hr2.mono h2.le),hcs2,by simp⟩
 | drawn fn t n tm ops Bu idx D G k k' ds ds' kd rd rd' hD hk2 hd2 hr2=>cases hd
theorem BC.RC {X:Ctx} {N:Nat} {Φ:A8->Prop} {fn:FuncId} {t:Tr Value} {n:Nat} {todo:List CN} {ds:List Deferred} {r:Bool} {kd:CallKind} {rd:Option Nat} {cs:List Ah} {H:AA} (b j:Nat) (k:EK) (pre post:List Value) {e:Nat} {ro:Bool} {b' o m cap:Nat} {s:Option Nat}
 (hd:Cu todo=true) (hds:(cs.all fun f=>Cu f.todo)=true) (hj:look t j= .slice (some ⟨b',o,s⟩) m cap) (hb:H.get b=some (.cells (pre++ .slice none 0 0::post) e ro)) (hk:k.length≠0)
 (hr:BC X N ⟨⟨fn,t,n,todo,ds,r,kd,rd⟩,cs,(H.alloc (.vec k [] false)).put b (.cells (pre++ .slice (some ⟨H.next,0,some 0⟩) 0 AF::post) e ro)⟩ Φ):BC X N ⟨⟨fn,t,n,todo,ds,r,kd,rd⟩,cs,H⟩ Φ:=
 WC b j k pre post hd hds (fun _ _ h=>by rw[hj]at h;obtain⟨T,hT⟩:=JS h;exact⟨_,T,hT⟩) hb hk hr
section
variable {X:Ctx} {N:Nat} {D:Nat->Prop} {f:FuncId} {Q Q':Value->AA->Prop}
theorem Aq.Z4 {c:A8} {b:Nat} {rs:List Nat} {s:Pk} {ro:Bool} (hD:∀x∈rs,D x) (hreach:b∈Am c.H 0 200 rs []) (hb:c.H.get b=some (.abs (.pack s) ro)) (hp:∀ops p k,c.fr.todo≠ .Dp ops p::k)
 (h:∀objs,Dv s objs->∃H',KG c.H b ro objs H' (Eb s)/\Aq X N D f Q ⟨c.fr,c.cs,H'⟩):Aq X N D f Q c:=by
 intro base W0 hb0 hDm hok hplan cs0 μ fr cs W hm;obtain⟨hH,hlaid,g,gs,hfr,hcs,hnd⟩:=hm;have hr2:=FA hH (N:=0) 200 rs [] (fun b hb=>by
  obtain⟨T,hT⟩:=hDm b (hD b hb);exact⟨T,hH.le b T hT⟩) ⟨List.nodup_nil,fun b hb=>by cases hb⟩
 obtain⟨T,hT⟩:=(hr2.2 b hreach).2;obtain⟨objs,hr,ho⟩:=hH.opened hb hT;obtain⟨H',hO,hrun⟩:=h objs hr;obtain⟨μ',hH',hE⟩:=ho H' hO;refine hrun base W0 hb0 hDm hok hplan cs0 μ' fr cs W ⟨hH',hlaid.mono hE.le,g,gs,?_,hcs.mono (hE.keeps _),hnd⟩;obtain⟨f0,cs1,H1⟩:=c;cases hfr with
 | plain fn t n tm todo todo' ds ds' r kd rd rd' ht hi hd hr=>exact .plain fn t n tm todo todo' ds ds' r kd rd rd' (ht.mono hE.le) (hi.mono hE.le) (hd.mono hE.le) (hr.mono hE.le)
 | drawn fn t n tm ops Bu idx D G k k' ds ds' kd rd rd' hD hk hd hr=>exact absurd rfl (hp ops Bu k)
end
theorem eT {D:Nat->Prop} {v:Value} {H H2:AA} {s:Pk} {b:Nat} {rs:List Nat} {o o1:AK} (hr:Dv s [o]) (hD:∀b∈rs,b∈Af 4 v∨D b) (hb:b∈Am H 0 200 rs []) (hg:H.get b=some o1) (hro:o1.ro=false) (hp:o1.G7=true) (hren:BV (fun i=>[b][i]?) o=some o1)
 (k:CE D v (DE s [b] H) H2)
 (hx0:Eb s=[]:=by rfl) (hroot:∀T,¬o.void T:=by intro _;exact id):CE D v H H2:=by
 refine .step s [o] [b] rs hr (by simp) rfl (by simp) hD (fun x hx=>by simp at hx;rw[hx];exact hb) (fun i x q hx hq=>?_) (fun q T hq=>by cases hq;exact hroot T) k;cases i with
 | zero=>cases hx;cases hq;exact⟨o1,hg,hro,hp,by rw[hx0,FX];exact hren⟩
 | succ i=>cases i<;>cases hx
theorem OA {D:Nat->Prop} {v:Value} {H H2:AA} {s:Pk} {b n:Nat} {rs:List Nat} {o o1 p p1:AK} (hr:Dv s [o,p]) (hD:∀b∈rs,b∈Af 4 v∨D b) (hb:b∈Am H 0 200 rs []) (hn:n∈Am H 0 200 rs []) (hne:n≠b) (hg:H.get b=some o1) (hro:o1.ro=false) (hp:o1.G7=true) (hren:BV (fun i=>[b,n][i]?) o=some o1)
 (hg2:H.get n=some p1) (hro2:p1.ro=false) (hp2:p1.G7=true) (hren2:BV (fun i=>[b,n][i]?) p=some p1) (k:CE D v (DE s [b,n] H) H2)
 (hx0:Eb s=[]:=by rfl) (hroot:∀T,¬o.void T:=by intro _;exact id):CE D v H H2:=by
 refine .step s [o,p] [b,n] rs hr (by simp) rfl (by simp[Ne.symm hne]) hD (fun x hx=>?_) (fun i x q hx hq=>?_) (fun q T hq=>by cases hq;exact hroot T) k
 ·simp at hx;rcases hx with rfl | rfl
  ·exact hb
  ·exact hn
 ·cases i with
  | zero=>cases hx;cases hq;exact⟨o1,hg,hro,hp,by rw[hx0,FX];exact hren⟩
  | succ i=>cases i with
   | zero=>cases hx;cases hq;exact⟨p1,hg2,hro2,hp2,by rw[hx0,FX];exact hren2⟩
   | succ i=>cases i<;>cases hx
theorem AT.Q3 {base:Env} {W0 W:World} {μ:Ai} {H:AA} (h:AT base W0 μ H W) {b n len cap e:Nat} {k:EK} {l:List (EK.C k)} {ro ro2:Bool} {pre post:List Value}
 (hb:H.get b=some (.cells (pre++ .slice (some ⟨n,0,none⟩) len cap::post) e ro)) (hn:H.get n=some (.vec k l ro2)) (h0:0 < cap) (hl:len<=cap) (hlen:cap<=l.length) (hcap:cap<=9223372036854775807) (hk0:0 < k.length:=by decide):
 AT base W0 μ (H.put b (.cells (pre++ .slice (some ⟨n,0,some 0⟩) len AF::post) e ro)) W:=by
 refine h.swap hb (fun T o' _ ho=>?_) rfl rfl rfl (fun _ _ hv=>hv);cases ho with
 | cells _ _ _ c t lo hi he hc hr hf=>
  refine .cells T _ e ro c t lo hi he ?_ hr hf;have hc2:=GD (a1:= .slice (some ⟨n,0,some 0⟩) len AF) (Ai.le_refl _) (fun v' hv=>by
   cases hv with
   | slice _ _ _ _ cap' o' T' hm hcr ho=>
    have hcu:cap < AF:=by unfold AF;omega
    have hcap':cap'=cap:=by
     rcases hcr with⟨_,h2⟩ | ⟨h2,_⟩
     ·exact h2
     ·omega
    subst hcap';have hel:=h.elem hn hm;obtain⟨q,hq,hor⟩:=h.obj n _ hn T' hm;have hrow:l.length * k.length<=T'.r:=by
     cases hor with
     | vec _ _ _ _ hcs=>cases hcs with
      | cells _ _ _ c2 t2 lo2 hi2 he2 hc2 hr2 hf2=>
       have:=hc2.length;have e2:c2.toList.length=T'.d+T'.r:=by rw[Array.length_toList];exact hr2
       have e3:(A2 k l).length=l.length * k.length:=CM _ _;rw[List.length_take,List.length_drop,e2,e3]at this;omega
     | Ei _ _ _ _ _ _=>simp at hlen;omega
    have hmul:cap' * k.length<=T'.r:=Nat.le_trans (Nat.mul_le_mul_right _ hlen) hrow;have hpos:0 < cap' * k.length:=Nat.mul_pos h0 hk0;refine .Bw n 0 len AF cap' o' T' hm (.inr ⟨Nat.le_refl _,by omega,hl,by rw[hel];omega,.inr hcap⟩) ?_ (by omega);rcases ho with ho | ho
    ·exact .inl (by omega)
    ·exact .inr ho) pre _ hc
  have e1:(pre++Value.slice (some ⟨n,0,none⟩) len cap::post).length=(pre++Value.slice (some ⟨n,0,some 0⟩) len AF::post).length:=by simp
  rw[<-e1];exact hc2
theorem Ad.lower {X:Ctx} {N N':Nat} {f:FuncId} {Q:Value->AA->Prop} {c:A8} (hle:N<=N') (h:Ad X N' f Q c):Ad X N f Q c:=
 fun base W0 hb=>h base W0 fun b T e=>Nat.lt_of_lt_of_le (hb b T e) hle
end Go.AI
namespace Go.AI
open Go.Proofs
def PW (args:List Value) (objs:List AK):GT:=
 match args,objs with
 | [.pointer (some ⟨9,0,none⟩)],[.abs (.pack (.table l)) _]=> .ask (l.length < 1000000) (.ret ⟨.pointer (some ⟨10,0,none⟩),[some (.abs (.pack (.table l)) false)],[.abs (.pack (.table l)) false]⟩)
 | _,_=> .fail
theorem Zv {b:Nat} {l:List (EK.C AR)} {H:AA} (hb:10<=b) (h9:H.get 9=some (.abs (.pack (.table l)) false)) (h:H.get b=some (.abs (.pack (.table l)) false)):
 CY AL 9 1 [true] ⟨.pointer (some ⟨10,0,none⟩),[some (.abs (.pack (.table l)) false)],[.abs (.pack (.table l)) false]⟩ (DW b) H:=by
 refine⟨[b],by simp,fun c hc=>by simp at hc;omega,rfl,rfl,fun j c p hj hp=>?_,fun j o hj hm ho=>?_⟩
 ·cases j with
  | zero=>cases hj;cases hp;exact⟨_,rfl,h⟩
  | succ j=>cases j<;>cases hj
 ·cases j with
  | zero=>cases ho;exact⟨_,rfl,h9⟩
  | succ j=>omega
theorem Oh {l:List (EK.C AR)} (hn:l.length < 1000000):Aq X0 10 (fun b=>9<=b/\b < 10) Aa (fun v H=>∃b,10<=b/\v=DW b/\H.get 9=some (.abs (.pack (.table l)) false)/\H.get b=some (.abs (.pack (.table l)) false)) (st Aa 34 [p9] (IJ l)):=by
 refine Aq.shut (Q:=fun v H=>(l=[]/\v=DW 10/\H.get 9=some (.cells [.bool true,.slice none 0 0] 0 false)/\H.get 10=some (.cells [.bool true,.slice none 0 0] 0 false))∨PF l v H) ?_ ?_
 ·show Aq X0 10 (fun b=>9<=b/\b < 10) Aa _ (st Aa 34 [p9] (IJ l));refine Aq.opened (b:=9) (s:= .table l) (ro:=false) ⟨by omega,by omega⟩ (by rfl) (fun ops p k h=>by cases h) fun objs hr=>?_
  cases hr with
  | DC=>
   have hE:Ad X0 10 Aa (fun v H=>v=DW 10/\H.get 9=some (.cells [.bool true,.slice none 0 0] 0 false)/\H.get 10=some (.cells [.bool true,.slice none 0 0] 0 false)) (st Aa 34 [p9] (BH ⟨.leaf,9⟩ Nz)):=by
    refine(BW.Fk (Bt (A6 X0) (ids:=[9]) (Q:=fun v os=>v=DW 10/\os=[some (.cells [.bool true,.slice none 0 0] 0 false),some (.cells [.bool true,.slice none 0 0] 0 false)]) 400 _ (by rw[eS];exact⟨rfl,rfl⟩))).mono ?_;rintro v H ⟨rfl,h⟩;have h:[H.get 9,H.get 10]=_:=h;simp only[List.cons.injEq,and_true]at h;exact⟨rfl,h.1,h.2⟩
   have hN:Aq X0 10 (fun b=>9<=b/\b < 10) Aa (fun v H=>(([]:List (EK.C AR))=[]/\v=DW 10/\H.get 9=some (.cells [.bool true,.slice none 0 0] 0 false)/\H.get 10=some (.cells [.bool true,.slice none 0 0] 0 false))∨PF [] v H) (st Aa 34 [p9] ((IJ []).put 9 (.cells [.bool true,.slice none 0 0] 0 false))):=by
    rw[M4];exact hE.IC.mono fun v H h=> .inl ⟨rfl,h⟩
   exact⟨_,Kd (H:=IJ []) (b:=9) (ro:=false) (o1:= .cells [.bool true,.slice none 0 0] 0 false) (show 9 < 10 by decide) (HB []) rfl,hN⟩
  | table l=>
   have hN:Aq X0 10 (fun b=>9<=b/\b < 10) Aa (fun v H=>(l=[]/\v=DW 10/\H.get 9=some (.cells [.bool true,.slice none 0 0] 0 false)/\H.get 10=some (.cells [.bool true,.slice none 0 0] 0 false))∨PF l v H) (st Aa 34 [p9] (((IJ l).put 9 (.cells [.bool true,.slice (some ⟨10,0,some 0⟩) l.length AF] 0 false)).alloc (.vec AR l false))):=by
    rw[Md];exact(Ad.lower (by decide) (SN hn)).IC.mono fun v H h=> .inr h
   exact⟨_,Hn (H:=IJ l) (b:=9) (ro:=false) (o1:= .cells [.bool true,.slice (some ⟨10,0,some 0⟩) l.length AF] 0 false) (p1:= .vec AR l false) (show 9 < 10 by decide) (HB l) rfl rfl,hN⟩
 ·have hD9:∀v:Value,9∈Af 4 v∨(9<=9/\9 < 10):=fun v=> .inr ⟨Nat.le_refl 9,Nat.lt_succ_self 9⟩
  rintro v H (⟨rfl,rfl,h9,h10⟩ | ⟨rfl,h9,h10,h14⟩)
  ·have s1:=B6 (s:= .table []) (bs:=[9]) (H:=H) (by simp);have k10:=s1.C2 10 (by simp);rw[h10]at k10;have s2:=B6 (s:= .table []) (bs:=[10]) (H:=DE (.table []) [9] H) (by simp);refine⟨DE (.table []) [10] (DE (.table []) [9] H),No (s:= .table []) (o:= .cells [.bool true,.slice none 0 0] 0 false) .DC (hD9 _) h9 rfl rfl rfl
    (No (s:= .table []) (o:= .cells [.bool true,.slice none 0 0] 0 false) .DC (.inl (by simp[Af,DW])) k10 rfl rfl rfl (.refl _)),10,Nat.le_refl _,rfl,?_,s2.root 10 rfl⟩
   rw[s2.C2 9 (by simp)];exact s1.root 9 rfl
  ·have s1:=B6 (s:= .table l) (bs:=[9,10]) (H:=H) (by simp);have k14:=s1.C2 14 (by simp);have k15:=s1.C2 15 (by simp);rcases h14 with⟨e,h14⟩ | ⟨h14,h15⟩
   ·rw[h14]at k14;have s2:=B6 (s:= .table l) (bs:=[14]) (H:=DE (.table l) [9,10] H) (by simp);refine⟨DE (.table l) [14] (DE (.table l) [9,10] H),O2 (s:= .table l) (b:=9) (n:=10) (.table l) (hD9 _) (by decide) h9 rfl rfl rfl rfl h10 rfl rfl rfl
     (No (s:= .table l) (o:= .cells [.bool true,.slice none 0 0] 0 false) (by rw[e];exact .DC) (.inl (by simp[Af,DW])) k14 rfl rfl rfl (.refl _)),14,by decide,rfl,?_,s2.root 14 rfl⟩
    rw[s2.C2 9 (by simp)];exact s1.root 9 rfl
   ·rw[h14]at k14;rw[h15]at k15;have s2:=B6 (s:= .table l) (bs:=[14,15]) (H:=DE (.table l) [9,10] H) (by simp);refine⟨DE (.table l) [14,15] (DE (.table l) [9,10] H),O2 (s:= .table l) (b:=9) (n:=10) (.table l) (hD9 _) (by decide) h9 rfl rfl rfl rfl h10 rfl rfl rfl
     (O2 (s:= .table l) (b:=14) (n:=15) (.table l) (.inl (by simp[Af,DW])) (by decide) k14 rfl rfl rfl rfl k15 rfl rfl rfl (.refl _)),14,by decide,rfl,?_,s2.root 14 rfl⟩
    rw[s2.C2 9 (by simp)];exact s1.root 9 rfl
theorem U5:C3 Tryz.prog AL Aa (Al AL 9 [true] PW):=by
 refine BY (A4.nil _ _) (by kernel_rfl) (n:=34) (by kernel_rfl) (by kernel_rfl) fun argsc objs x hx hro=>?_
 unfold PW at hx;split at hx
 ·rename_i l ro;simp only[GT.run]at hx;split at hx
  ·rename_i hn;cases hx
   have hr0:ro=false:=hro 0 _ rfl rfl;subst hr0;refine⟨by simp,?_⟩;exact Aq.mono (Oh hn) fun v H ⟨b,hb,e,h9,h⟩=>e ▸ Zv hb h9 h
  ·cases hx
 ·cases hx
abbrev BL:EK:=[.bool,.str,.str]
def MS (m:AB):List AK:=[.cells (BN m 10 11 (.slice (some ⟨12,0,some 0⟩) m.AJ.length AF)) 0 false,.abs (.pack (.table m.base)) false,.abs (.pack (.table m.now)) false,.vec BL m.AJ false]
def jb:List (FuncId × Cn):=[(B5,Al AL 9 [true] BF.G),(B3,Al AL 9 [true] J2.G),(BP,Al AL 9 [true] Jt.G),(Ce,Al AL 9 [true] e7.G),(Aa,Al AL 9 [true] PW),(DS,Al AL 9 [] UI)]
def XM:Ctx:=Cx Tryz.prog AL jb
def VV:Pf:=fun g=>bif Nat.beq g B5 then some (BU AL 9 [true] BF.G)else bif Nat.beq g B3 then some (BU AL 9 [true] J2.G)else bif Nat.beq g BP then some (BU AL 9 [true] Jt.G)else
 bif Nat.beq g Ce then some (BU AL 9 [true] e7.G)else bif Nat.beq g Aa then some (BU AL 9 [true] PW)else bif Nat.beq g DS then some (BU AL 9 [] UI)else C4 g
def FT (H:AA) (m:AB):Prop:=∃b n x,b≠9/\n≠9/\b≠n/\x≠9/\x≠b/\x≠n/\H.get b=some (.abs (.pack (.table m.base)) false)/\H.get n=some (.abs (.pack (.table m.now)) false)/\
 H.get 9=some (.cells (BN m b n (.slice (some ⟨x,0,some 0⟩) m.AJ.length AF)) 0 false)/\H.get x=some (.vec BL m.AJ false)
structure CP where
 ok:AB->List Value->Prop
 v:AB->List Value->Value
 nx:AB->List Value->AB
def CP.G (q:CP) (args:List Value) (objs:List AK):GT:=
 match args,objs with
 | .pointer (some ⟨9,0,none⟩)::rest,[.abs (.pack (.model m)) _]=> .ask (q.ok m rest) (.ret ⟨q.v m rest,[some (.abs (.pack (.model (q.nx m rest))) false)],[]⟩)
 | _,_=> .fail
def MC (m:AB):AA:=BH ⟨.leaf,9⟩ [.abs (.pack (.model m)) false]
theorem Ql (m:AB):∀x,10<=x->(MC m).get x=none:=by
 intro x hx;unfold MC;rw[Ev];show(if x < 9 then _ else _)=_;rw[if_neg (by omega),List.getElem?_eq_none (by simp;omega)];rfl
def SC (m:AB) (u:Value):AK:= .cells (BN m 10 11 u) 0 false
theorem O7 (m:AB):EC ((MC m).put 9 (SC m (.slice (some ⟨12,0,some 0⟩) m.AJ.length AF))) [.abs (.pack (.table m.base)) false,.abs (.pack (.table m.now)) false,.vec BL m.AJ false]=BH ⟨.leaf,9⟩ (MS m):=by kernel_rfl
theorem dR {v:Value} {H:AA} {s:Pk} (hv:Ct 6 v=true) (h:H.get 9=some (.abs (.pack s) false)):CY AL 9 1 [true] ⟨v,[some (.abs (.pack s) false)],[]⟩ v H:=by
 refine⟨[],List.nodup_nil,fun b hb=>(by cases hb),rfl,IZ 6 v hv,fun j b o hj=>(by cases hj),fun j o hj hm ho=>?_⟩;cases j with
 | zero=>cases ho;exact⟨_,rfl,h⟩
 | succ j=>omega
theorem QF {D:Nat->Prop} {v:Value} {H:AA} {m:AB} (hD:D 9) (h:FT H m):∃H2,CE D v H H2/\H2.get 9=some (.abs (.pack (.model m)) false):=by
 obtain⟨b,n,x,hb,hn,hbn,hx,hxb,hxn,gb,gn,g9,gx⟩:=h;have hnd:(9::[b,n,x]).Nodup:=by simp[Ne.symm hb,Ne.symm hn,hbn,Ne.symm hx,Ne.symm hxb,Ne.symm hxn]
 refine⟨DE (.model m) (9::[b,n,x]) H,RE (s:= .model m) (ns:=[b,n,x]) (.model m) (.inr hD) rfl hnd g9 rfl rfl rfl ?_ ?_ (Nat.le_of_ble_eq_true rfl) ?_ (.refl _),(B6 hnd).root 9 rfl⟩
 ·intro y hy;exact hy
 ·intro y hy;exact hy
 ·intro i y p hy hp;cases i with
  | zero=>cases hy;cases hp;exact⟨_,gb,rfl,rfl,rfl,rfl⟩
  | succ i=>cases i with
   | zero=>cases hy;cases hp;exact⟨_,gn,rfl,rfl,rfl,rfl⟩
   | succ i=>cases i with
    | zero=>cases hy;cases hp;exact⟨_,gx,rfl,rfl,rfl,rfl⟩
    | succ i=>cases i<;>cases hy
theorem Qs {fs:List (FuncId × Cn)} (hfs:A4 Tryz.prog AL fs) {f:FuncId} {n:Nat} (he:entry Tryz.prog f=some (n,BI Tryz.prog f [])) {q:CP}
 (hrun:∀m rest,q.ok m rest->rest.length+1<=n/\Ct 6 (q.v m rest)=true/\
  Aq (Cx Tryz.prog AL fs) 10 (fun b=>9<=b/\b < 10) f (fun v H=>v=q.v m rest/\FT H (q.nx m rest)) (st f n (p9::rest) (BH ⟨.leaf,9⟩ (MS m)))):C3 Tryz.prog AL f (Al AL 9 [true] q.G):=by
 refine BY hfs (by kernel_rfl) he (by kernel_rfl) fun argsc objs x hx hro=>?_
 unfold CP.G at hx;split at hx
 ·rename_i rest m ro;simp only[GT.run]at hx;split at hx
  ·rename_i hok;cases hx
   have hr0:ro=false:=hro 0 _ rfl rfl;subst hr0;obtain⟨g1,g2,g5⟩:=hrun m rest hok;refine⟨by simpa using g1,?_⟩;refine Aq.shut (Q:=fun v H=>v=q.v m rest/\FT H (q.nx m rest)) ?_ ?_
   ·show Aq (Cx Tryz.prog AL fs) 10 (fun b=>9<=b/\b < 10) f _ (st f n (p9::rest) (MC m));refine Aq.opened (b:=9) (s:= .model m) (ro:=false) ⟨by omega,by omega⟩ (by rfl) (fun ops p k h=>by cases h) fun objs hr=>?_
    cases hr with
    | model=>
     have hN:Aq (Cx Tryz.prog AL fs) 10 (fun b=>9<=b/\b < 10) f (fun v H=>v=q.v m rest/\FT H (q.nx m rest)) (st f n (p9::rest) (EC ((MC m).put 9 (SC m (.slice (some ⟨12,0,some 0⟩) m.AJ.length AF))) [.abs (.pack (.table m.base)) false,.abs (.pack (.table m.now)) false,.vec BL m.AJ false])):=by
      rw[O7];exact g5
     refine⟨_,LR (H:=MC m) (b:=9) (ro:=false) (o1:=SC m (.slice (some ⟨12,0,some 0⟩) m.AJ.length AF)) (ps1:=[.abs (.pack (.table m.base)) false,.abs (.pack (.table m.now)) false,.vec BL m.AJ false]) (show 9 < 10 by decide) (Ql m) rfl rfl (fun i p hp=>?_),hN⟩;cases i with
     | zero=>cases hp;exact⟨_,rfl,rfl⟩
     | succ i=>cases i with
      | zero=>cases hp;exact⟨_,rfl,rfl⟩
      | succ i=>cases i with
       | zero=>cases hp;exact⟨_,rfl,rfl⟩
       | succ i=>cases i<;>cases hp
   ·rintro v H ⟨rfl,hT⟩;obtain⟨H2,k1,k2⟩:=QF (D:=fun b=>9<=b/\b < 9+[AK.abs (.pack (.model m)) false].length) (v:=q.v m rest) ⟨Nat.le_refl 9,Nat.lt_succ_self 9⟩ hT;exact⟨H2,k1,dR g2 k2⟩
  ·cases hx
 ·cases hx
theorem Mc {fs:List (FuncId × Cn)} (hfs:A4 Tryz.prog AL fs) {f:FuncId} {n:Nat} (he:entry Tryz.prog f=some (n,BI Tryz.prog f [])) {q:CP}
 (hrun:∀m rest,q.ok m rest->rest.length+1<=n/\Ct 6 (q.v m rest)=true/\
  Ad (Cx Tryz.prog AL fs) 10 f (fun v H=>v=q.v m rest/\FT H (q.nx m rest)) (st f n (p9::rest) (BH ⟨.leaf,9⟩ (MS m)))):C3 Tryz.prog AL f (Al AL 9 [true] q.G):=
 Qs hfs he fun m rest h=>⟨(hrun m rest h).1,(hrun m rest h).2.1,(hrun m rest h).2.2.IC⟩
theorem G0:Eg XM VV:=Ap (fun _ _ _ h=>A9 (by kernel_rfl) h) (Ap (fun _ _ _ h=>A9 (by kernel_rfl) h) (Ap (fun _ _ _ h=>A9 (by kernel_rfl) h) (Ap (fun _ _ _ h=>A9 (by kernel_rfl) h)
 (Ap (fun _ _ _ h=>A9 (by kernel_rfl) h) (Ap (fun _ _ _ h=>A9 (by kernel_rfl) h) (A6 _))))))
theorem allM:A4 Tryz.prog AL jb:=A4.cons Zr (A4.cons cQ (A4.cons ag (A4.cons bQ (A4.cons U5 (A4.cons Zf (A4.nil _ _))))))
def Bi (l:List (ByteArray × ByteArray)):AK:= .abs (.pack (.table l)) false
theorem NV {D:Nat->Prop} {v x:Value} {H:AA} {m:AB} {r b n:Nat} (hx:∀ν:Ai,Iv ν x) (hu:m.AJ=[]) (hb:b≠r) (hn:n≠r) (hbn:b≠n) (hr1:r < 100) (hb1:b < 100) (hn1:n < 100)
 (g9:H.get r=some (.cells (BN m b n x) 0 false)) (_gb:H.get b=some (Bi m.base)) (_gn:H.get n=some (Bi m.now)) (hD:∃c,D c):
 ∃v2 H2,(∀(base:Env) (W0:World) (μ:Ai) (W:World) (v':Value),(∀b,D b->∃T,μ b=some T)->AM μ v v'->AT base W0 μ H W->∃μ2,μ.le μ2/\AT base W0 μ2 H2 W/\AM μ2 v2 v')/\v2=v/\
  (∃z,100<=z/\(r::[b,n,z]).Nodup/\H2.get r=some (.cells (BN m b n (.slice (some ⟨z,0,some 0⟩) m.AJ.length AF)) 0 false)/\H2.get z=some (.vec BL m.AJ false))/\∀y,y≠r->y < 100->H2.get y=H.get y:=by
 obtain⟨c,hc⟩:=hD;have hge:=H.Dx;refine⟨v,(H.CR BL).put r (.cells (BN m b n (.slice (some ⟨H.Br,0,some 0⟩) 0 AF)) 0 false),fun base W0 μ W v' hT hv hH=>?_,rfl,⟨H.Br,hge,?_,?_,?_⟩,fun y hy hy1=>?_⟩
 ·obtain⟨μ2,k1,k2⟩:=hH.Kh (k:=BL) (pre:=(BN m b n x).take 11) (post:=(BN m b n x).drop 12) (hT c hc) hx g9 hr1;exact⟨μ2,k1,k2,hv.mono k1⟩
 ·simp only[List.nodup_cons,List.mem_cons,List.not_mem_nil,not_or,not_false_eq_true,and_true,List.nodup_nil];omega
 ·rw[AA.AQ,if_pos rfl,hu];rfl
 ·rw[AA.AQ,if_neg (by omega),AA.CA,if_pos rfl,hu]
 ·rw[AA.AQ,if_neg hy,AA.CA,if_neg (by omega)]
theorem Py {D:Nat->Prop} {v:Value} {H:AA} {m:AB} {b n:Nat} (hu:m.AJ=[]) (hb:b≠9) (hn:n≠9) (hbn:b≠n) (hb1:b < 100) (hn1:n < 100)
 (g9:H.get 9=some (.cells (BN m b n (.slice none 0 0)) 0 false)) (gb:H.get b=some (Bi m.base)) (gn:H.get n=some (Bi m.now)) (hD:D 9:=by exact⟨Nat.le_refl 9,Nat.lt_succ_self 9⟩):
 ∃v2 H2,(∀(base:Env) (W0:World) (μ:Ai) (W:World) (v':Value),(∀b,D b->∃T,μ b=some T)->AM μ v v'->AT base W0 μ H W->∃μ2,μ.le μ2/\AT base W0 μ2 H2 W/\AM μ2 v2 v')/\v2=v/\FT H2 m:=by
 obtain⟨v2,H2,k1,k2,⟨z,z1,z2,z3,z4⟩,k3⟩:=NV (D:=D) (v:=v) (fun _=>EV) hu hb hn hbn (by decide) hb1 hn1 g9 gb gn ⟨9,hD⟩;refine⟨v2,H2,k1,k2,b,n,z,hb,hn,hbn,by omega,by omega,by omega,?_,?_,z3,z4⟩
 ·rw[k3 b hb hb1];exact gb
 ·rw[k3 n hn hn1];exact gn
def recC (k v:ByteArray):Int:=IntKind.wrap .i64 (IntKind.wrap .i64 (16+(k.size:Int))+(v.size:Int))
def EU (m:AB) (del:Bool) (key val:ByteArray):Int:=
 let n:=bif (DZ m.now key).isSome then IntKind.wrap .i64 (m.cost - recC key ((DZ m.now key).getD { data:=#[] }))else m.cost
 bif del then n else IntKind.wrap .i64 (n+recC key val)
abbrev vc_accU_0 (m:AB) (key:ByteArray) (val:ByteArray):AK:=(.cells [(.int .i64 (List.getD (AB.cfg m) 0 0)),(.int .i64 (List.getD (AB.cfg m) 1 0)),(.int .i64 (List.getD (AB.cfg m) 2 0)),(.int .i64 (List.getD (AB.cfg m) 3 0)),(.int .i64 (List.getD (AB.cfg m) 4 0)),(.int .i64 (List.getD (AB.cfg m) 5 0)),(.int .i64 (List.getD (AB.cfg m) 6 0)),(.int .i64 (AB.AN m)),(p_ 10),(p_ 11),(.int .i64 (IntKind.wrap .i64 (IntKind.wrap .i64 (AB.cost m - IntKind.wrap .i64 (IntKind.wrap .i64 (16+Int.ofNat (ByteArray.size key))+Int.ofNat (ByteArray.size (Option.getD (DZ (AB.now m) key) e_))))+IntKind.wrap .i64 (IntKind.wrap .i64 (16+Int.ofNat (ByteArray.size key))+Int.ofNat (ByteArray.size val))))),(.slice (some ⟨17,0,(some 0)⟩) (List.length (AB.AJ m)+1) 18446744073709551616),(.pointer none),(.int .i64 (AB.state m)),(.bool (AB.AG m))] 0 false)
abbrev vc_accU_1 (m:AB) (key:ByteArray):AK:=(.cells [(.int .i64 (List.getD (AB.cfg m) 0 0)),(.int .i64 (List.getD (AB.cfg m) 1 0)),(.int .i64 (List.getD (AB.cfg m) 2 0)),(.int .i64 (List.getD (AB.cfg m) 3 0)),(.int .i64 (List.getD (AB.cfg m) 4 0)),(.int .i64 (List.getD (AB.cfg m) 5 0)),(.int .i64 (List.getD (AB.cfg m) 6 0)),(.int .i64 (AB.AN m)),(p_ 10),(p_ 11),(.int .i64 (IntKind.wrap .i64 (AB.cost m - IntKind.wrap .i64 (IntKind.wrap .i64 (16+Int.ofNat (ByteArray.size key))+Int.ofNat (ByteArray.size (Option.getD (DZ (AB.now m) key) e_)))))),(.slice (some ⟨17,0,(some 0)⟩) (List.length (AB.AJ m)+1) 18446744073709551616),(.pointer none),(.int .i64 (AB.state m)),(.bool (AB.AG m))] 0 false)
abbrev vc_accU_2 (m:AB) (key:ByteArray) (val:ByteArray):AK:=(.cells [(.int .i64 (List.getD (AB.cfg m) 0 0)),(.int .i64 (List.getD (AB.cfg m) 1 0)),(.int .i64 (List.getD (AB.cfg m) 2 0)),(.int .i64 (List.getD (AB.cfg m) 3 0)),(.int .i64 (List.getD (AB.cfg m) 4 0)),(.int .i64 (List.getD (AB.cfg m) 5 0)),(.int .i64 (List.getD (AB.cfg m) 6 0)),(.int .i64 (AB.AN m)),(p_ 10),(p_ 11),(.int .i64 (IntKind.wrap .i64 (AB.cost m+IntKind.wrap .i64 (IntKind.wrap .i64 (16+Int.ofNat (ByteArray.size key))+Int.ofNat (ByteArray.size val))))),(.slice (some ⟨17,0,(some 0)⟩) (List.length (AB.AJ m)+1) 18446744073709551616),(.pointer none),(.int .i64 (AB.state m)),(.bool (AB.AG m))] 0 false)
abbrev vc_accU_3 (m:AB):AK:=(.cells [(.int .i64 (List.getD (AB.cfg m) 0 0)),(.int .i64 (List.getD (AB.cfg m) 1 0)),(.int .i64 (List.getD (AB.cfg m) 2 0)),(.int .i64 (List.getD (AB.cfg m) 3 0)),(.int .i64 (List.getD (AB.cfg m) 4 0)),(.int .i64 (List.getD (AB.cfg m) 5 0)),(.int .i64 (List.getD (AB.cfg m) 6 0)),(.int .i64 (AB.AN m)),(p_ 10),(p_ 11),(.int .i64 (AB.cost m)),(.slice (some ⟨17,0,(some 0)⟩) (List.length (AB.AJ m)+1) 18446744073709551616),(.pointer none),(.int .i64 (AB.state m)),(.bool (AB.AG m))] 0 false)
theorem ai (m:AB) (del:Bool) (key val:ByteArray) (Q:Value->List (Option AK)->Prop):Ex XM VV By [9,10,11,17] Q 800 (st By 26 [p9,.agg ⟨[.bool del,.string key,.string val]⟩] (BH ⟨.leaf,9⟩ (MS m)))=(
 (Aw.ok BF (AB.now m) [Value.string key])/\(bif Option.isSome (DZ (AB.now m) key)then(((.bool (Option.isSome (DZ (AB.now m) key))):Value)=(.bool true))/\(bif del then(bif del then(Aw.ok Jt (Aw.nx BF (AB.now m) [Value.string key]) [Value.string key])/\(bif true&&Nat.ble (0+List.length (AB.AJ m)) (List.length (AB.AJ m))&&BK 40 (List.length (AB.AJ m)+1)then(p_ 9=p_ 9)/\(Q (.tuple ⟨[]⟩) [some (vc_accU_1 m key),some (.abs (Ab.pack (Pk.table (AB.base m))) false),some (.abs (Ab.pack (Pk.table (Aw.nx Jt (Aw.nx BF (AB.now m) [Value.string key]) [Value.string key]))) false),some (.vec BL (List.take (List.length (AB.AJ m)) (List.drop 0 (AB.AJ m))++[(del,key,val)]) false)])else False)else(Aw.ok J2 (Aw.nx BF (AB.now m) [Value.string key]) [Value.string key,Value.string val])/\(bif true&&Nat.ble (0+List.length (AB.AJ m)) (List.length (AB.AJ m))&&BK 40 (List.length (AB.AJ m)+1)then(p_ 9=p_ 9)/\(Q (.tuple ⟨[]⟩) [some (vc_accU_1 m key),some (.abs (Ab.pack (Pk.table (AB.base m))) false),some (.abs (Ab.pack (Pk.table (Aw.nx J2 (Aw.nx BF (AB.now m) [Value.string key]) [Value.string key,Value.string val]))) false),some (.vec BL (List.take (List.length (AB.AJ m)) (List.drop 0 (AB.AJ m))++[(del,key,val)]) false)])else False))else(bif del then(Aw.ok Jt (Aw.nx BF (AB.now m) [Value.string key]) [Value.string key])/\(bif true&&Nat.ble (0+List.length (AB.AJ m)) (List.length (AB.AJ m))&&BK 40 (List.length (AB.AJ m)+1)then(p_ 9=p_ 9)/\(Q (.tuple ⟨[]⟩) [some (vc_accU_0 m key val),some (.abs (Ab.pack (Pk.table (AB.base m))) false),some (.abs (Ab.pack (Pk.table (Aw.nx Jt (Aw.nx BF (AB.now m) [Value.string key]) [Value.string key]))) false),some (.vec BL (List.take (List.length (AB.AJ m)) (List.drop 0 (AB.AJ m))++[(del,key,val)]) false)])else False)else(Aw.ok J2 (Aw.nx BF (AB.now m) [Value.string key]) [Value.string key,Value.string val])/\(bif true&&Nat.ble (0+List.length (AB.AJ m)) (List.length (AB.AJ m))&&BK 40 (List.length (AB.AJ m)+1)then(p_ 9=p_ 9)/\(Q (.tuple ⟨[]⟩) [some (vc_accU_0 m key val),some (.abs (Ab.pack (Pk.table (AB.base m))) false),some (.abs (Ab.pack (Pk.table (Aw.nx J2 (Aw.nx BF (AB.now m) [Value.string key]) [Value.string key,Value.string val]))) false),some (.vec BL (List.take (List.length (AB.AJ m)) (List.drop 0 (AB.AJ m))++[(del,key,val)]) false)])else False)))else(((.bool (Option.isSome (DZ (AB.now m) key))):Value)=(.bool false))/\(bif del then(bif del then(Aw.ok Jt (Aw.nx BF (AB.now m) [Value.string key]) [Value.string key])/\(bif true&&Nat.ble (0+List.length (AB.AJ m)) (List.length (AB.AJ m))&&BK 40 (List.length (AB.AJ m)+1)then(p_ 9=p_ 9)/\(Q (.tuple ⟨[]⟩) [some (vc_accU_3 m),some (.abs (Ab.pack (Pk.table (AB.base m))) false),some (.abs (Ab.pack (Pk.table (Aw.nx Jt (Aw.nx BF (AB.now m) [Value.string key]) [Value.string key]))) false),some (.vec BL (List.take (List.length (AB.AJ m)) (List.drop 0 (AB.AJ m))++[(del,key,val)]) false)])else False)else(Aw.ok J2 (Aw.nx BF (AB.now m) [Value.string key]) [Value.string key,Value.string val])/\(bif true&&Nat.ble (0+List.length (AB.AJ m)) (List.length (AB.AJ m))&&BK 40 (List.length (AB.AJ m)+1)then(p_ 9=p_ 9)/\(Q (.tuple ⟨[]⟩) [some (vc_accU_3 m),some (.abs (Ab.pack (Pk.table (AB.base m))) false),some (.abs (Ab.pack (Pk.table (Aw.nx J2 (Aw.nx BF (AB.now m) [Value.string key]) [Value.string key,Value.string val]))) false),some (.vec BL (List.take (List.length (AB.AJ m)) (List.drop 0 (AB.AJ m))++[(del,key,val)]) false)])else False))else(bif del then(Aw.ok Jt (Aw.nx BF (AB.now m) [Value.string key]) [Value.string key])/\
 (bif true&&Nat.ble (0+List.length (AB.AJ m)) (List.length (AB.AJ m))&&BK 40 (List.length (AB.AJ m)+1)then(p_ 9=p_ 9)/\(Q (.tuple ⟨[]⟩) [some (vc_accU_2 m key val),some (.abs (Ab.pack (Pk.table (AB.base m))) false),some (.abs (Ab.pack (Pk.table (Aw.nx Jt (Aw.nx BF (AB.now m) [Value.string key]) [Value.string key]))) false),some (.vec BL (List.take (List.length (AB.AJ m)) (List.drop 0 (AB.AJ m))++[(del,key,val)]) false)])else False)else(Aw.ok J2 (Aw.nx BF (AB.now m) [Value.string key]) [Value.string key,Value.string val])/\(bif true&&Nat.ble (0+List.length (AB.AJ m)) (List.length (AB.AJ m))&&BK 40 (List.length (AB.AJ m)+1)then(p_ 9=p_ 9)/\(Q (.tuple ⟨[]⟩) [some (vc_accU_2 m key val),some (.abs (Ab.pack (Pk.table (AB.base m))) false),some (.abs (Ab.pack (Pk.table (Aw.nx J2 (Aw.nx BF (AB.now m) [Value.string key]) [Value.string key,Value.string val]))) false),some (.vec BL (List.take (List.length (AB.AJ m)) (List.drop 0 (AB.AJ m))++[(del,key,val)]) false)])else False))))):=by kernel_rfl
def CB (m:AB) (del:Bool) (key val:ByteArray):AB:=
 { m with cost:=EU m del key val,now:=bif del then E4 m.now key else Ez m.now key val,AJ:=m.AJ++[(del,key,val)] }
theorem jN {n:Nat} (h:n < 1000000):BK 40 (n+1)=true:=by
 unfold BK;rw[Nat.ble_eq_true_of_le (by omega),Nat.ble_eq_true_of_le (by omega)];rfl
theorem W5 {N:Nat} (m:AB) (del:Bool) (key val:ByteArray) (hs:A5 m.now) (hn:m.now.length < 1000000) (hu:m.AJ.length < 1000000):Ad XM N By (fun v H=>v= .tuple ⟨[]⟩/\([9,10,11,17]++Af 4 v).map H.get=[some (.cells (BN (CB m del key val) 10 11 (.slice (some ⟨17,0,some 0⟩) (m.AJ.length+1) 18446744073709551616)) 0 false),some (Bi m.base),some (Bi (CB m del key val).now),some (.vec BL (m.AJ++[(del,key,val)]) false)])
 (st By 26 [p9,.agg ⟨[.bool del,.string key,.string val]⟩] (BH ⟨.leaf,9⟩ (MS m))):=by
 refine BW.Fk (Bt G0 (ids:=[9,10,11,17]) (Q:=fun v os=>v= .tuple ⟨[]⟩/\os=[some (.cells (BN (CB m del key val) 10 11 (.slice (some ⟨17,0,some 0⟩) (m.AJ.length+1) 18446744073709551616)) 0 false),some (Bi m.base),some (Bi (CB m del key val).now),some (.vec BL (m.AJ++[(del,key,val)]) false)]) 800 _ ?_);rw[ai];rw[List.drop_zero,List.take_length];have hb:(true&&Nat.ble (0+m.AJ.length) m.AJ.length&&BK 40 (m.AJ.length+1))=true:=by
  rw[jN hu,Nat.ble_eq_true_of_le (by omega)];rfl
 unfold CB EU;refine⟨⟨hs,by omega,key,rfl⟩,Ae (fun h1=>⟨by rw[h1],?_⟩) (fun h1=>⟨by rw[h1],?_⟩)⟩
 all_goals
  cases del
  ·exact⟨⟨hs,hn,key,val,rfl⟩,AH hb ⟨rfl,rfl,by simp only[h1,cond_true,cond_false]<;>rfl⟩⟩
  ·exact⟨⟨hs,hn,key,rfl⟩,AH hb ⟨rfl,rfl,by simp only[h1,cond_true,cond_false]<;>rfl⟩⟩
abbrev B4:List (Nat × List Value):=AL
def Ha:AA:=⟨.leaf,20⟩
def Vv (s:ByteArray) (out b:List (EK.C HY)) (sv bv:Value) (n i:Int):A8:=
 ⟨⟨Fi,Gr [(3,sv),(10,bv),(11,.int .i64 n),(12,.int .i64 i)],28,[.code (BI Tryz.prog Fi [1,1,0,1,0,0]),.inLoop (BI Tryz.prog Fi [1,1,0,1,0,0]),.inBlock 0,.code (BI Tryz.prog Fi [1,1,1])],[],false,.normal,none⟩,
  [⟨CF,Gr [(0,.string s),(2,.string ⟨#[]⟩),(3,.int .i64 0),(4,.int .i64 0),(5,.string s),(6,.int .i64 0),(7,.int .i64 0),(8,.bool false),(10,.string s),(11,.bool false),(12,.string s),(13,bv)],15,[IG (BI Tryz.prog CF [1,1,1,0]) 2,.code .ret],[],false,.normal,none⟩],
  PN (PN Ha false [⟨HY,out⟩]) false [⟨HY,b⟩]⟩
def Xa:Stop:=⟨Fi,1,3,20,[],[3,10,11,12]⟩
theorem cK (s:ByteArray) (Q:Value->List (Option AK)->Prop) (R:A8->Prop):L1 X0 C4 CF [] Xa Q R 2000 (st CF 15 [.string s] Ha)=(
 (bif decide (Int.ofNat (ByteArray.size s) > 512)then(Q (.tuple ⟨[(.string ({ data:=#[] })),(.int .i64 12)]⟩) [])else(bif ByteArray.toList s==ByteArray.toList { data:=#[] } then(Q (.tuple ⟨[(.string ({ data:=#[45] })),(.int .i64 0)]⟩) [])else(bif decide (0<=IntKind.wrap .i64 (2 * Int.ofNat (ByteArray.size s)))&&decide (IntKind.wrap .i64 (2 * Int.ofNat (ByteArray.size s))<=140737488355328)then(R (Vv s [] (CG s) (.slice (some ⟨20,0,(some 0)⟩) 0 18446744073709551616) (.slice (some ⟨21,0,(some 0)⟩) (ByteArray.size s) 18446744073709551616) (Int.ofNat (ByteArray.size s)) 0))else False)))):=by kernel_rfl
theorem Uw (s:ByteArray) (out b:List (EK.C HY)) (m:Nat) (bn:Nat) (n i:Int) (Q:Value->List (Option AK)->Prop) (R:A8->Prop):L1 X0 C4 CF [] Xa Q R 2000 (Vv s out b (.slice (some ⟨20,0,some 0⟩) m AF) (.slice (some ⟨21,0,some 0⟩) bn AF) n i)=(
 (bif decide (i < n)then(bif decide (0<=i)&&Nat.blt (Int.toNat i) bn then(bif Nat.blt (0+Int.toNat i) (List.length b)then(bif decide (0<=Int.fdiv (List.getD b (0+Int.toNat i) (EK.AZ HY)) (2 ^ min 4 (IntKind.bits IntKind.u8)))&&Nat.blt (Int.toNat (Int.fdiv (List.getD b (0+Int.toNat i) (EK.AZ HY)) (2 ^ min 4 (IntKind.bits IntKind.u8)))) (ByteArray.size { data:=#[48,49,50,51,52,53,54,55,56,57,97,98,99,100,101,102] })then(bif decide (0<=IntKind.wrap IntKind.u8 ↑(BitVec.toNat (BitVec.ofInt (IntKind.bits IntKind.u8) (List.getD b (0+Int.toNat i) (EK.AZ HY)) &&& BitVec.ofInt (IntKind.bits IntKind.u8) 15)))&&Nat.blt (Int.toNat (IntKind.wrap IntKind.u8 ↑(BitVec.toNat (BitVec.ofInt (IntKind.bits IntKind.u8) (List.getD b (0+Int.toNat i) (EK.AZ HY)) &&& BitVec.ofInt (IntKind.bits IntKind.u8) 15)))) (ByteArray.size { data:=#[48,49,50,51,52,53,54,55,56,57,97,98,99,100,101,102] })then(bif true&&Nat.ble (0+m) (List.length out)&&BK 1 (m+2)then(R (Vv s (List.take m (List.drop 0 out)++[GK { data:=#[48,49,50,51,52,53,54,55,56,57,97,98,99,100,101,102] } (Int.toNat (Int.fdiv (List.getD b (0+Int.toNat i) (EK.AZ HY)) (2 ^ min 4 (IntKind.bits IntKind.u8)))),GK { data:=#[48,49,50,51,52,53,54,55,56,57,97,98,99,100,101,102] } (Int.toNat (IntKind.wrap IntKind.u8 ↑(BitVec.toNat (BitVec.ofInt (IntKind.bits IntKind.u8) (List.getD b (0+Int.toNat i) (EK.AZ HY)) &&& BitVec.ofInt (IntKind.bits IntKind.u8) 15))))]) b (.slice (some ⟨20,0,(some 0)⟩) (m+2) 18446744073709551616) (.slice (some ⟨21,0,(some 0)⟩) bn 18446744073709551616) n (IntKind.wrap .i64 (i+1))))else False)else False)else False)else False)else False)else(bif Nat.ble (0+m) (List.length out)then(Q (.tuple ⟨[(.string (LS (List.take m (List.drop 0 out)))),(.int .i64 0)]⟩) [])else False))):=by kernel_rfl
end Go.AI
namespace Go.AI
abbrev OI:ByteArray:={ data:=#[48,49,50,51,52,53,54,55,56,57,97,98,99,100,101,102] }
def De (x:Int):List Int:=[GK OI (Int.toNat (Int.tdiv x 16)),GK OI (Int.toNat (Int.tmod x 16))]
def Iz (l:List Int):List Int:=l.flatMap De
def gU (x:Int):Prop:=0<=x/\x < 256
theorem Mo {p:Int->Prop} [∀x,Decidable (p x)] (h:(∀n:_root_.Fin 256,p (n.1:Int))) {x:Int} (hx:gU x):p x:=by
 obtain⟨h0,h1⟩:=hx;have:=h ⟨x.toNat,by omega⟩
 rwa [show((x.toNat:Nat):Int)=x by omega]at this
theorem Vg {x:Int} (hx:gU x):[GK OI (Int.toNat (Int.fdiv x (2 ^ min 4 (IntKind.bits IntKind.u8)))),GK OI (Int.toNat (IntKind.wrap IntKind.u8 ↑(BitVec.toNat (BitVec.ofInt (IntKind.bits IntKind.u8) x &&& BitVec.ofInt (IntKind.bits IntKind.u8) 15))))]=De x:=
 Mo (p:=fun x=>[GK OI (Int.toNat (Int.fdiv x (2 ^ min 4 (IntKind.bits IntKind.u8)))),GK OI (Int.toNat (IntKind.wrap IntKind.u8 ↑(BitVec.toNat (BitVec.ofInt (IntKind.bits IntKind.u8) x &&& BitVec.ofInt (IntKind.bits IntKind.u8) 15))))]=De x) (by decide +kernel) hx
theorem YN {x:Int} (hx:gU x):(decide (0<=Int.fdiv x (2 ^ min 4 (IntKind.bits IntKind.u8)))&&Nat.blt (Int.toNat (Int.fdiv x (2 ^ min 4 (IntKind.bits IntKind.u8)))) (ByteArray.size OI))=true:=
 Mo (p:=fun x=>(decide (0<=Int.fdiv x (2 ^ min 4 (IntKind.bits IntKind.u8)))&&Nat.blt (Int.toNat (Int.fdiv x (2 ^ min 4 (IntKind.bits IntKind.u8)))) (ByteArray.size OI))=true) (by decide +kernel) hx
theorem aX {x:Int} (hx:gU x):(decide (0<=IntKind.wrap IntKind.u8 ↑(BitVec.toNat (BitVec.ofInt (IntKind.bits IntKind.u8) x &&& BitVec.ofInt (IntKind.bits IntKind.u8) 15)))&&Nat.blt (Int.toNat (IntKind.wrap IntKind.u8 ↑(BitVec.toNat (BitVec.ofInt (IntKind.bits IntKind.u8) x &&& BitVec.ofInt (IntKind.bits IntKind.u8) 15)))) (ByteArray.size OI))=true:=
 Mo (p:=fun x=>(decide (0<=IntKind.wrap IntKind.u8 ↑(BitVec.toNat (BitVec.ofInt (IntKind.bits IntKind.u8) x &&& BitVec.ofInt (IntKind.bits IntKind.u8) 15)))&&Nat.blt (Int.toNat (IntKind.wrap IntKind.u8 ↑(BitVec.toNat (BitVec.ofInt (IntKind.bits IntKind.u8) x &&& BitVec.ofInt (IntKind.bits IntKind.u8) 15)))) (ByteArray.size OI))=true) (by decide +kernel) hx
theorem YP (s:ByteArray) (i:Nat):gU (GK s i):=by
 unfold GK gU;have:=(s.data.toList.getD i 0).toNat_lt;omega
theorem KT (s:ByteArray) (i:Nat) (h:i < s.size):List.getD (CG s) i 0=GK s i:=by
 unfold CG GK;have:i < s.data.toList.length:=by simpa using h
 rw[List.getD_eq_getElem?_getD,List.getD_eq_getElem?_getD,List.getElem?_map,List.getElem?_eq_getElem this];rfl
theorem Hk:∀l:List Int,(Iz l).length=2 * l.length
 | []=>rfl
 | x::l=>by
  have:=Hk l;unfold Iz at this ⊢;rw[List.flatMap_cons,List.length_append,this];simp[De];omega
theorem Ti (s:ByteArray) (i:Nat) (h:i < s.size):Iz ((CG s).take (i+1))=Iz ((CG s).take i)++De (GK s i):=by
 have hl:i < (CG s).length:=by rw[DD];exact h
 rw[List.take_succ_eq_append_getElem hl];unfold Iz;rw[List.flatMap_append,List.flatMap_singleton];have:=KT s i h;rw[List.getD_eq_getElem?_getD,List.getElem?_eq_getElem hl]at this;rw[<-this];rfl
def Nm (s:ByteArray):ByteArray:=if s.size > 512 then⟨#[]⟩else if s.size=0 then⟨#[45]⟩else LS (Iz (CG s))
def To (s:ByteArray):Int:=if s.size > 512 then 12 else 0
def Mh (s:ByteArray):Value:= .tuple ⟨[.string (Nm s),.int .i64 (To s)]⟩
end Go.AI
namespace Go.AI
open Go.Proofs
theorem UU:AF=18446744073709551616:=by kernel_rfl
theorem W7 {m:Nat} (h:m<=2000000):BK 1 m=true:=by
 unfold BK;rw[Bool.and_eq_true];exact⟨Nat.ble_eq_true_of_le (by omega),Nat.ble_eq_true_of_le (by omega)⟩
theorem iQ {i n:Nat} (h:i < n):(decide ((0:Int)<=(i:Int))&&Nat.blt (Int.toNat (i:Int)) n)=true:=by
 rw[Int.toNat_natCast,show Nat.blt i n=true from Nat.ble_eq_true_of_le h];simp
theorem fb {i n:Nat} (h:i < n):Nat.blt (0+Int.toNat (i:Int)) n=true:=by
 rw[Int.toNat_natCast,Nat.zero_add];exact Nat.ble_eq_true_of_le h
def Sa (s:ByteArray):Value:= .tuple ⟨[.string (LS (Iz (CG s))),.int .i64 0]⟩
theorem VK {s:ByteArray} (h:s.size > 512):Mh s= .tuple ⟨[.string ⟨#[]⟩,.int .i64 12]⟩:=by
 unfold Mh Nm To;rw[if_pos h,if_pos h]
theorem YY {s:ByteArray} (h:s.size=0):Mh s= .tuple ⟨[.string ⟨#[45]⟩,.int .i64 0]⟩:=by
 unfold Mh Nm To;rw[if_neg (by omega),if_pos h,if_neg (by omega)]
theorem XH {s:ByteArray} (h:s.size<=512) (h2:s.size≠0):Mh s=Sa s:=by
 unfold Mh Nm To Sa;rw[if_neg (by omega),if_neg h2,if_neg (by omega)]
theorem WZ {s:ByteArray} {i:Nat} (h:s.size<=i):(CG s).take i=CG s:=List.take_of_length_le (by rw[DD];exact h)
theorem MM {s:ByteArray} {i:Nat} (h:i<=s.size):(Iz ((CG s).take i)).length=2 * i:=by
 rw[Hk,List.length_take,DD,Nat.min_eq_left h]
theorem XY (s:ByteArray) (hs:s.size<=512):∀(m i:Nat),s.size - i=m->i<=s.size->
 Ad X0 20 CF (fun v _=>v=Sa s) (Vv s (Iz ((CG s).take i)) (CG s) (.slice (some ⟨20,0,some 0⟩) (2 * i) AF) (.slice (some ⟨21,0,some 0⟩) s.size AF) s.size i):=by
 intro m;induction m with
 | zero=>
  intro i hm hi;refine CJ (A6 X0) (ids:=[]) (S:=Xa) rfl (Q:=fun v _=>v=Sa s) (R:=fun _=>False) (fun v H h=>h) (fun c h=>h.elim) 2000 _ ?_;rw[Uw];refine AU (fun h=>?_) (fun _=>?_)
  ·exfalso;have:(i:Int) < s.size:=h;omega
  refine AH (by rw[MM hi,Nat.zero_add];exact Nat.ble_eq_true_of_le (Nat.le_refl _)) ?_;show Value.tuple _=Sa s;unfold Sa;rw[List.drop_zero,List.take_of_length_le (by rw[MM hi];exact Nat.le_refl _),WZ (by omega)]
 | succ m ih=>
  intro i hm hi;have hlt:i < s.size:=by omega
  refine CJ (A6 X0) (ids:=[]) (S:=Xa) rfl (Q:=fun v _=>v=Sa s)
   (R:=fun c=>c=Vv s (Iz ((CG s).take (i+1))) (CG s) (.slice (some ⟨20,0,some 0⟩) (2 * (i+1)) AF) (.slice (some ⟨21,0,some 0⟩) s.size AF) s.size (i+1:Nat)) (fun v H h=>h) (fun c h=>by rw[h];exact ih (i+1) (by omega) (by omega)) 2000 _ ?_
  rw[Uw];refine AU (fun _=>?_) (fun h=>absurd (show(i:Int) < (s.size:Int) by omega) h);have hg:List.getD (CG s) (0+Int.toNat (i:Int)) (EK.AZ HY)=GK s i:=by
   rw[Int.toNat_natCast,Nat.zero_add];exact KT s i hlt
  rw[hg];have hin:=YP s i;refine AH (iQ hlt) (AH (fb (by rw[DD];exact hlt)) (AH (YN hin) (AH (aX hin) (AH ?_ ?_))))
  ·rw[W7 (by omega),MM hi,Nat.zero_add,show Nat.ble (2 * i) (2 * i)=true from Nat.ble_eq_true_of_le (Nat.le_refl _)];rfl
  ·rw[Ti s i hlt,List.drop_zero,List.take_of_length_le (by rw[MM hi];exact Nat.le_refl _),Vg hin,wrap64 (by omega) (by omega),show 2 * (i+1)=2 * i+2 by omega,show((i+1:Nat):Int)=(i:Int)+1 by omega,UU]
theorem V2 {s:ByteArray}:(ByteArray.toList s==ByteArray.toList { data:=#[] })=decide (s.size=0):=by
 rw[ByteArray.toList_eq,ByteArray.toList_eq];rcases s with⟨⟨l⟩⟩
 cases l<;>rfl
theorem ZB (s:ByteArray):Ad X0 20 CF (fun v _=>v=Mh s) (st CF 15 [.string s] Ha):=by
 refine CJ (A6 X0) (ids:=[]) (S:=Xa) rfl (Q:=fun v _=>v=Mh s)
  (R:=fun c=>s.size<=512/\s.size≠0/\c=Vv s [] (CG s) (.slice (some ⟨20,0,some 0⟩) 0 AF) (.slice (some ⟨21,0,some 0⟩) s.size AF) s.size 0) (fun v H h=>h) (fun c h=>?_) 2000 _ ?_
 ·obtain⟨h1,h2,rfl⟩:=h;refine Ad.mono (XY s h1 s.size 0 (by omega) (by omega)) fun v H h=>?_
  rw[h,XH h1 h2]
 rw[cK];refine AU (fun h=>?_) (fun h=>?_)
 ·exact(VK (by have:(s.size:Int) > 512:=h;omega)).symm
 have h1:s.size<=512:=by have:¬(s.size:Int) > 512:=h;omega
 rw[V2];refine AU (fun h=>(YY h).symm) (fun h=>?_);rw[show Int.ofNat s.size=(s.size:Int)from rfl,wrap64 (by omega) (by omega)];refine AH (by simp;omega) ⟨h1,h,?_⟩;rw[UU]
theorem C3.sub {P:Program} {laid:List (Nat × List Value)} {f:FuncId} {F G:Cn} (h:C3 P laid f G) (hs:∀args H r,F args H=some r->G args H=some r):C3 P laid f F:=
 ⟨h.1,fun base W0 μ H W args args' v H' hW hH hl ha hF=>h.2 base W0 μ H W args args' v H' hW hH hl ha (hs _ _ _ hF)⟩
def eU (args:List Value) (objs:List AK):GT:=match args,objs with
 | [.string s],[]=> .ret ⟨Mh s,[],[]⟩
 | _,_=> .fail
def bV:Cn:=fun args H=>match args with
 | [.string s]=>some (Mh s,H)
 | _=>none
theorem Yx (args:List Value) (H:AA) (r:Value × AA) (h:bV args H=some r):Al B4 20 [] eU args H=some r:=by
 unfold bV at h;split at h
 ·rename_i s;cases h
  rfl
 ·cases h
theorem Xt {f:FuncId} {n:Nat} (he:entry Tryz.prog f=some (n,BI Tryz.prog f [])) (hn:1<=n) (hE:∀s,Ad X0 20 f (fun v _=>v=Mh s) (st f n [.string s] Ha)):C3 Tryz.prog B4 f bV:=
 C3.sub (RI (fs:=[]) (A4.nil _ _) (by kernel_rfl) (n:=n) (N:=20) (Bj:=[]) (G:=eU) he rfl fun argsc objs x hx _=>by
  unfold eU at hx;split at hx
  ·rename_i s _;simp only[GT.run]at hx;cases hx
   refine⟨by simpa using hn,Ad.mono (hE s) fun v H h=>?_⟩;subst h;exact HK (by rfl)
  ·cases hx) Yx
theorem Z3:C3 Tryz.prog B4 CF bV:=Xt (n:=15) (by kernel_rfl) (by omega) ZB
structure DF where
 ok:List Value->Prop
 v:List Value->Value
open Classical in
def DF.F (q:DF):Cn:=fun args H=>if q.ok args then some (q.v args,H)else none
def DF.p (q:DF):EB:=fun args H K=>q.ok args/\K (q.v args) H
theorem DF.al {q:DF} {X:Ctx} {f:FuncId} (hX:X.Ep f=some q.F) (args:List Value) (H:AA) (K:Value->AA->Prop) (h:q.p args H K):∃v H',Bd X f args .normal H=some (v,H')/\K v H':=by
 refine⟨q.v args,H,?_,h.2⟩;unfold Bd;simp only[hX];unfold DF.F;exact if_pos h.1
theorem VQ {fs:List (FuncId × Cn)} (hfs:A4 Tryz.prog B4 fs) {f:FuncId} {n:Nat} (he:entry Tryz.prog f=some (n,BI Tryz.prog f [])) {q:DF}
 (hF:∀args,q.ok args->args.all flat=true/\args.length<=n/\flat (q.v args)=true/\Ad (Cx Tryz.prog B4 fs) 20 f (fun v' _=>v'=q.v args) (st f n args Ha)):C3 Tryz.prog B4 f q.F:=by
 refine⟨⟨n,_,he⟩,?_⟩;intro base W0 μ H W args args' v H' hW hH hl ha hFv;unfold DF.F at hFv;split at hFv
 ·rename_i hq;cases hFv
  obtain⟨h1,h2,h3,h4⟩:=hF args hq;have hW1:Ds (Cx Tryz.prog B4 fs) (base.at W) W:=by
   have:=hW.carry hH;unfold Ds at this ⊢;exact this
  obtain⟨s1,s2⟩:=NT (X:=Cx Tryz.prog B4 fs) hW1 (none_le _) (fun _ hi=>hi) (n:=20) (OD (by kernel_rfl));have s3:=s1.sub (H':=Ha) (fun b o e=>by cases e) (Hm _ _).symm;have hargs:args'.toList=args:=G9 args _ h1 ha;intro cs;obtain⟨c',⟨v2,Hf,hd,rfl⟩,μ1,fr1,cs1,W1,st,m1⟩:=h4 (base.at W) W (fun b T hb=>by cases hb) (hfs.Ep _ _ hW1) (GA (by kernel_rfl) rfl) cs _ _ [] W (GB s3 s2 he (by rw[hargs];exact ES args h1) h2);obtain⟨rfl,hf,v',e1,e2,e3⟩:=HA m1 hd;have hs':Steps (Cx Tryz.prog B4 fs).P (lone (Frame.enter (Cx Tryz.prog B4 fs).P f args' .normal) cs W) (lone fr1 cs W1):=by simpa using st
  refine⟨.returned v',W1,fr1,⟨v',μ,rfl,hH.carry (F0 e2) e2.below e2.out e2.os,?_,Ak.refl _ _⟩,hs',hf,e1⟩;rw[FL h3 e3];exact Cp h3
 ·cases hFv
theorem Tq {f:FuncId} {n:Nat} (he:entry Tryz.prog f=some (n,BI Tryz.prog f [])) {q:DF}
 (hF:∀args,q.ok args->args.all flat=true/\args.length<=n/\flat (q.v args)=true/\∃fs,A4 Tryz.prog B4 fs/\Ad (Cx Tryz.prog B4 fs) 20 f (fun v' _=>v'=q.v args) (st f n args Ha)):C3 Tryz.prog B4 f q.F:=by
 refine⟨⟨n,_,he⟩,?_⟩;intro base W0 μ H W args args' v H' hW hH hl ha hFv;unfold DF.F at hFv;split at hFv
 ·rename_i hq;cases hFv
  obtain⟨h1,h2,h3,fs,hfs,h4⟩:=hF args hq;have hW1:Ds (Cx Tryz.prog B4 fs) (base.at W) W:=by
   have:=hW.carry hH;unfold Ds at this ⊢;exact this
  obtain⟨s1,s2⟩:=NT (X:=Cx Tryz.prog B4 fs) hW1 (none_le _) (fun _ hi=>hi) (n:=20) (OD (by kernel_rfl));have s3:=s1.sub (H':=Ha) (fun b o e=>by cases e) (Hm _ _).symm;have hargs:args'.toList=args:=G9 args _ h1 ha;intro cs;obtain⟨c',⟨v2,Hf,hd,rfl⟩,μ1,fr1,cs1,W1,st,m1⟩:=h4 (base.at W) W (fun b T hb=>by cases hb) (hfs.Ep _ _ hW1) (GA (by kernel_rfl) rfl) cs _ _ [] W (GB s3 s2 he (by rw[hargs];exact ES args h1) h2);obtain⟨rfl,hf,v',e1,e2,e3⟩:=HA m1 hd;have hs':Steps (Cx Tryz.prog B4 fs).P (lone (Frame.enter (Cx Tryz.prog B4 fs).P f args' .normal) cs W) (lone fr1 cs W1):=by simpa using st
  refine⟨.returned v',W1,fr1,⟨v',μ,rfl,hH.carry (F0 e2) e2.below e2.out e2.os,?_,Ak.refl _ _⟩,hs',hf,e1⟩;rw[FL h3 e3];exact Cp h3
 ·cases hFv
def nm (i:Nat):ByteArray:=⟨(([[97],[98],[99],[97,98],[107,49],[49,50,51,52,53,54,55,56,57]]:List (List UInt8)).getD i []).toArray⟩
def Kr (s:ByteArray):Prop:=s=⟨#[97]⟩∨s=⟨#[98]⟩∨s=⟨#[99]⟩∨s=⟨#[97,98]⟩∨s=⟨#[107,49]⟩∨s=⟨#[49,50,51,52,53,54,55,56,57]⟩
def Y5:DF where
 ok:=fun args=>match args with
  | [.string s]=>Kr s
  | _=>False
 v:=fun _=> .int .i64 0
def fj:EB:=fun args H K=>match args with
 | [.string s]=>Kr s/\K (.int .i64 0) H
 | _=>False
def R8:Cn:=fun args H=>match args with
 | [.string s]=>if s.size<=512 then some (.tuple ⟨[.string (Nm s),.int .i64 0]⟩,H)else none
 | _=>none
def X4:EB:=fun args H K=>match args with
 | [.string s]=>s.size<=512/\K (.tuple ⟨[.string (Nm s),.int .i64 0]⟩) H
 | _=>False
abbrev iq:List (FuncId × Cn):=[(Bm,Y5.F),(CF,R8)]
def SU:Ctx:=Cx Tryz.prog AL iq
def Ka:Pf:=fun g=>bif Nat.beq g Bm then some fj else(fun g=>bif Nat.beq g CF then some X4 else C4 g) g
def E2 (k a b:Int) (key val:ByteArray):Value:= .agg ⟨[.int .i64 k,.int .i64 a,.int .i64 b,.string key,.string val]⟩
theorem ik (Q:Value->List (Option AK)->Prop):VC X0 Bm [] Q 6000 (st Bm 20 [.string ⟨#[97]⟩] Ha)=(
 (Q (.int .i64 0) [])):=by kernel_rfl
theorem iP (Q:Value->List (Option AK)->Prop):VC X0 Bm [] Q 6000 (st Bm 20 [.string ⟨#[98]⟩] Ha)=(
 (Q (.int .i64 0) [])):=by kernel_rfl
theorem ig (Q:Value->List (Option AK)->Prop):VC X0 Bm [] Q 6000 (st Bm 20 [.string ⟨#[99]⟩] Ha)=(
 (Q (.int .i64 0) [])):=by kernel_rfl
theorem hY (Q:Value->List (Option AK)->Prop):VC X0 Bm [] Q 6000 (st Bm 20 [.string ⟨#[97,98]⟩] Ha)=(
 (Q (.int .i64 0) [])):=by kernel_rfl
theorem iD (Q:Value->List (Option AK)->Prop):VC X0 Bm [] Q 6000 (st Bm 20 [.string ⟨#[107,49]⟩] Ha)=(
 (Q (.int .i64 0) [])):=by kernel_rfl
theorem iw (Q:Value->List (Option AK)->Prop):VC X0 Bm [] Q 9000 (st Bm 20 [.string ⟨#[49,50,51,52,53,54,55,56,57]⟩] Ha)=(
 (Q (.int .i64 0) [])):=by kernel_rfl
theorem ez (Q:Value->List (Option AK)->Prop):Ex SU Ka Ac [] Q 2000 (st Ac 11 [E2 4 0 0 ByteArray.empty ByteArray.empty] Ha)=(
 (((.agg ⟨[(.int .i64 4),(.int .i64 0),(.int .i64 0),(.string e_),(.string e_)]⟩):Value)=(.agg ⟨[(.int .i64 4),(.int .i64 0),(.int .i64 0),(.string e_),(.string e_)]⟩))/\(((.int .i64 4):Value)=(.int .i64 4))/\(p_ 21=p_ 21)/\(Q (.int .i64 0) [])):=by kernel_rfl
theorem ed (key:ByteArray) (Q:Value->List (Option AK)->Prop):Ex SU Ka Ac [] Q 2000 (st Ac 11 [E2 2 0 0 key ByteArray.empty] Ha)=(
 (((.agg ⟨[(.int .i64 2),(.int .i64 0),(.int .i64 0),(.string e_),(.string e_)]⟩):Value)=(.agg ⟨[(.int .i64 2),(.int .i64 0),(.int .i64 0),(.string e_),(.string e_)]⟩))/\(((.int .i64 2):Value)=(.int .i64 2))/\(p_ 21=p_ 21)/\(bif Nat.ble (ByteArray.size { data:=#[32] }+ByteArray.size key) 9223372036854775807 then(Kr key)/\(((.agg ⟨[(.int .i64 2),(.int .i64 0),(.int .i64 0),(.string key),(.string e_)]⟩):Value)=(.agg ⟨[(.int .i64 2),(.int .i64 0),(.int .i64 0),(.string key),(.string e_)]⟩))/\(((.string key):Value)=(.string key))/\(((.pointer (some ⟨26,3,none⟩)):Value)=(.pointer (some ⟨26,3,none⟩)))/\(((.int .i64 2):Value)=(.int .i64 2))/\(p_ 26=p_ 26)/\(bif Nat.ble (ByteArray.size { data:=#[32] }+ByteArray.size key) 9223372036854775807 then(((.string ({ data:=#[32] }++key)):Value)=(.string ({ data:=#[32] }++key)))/\(((.string key):Value)=(.string key))/\(((.pointer (some ⟨26,3,none⟩)):Value)=(.pointer (some ⟨26,3,none⟩)))/\(((.bool (0==0)):Value)=(.bool true))/\(((.agg ⟨[(.int .i64 2),(.int .i64 0),(.int .i64 0),(.string key),(.string e_)]⟩):Value)=(.agg ⟨[(.int .i64 2),(.int .i64 0),(.int .i64 0),(.string key),(.string e_)]⟩))/\(((.string key):Value)=(.string key))/\(((.pointer (some ⟨26,3,none⟩)):Value)=(.pointer (some ⟨26,3,none⟩)))/\(((.int .i64 2):Value)=(.int .i64 2))/\(p_ 26=p_ 26)/\(((.bool (0==0)):Value)=(.bool true))/\(bif !(2==2&&(0==0&&(0==0&&(ByteArray.toList key==ByteArray.toList key&&(ByteArray.toList e_==ByteArray.toList ByteArray.empty&&true)))))then(Q (.int .i64 2) [])else(bif Nat.ble (ByteArray.size { data:=#[103,101,116] }+ByteArray.size ({ data:=#[32] }++key)) 9223372036854775807 then(Q (.int .i64 0) [])else False))else False)else False)):=by kernel_rfl
theorem fu (key:ByteArray) (Q:Value->List (Option AK)->Prop):Ex SU Ka Ac [] Q 2000 (st Ac 11 [E2 3 0 0 key ByteArray.empty] Ha)=(
 (((.agg ⟨[(.int .i64 3),(.int .i64 0),(.int .i64 0),(.string e_),(.string e_)]⟩):Value)=(.agg ⟨[(.int .i64 3),(.int .i64 0),(.int .i64 0),(.string e_),(.string e_)]⟩))/\(((.int .i64 3):Value)=(.int .i64 3))/\(p_ 21=p_ 21)/\(bif Nat.ble (ByteArray.size { data:=#[32] }+ByteArray.size key) 9223372036854775807 then(Kr key)/\(((.agg ⟨[(.int .i64 3),(.int .i64 0),(.int .i64 0),(.string key),(.string e_)]⟩):Value)=(.agg ⟨[(.int .i64 3),(.int .i64 0),(.int .i64 0),(.string key),(.string e_)]⟩))/\(((.string key):Value)=(.string key))/\(((.pointer (some ⟨26,3,none⟩)):Value)=(.pointer (some ⟨26,3,none⟩)))/\(((.int .i64 3):Value)=(.int .i64 3))/\(p_ 26=p_ 26)/\(bif Nat.ble (ByteArray.size { data:=#[32] }+ByteArray.size key) 9223372036854775807 then(((.string ({ data:=#[32] }++key)):Value)=(.string ({ data:=#[32] }++key)))/\(((.string key):Value)=(.string key))/\(((.pointer (some ⟨26,3,none⟩)):Value)=(.pointer (some ⟨26,3,none⟩)))/\(((.bool (0==0)):Value)=(.bool true))/\(((.agg ⟨[(.int .i64 3),(.int .i64 0),(.int .i64 0),(.string key),(.string e_)]⟩):Value)=(.agg ⟨[(.int .i64 3),(.int .i64 0),(.int .i64 0),(.string key),(.string e_)]⟩))/\(((.string key):Value)=(.string key))/\(((.pointer (some ⟨26,3,none⟩)):Value)=(.pointer (some ⟨26,3,none⟩)))/\(((.int .i64 3):Value)=(.int .i64 3))/\(p_ 26=p_ 26)/\(((.bool (0==0)):Value)=(.bool true))/\(bif !(3==3&&(0==0&&(0==0&&(ByteArray.toList key==ByteArray.toList key&&(ByteArray.toList e_==ByteArray.toList ByteArray.empty&&true)))))then(Q (.int .i64 2) [])else(bif Nat.ble (ByteArray.size { data:=#[100,101,108,101,116,101] }+ByteArray.size ({ data:=#[32] }++key)) 9223372036854775807 then(Q (.int .i64 0) [])else False))else False)else False)):=by kernel_rfl
theorem fe (key val:ByteArray) (Q:Value->List (Option AK)->Prop):Ex SU Ka Ac [] Q 2000 (st Ac 11 [E2 1 0 0 key val] Ha)=(
 (((.agg ⟨[(.int .i64 1),(.int .i64 0),(.int .i64 0),(.string e_),(.string e_)]⟩):Value)=(.agg ⟨[(.int .i64 1),(.int .i64 0),(.int .i64 0),(.string e_),(.string e_)]⟩))/\(((.int .i64 1):Value)=(.int .i64 1))/\(p_ 21=p_ 21)/\(bif Nat.ble (ByteArray.size { data:=#[32] }+ByteArray.size key) 9223372036854775807 then(Kr key)/\(((.agg ⟨[(.int .i64 1),(.int .i64 0),(.int .i64 0),(.string key),(.string e_)]⟩):Value)=(.agg ⟨[(.int .i64 1),(.int .i64 0),(.int .i64 0),(.string key),(.string e_)]⟩))/\(((.string key):Value)=(.string key))/\(((.pointer (some ⟨28,3,none⟩)):Value)=(.pointer (some ⟨28,3,none⟩)))/\(((.int .i64 1):Value)=(.int .i64 1))/\(p_ 28=p_ 28)/\(bif Nat.ble (ByteArray.size { data:=#[32] }+ByteArray.size key) 9223372036854775807 then(((.string ({ data:=#[32] }++key)):Value)=(.string ({ data:=#[32] }++key)))/\(((.string key):Value)=(.string key))/\(((.pointer (some ⟨28,3,none⟩)):Value)=(.pointer (some ⟨28,3,none⟩)))/\(((.bool (0==0)):Value)=(.bool true))/\(((.agg ⟨[(.int .i64 1),(.int .i64 0),(.int .i64 0),(.string key),(.string e_)]⟩):Value)=(.agg ⟨[(.int .i64 1),(.int .i64 0),(.int .i64 0),(.string key),(.string e_)]⟩))/\(((.string key):Value)=(.string key))/\(((.pointer (some ⟨28,3,none⟩)):Value)=(.pointer (some ⟨28,3,none⟩)))/\(((.int .i64 1):Value)=(.int .i64 1))/\(p_ 28=p_ 28)/\(((.bool (0==0)):Value)=(.bool true))/\(ByteArray.size val<=512)/\(bif Nat.ble (ByteArray.size ({ data:=#[32] }++key)+ByteArray.size { data:=#[32] }) 9223372036854775807 then(bif Nat.ble (ByteArray.size ({ data:=#[32] }++key++{ data:=#[32] })+ByteArray.size (Nm val)) 9223372036854775807 then(((.bool true):Value)=(.bool true))/\(((.bool (0==0)):Value)=(.bool true))/\(((.int .i64 0):Value)=(.int .i64 0))/\(((.agg ⟨[(.int .i64 1),(.int .i64 0),(.int .i64 0),(.string key),(.string val)]⟩):Value)=(.agg ⟨[(.int .i64 1),(.int .i64 0),(.int .i64 0),(.string key),(.string val)]⟩))/\(((.bool true):Value)=(.bool true))/\(((.bool (0==0)):Value)=(.bool true))/\(((.int .i64 0):Value)=(.int .i64 0))/\(bif !(1==1&&(0==0&&(0==0&&(ByteArray.toList key==ByteArray.toList key&&(ByteArray.toList val==ByteArray.toList val&&true)))))then(Q (.int .i64 2) [])else(bif Nat.ble (ByteArray.size { data:=#[112,117,116] }+ByteArray.size ({ data:=#[32] }++key++{ data:=#[32] }++Nm val)) 9223372036854775807 then(Q (.int .i64 0) [])else False))else False)else False)else False)else False)):=by kernel_rfl
theorem eZ (Q:Value->List (Option AK)->Prop):Ex SU Ka Ac [] Q 2000 (st Ac 11 [E2 5 0 0 ByteArray.empty ByteArray.empty] Ha)=(
 (((.agg ⟨[(.int .i64 5),(.int .i64 0),(.int .i64 0),(.string e_),(.string e_)]⟩):Value)=(.agg ⟨[(.int .i64 5),(.int .i64 0),(.int .i64 0),(.string e_),(.string e_)]⟩))/\(((.int .i64 5):Value)=(.int .i64 5))/\(p_ 21=p_ 21)/\(Q (.int .i64 0) [])):=by kernel_rfl
theorem eR (Q:Value->List (Option AK)->Prop):Ex SU Ka Ac [] Q 2000 (st Ac 11 [E2 8 0 0 ByteArray.empty ByteArray.empty] Ha)=(
 (((.agg ⟨[(.int .i64 8),(.int .i64 0),(.int .i64 0),(.string e_),(.string e_)]⟩):Value)=(.agg ⟨[(.int .i64 8),(.int .i64 0),(.int .i64 0),(.string e_),(.string e_)]⟩))/\(((.int .i64 8):Value)=(.int .i64 8))/\(p_ 21=p_ 21)/\(Q (.int .i64 0) [])):=by kernel_rfl
theorem az (Q:Value->List (Option AK)->Prop):VC X0 Ac [] Q 20000 (st Ac 11 [E2 7 0 0 ByteArray.empty ⟨#[48]⟩] Ha)=(
 (((.agg ⟨[(.int .i64 7),(.int .i64 0),(.int .i64 0),(.string e_),(.string e_)]⟩):Value)=(.agg ⟨[(.int .i64 7),(.int .i64 0),(.int .i64 0),(.string e_),(.string e_)]⟩))/\(((.int .i64 7):Value)=(.int .i64 7))/\(p_ 21=p_ 21)/\(((.string ({ data:=#[48] })):Value)=(.string ({ data:=#[48] })))/\(((.pointer (some ⟨26,4,none⟩)):Value)=(.pointer (some ⟨26,4,none⟩)))/\(((.string ({ data:=#[110] })):Value)=(.string ({ data:=#[110] })))/\(p_ 28=p_ 28)/\(((.int .i64 0):Value)=(.int .i64 0))/\(((.int .i64 0):Value)=(.int .i64 0))/\(((.pointer (some ⟨26,2,none⟩)):Value)=(.pointer (some ⟨26,2,none⟩)))/\(((.bool (ByteArray.toList (ByteArray.extract (ByteArray.extract (ByteArray.extract { data:=#[48,49,50,51,52,53,54,55,56,57,97,98,99,100,101,102,103,104,105,106,107,108,109,110,111,112,113,114,115,116,117,118,119,120,121,122] } 0 1++{ data:=#[32] }++{ data:=#[110] }++{ data:=#[32] }++{ data:=#[48] }) 2 5) 0 1)==ByteArray.toList { data:=#[121] })):Value)=(.bool false))/\(((.string (ByteArray.extract (ByteArray.extract (ByteArray.extract { data:=#[48,49,50,51,52,53,54,55,56,57,97,98,99,100,101,102,103,104,105,106,107,108,109,110,111,112,113,114,115,116,117,118,119,120,121,122] } 0 1++{ data:=#[32] }++{ data:=#[110] }++{ data:=#[32] }++{ data:=#[48] }) 2 5) 0 1)):Value)=(.string (ByteArray.extract (ByteArray.extract (ByteArray.extract { data:=#[48,49,50,51,52,53,54,55,56,57,97,98,99,100,101,102,103,104,105,106,107,108,109,110,111,112,113,114,115,116,117,118,119,120,121,122] } 0 1++{ data:=#[32] }++{ data:=#[110] }++{ data:=#[32] }++{ data:=#[48] }) 2 5) 0 1)))/\(((.pointer (some ⟨32,1,none⟩)):Value)=(.pointer (some ⟨32,1,none⟩)))/\(((.slice (some ⟨32,0,none⟩) 3 3):Value)=(.slice (some ⟨32,0,none⟩) 3 3))/\(((.slice none 0 0):Value)=(.slice none 0 0))/\(((.pointer (some ⟨33,2,none⟩)):Value)=(.pointer (some ⟨33,2,none⟩)))/\(((.bool (0==0)):Value)=(.bool true))/\(((.int .i64 0):Value)=(.int .i64 0))/\(((.agg ⟨[(.int .i64 7),(.int .i64 0),(.int .i64 0),(.string e_),(.string ({ data:=#[48] }))]⟩):Value)=(.agg ⟨[(.int .i64 7),(.int .i64 0),(.int .i64 0),(.string e_),(.string ({ data:=#[48] }))]⟩))/\(((.string ({ data:=#[48] })):Value)=(.string ({ data:=#[48] })))/\(((.pointer (some ⟨26,4,none⟩)):Value)=(.pointer (some ⟨26,4,none⟩)))/\(((.int .i64 0):Value)=(.int .i64 0))/\(((.int .i64 0):Value)=(.int .i64 0))/\(((.pointer (some ⟨26,2,none⟩)):Value)=(.pointer (some ⟨26,2,none⟩)))/\(((.int .i64 0):Value)=(.int .i64 0))/\(((.pointer (some ⟨26,1,none⟩)):Value)=(.pointer (some ⟨26,1,none⟩)))/\(((.int .i64 7):Value)=(.int .i64 7))/\(p_ 26=p_ 26)/\(((.bool (0==0)):Value)=(.bool true))/\(((.int .i64 0):Value)=(.int .i64 0))/\(Q (.int .i64 0) [])):=by kernel_rfl
theorem Zo (Q:Value->List (Option AK)->Prop):VC X0 Ac [] Q 20000 (st Ac 11 [E2 7 5 0 ByteArray.empty ⟨#[48]⟩] Ha)=(
 (((.agg ⟨[(.int .i64 7),(.int .i64 0),(.int .i64 0),(.string e_),(.string e_)]⟩):Value)=(.agg ⟨[(.int .i64 7),(.int .i64 0),(.int .i64 0),(.string e_),(.string e_)]⟩))/\(((.int .i64 7):Value)=(.int .i64 7))/\(p_ 21=p_ 21)/\(((.string ({ data:=#[48] })):Value)=(.string ({ data:=#[48] })))/\(((.pointer (some ⟨26,4,none⟩)):Value)=(.pointer (some ⟨26,4,none⟩)))/\(((.string ({ data:=#[110] })):Value)=(.string ({ data:=#[110] })))/\(p_ 28=p_ 28)/\(((.int .i64 0):Value)=(.int .i64 0))/\(((.int .i64 0):Value)=(.int .i64 0))/\(((.pointer (some ⟨26,2,none⟩)):Value)=(.pointer (some ⟨26,2,none⟩)))/\(((.bool (ByteArray.toList (ByteArray.extract (ByteArray.extract (ByteArray.extract { data:=#[48,49,50,51,52,53,54,55,56,57,97,98,99,100,101,102,103,104,105,106,107,108,109,110,111,112,113,114,115,116,117,118,119,120,121,122] } 5 6++{ data:=#[32] }++{ data:=#[110] }++{ data:=#[32] }++{ data:=#[48] }) 2 5) 0 1)==ByteArray.toList { data:=#[121] })):Value)=(.bool false))/\(((.string (ByteArray.extract (ByteArray.extract (ByteArray.extract { data:=#[48,49,50,51,52,53,54,55,56,57,97,98,99,100,101,102,103,104,105,106,107,108,109,110,111,112,113,114,115,116,117,118,119,120,121,122] } 5 6++{ data:=#[32] }++{ data:=#[110] }++{ data:=#[32] }++{ data:=#[48] }) 2 5) 0 1)):Value)=(.string (ByteArray.extract (ByteArray.extract (ByteArray.extract { data:=#[48,49,50,51,52,53,54,55,56,57,97,98,99,100,101,102,103,104,105,106,107,108,109,110,111,112,113,114,115,116,117,118,119,120,121,122] } 5 6++{ data:=#[32] }++{ data:=#[110] }++{ data:=#[32] }++{ data:=#[48] }) 2 5) 0 1)))/\(((.pointer (some ⟨32,1,none⟩)):Value)=(.pointer (some ⟨32,1,none⟩)))/\(((.slice (some ⟨32,0,none⟩) 3 3):Value)=(.slice (some ⟨32,0,none⟩) 3 3))/\(((.slice none 0 0):Value)=(.slice none 0 0))/\(((.pointer (some ⟨33,2,none⟩)):Value)=(.pointer (some ⟨33,2,none⟩)))/\(((.bool (0==0)):Value)=(.bool true))/\(((.int .i64 0):Value)=(.int .i64 0))/\(((.agg ⟨[(.int .i64 7),(.int .i64 5),(.int .i64 0),(.string e_),(.string ({ data:=#[48] }))]⟩):Value)=(.agg ⟨[(.int .i64 7),(.int .i64 5),(.int .i64 0),(.string e_),(.string ({ data:=#[48] }))]⟩))/\(((.string ({ data:=#[48] })):Value)=(.string ({ data:=#[48] })))/\(((.pointer (some ⟨26,4,none⟩)):Value)=(.pointer (some ⟨26,4,none⟩)))/\(((.int .i64 0):Value)=(.int .i64 0))/\(((.int .i64 0):Value)=(.int .i64 0))/\(((.pointer (some ⟨26,2,none⟩)):Value)=(.pointer (some ⟨26,2,none⟩)))/\(((.int .i64 5):Value)=(.int .i64 5))/\(((.pointer (some ⟨26,1,none⟩)):Value)=(.pointer (some ⟨26,1,none⟩)))/\(((.int .i64 7):Value)=(.int .i64 7))/\(p_ 26=p_ 26)/\(((.bool (0==0)):Value)=(.bool true))/\(((.int .i64 0):Value)=(.int .i64 0))/\(Q (.int .i64 0) [])):=by kernel_rfl
end Go.AI
namespace Go.AI
theorem b8 (s:ByteArray):s.size=s.data.toList.length:=(Array.length_toList).symm
theorem V4 (s:ByteArray):(Nm s).size<=1024:=by
 unfold Nm;split
 ·exact Nat.zero_le _
 ·split
  ·show 1<=1024;omega
  ·rw[b8];unfold LS;show((Iz (CG s)).map fun n=>UInt8.ofNat n.toNat).length<=1024;rw[List.length_map,Hk,DD];omega
end Go.AI
namespace Go.AI
open Go.Proofs
theorem YH {s:ByteArray} (h:Kr s):BW X0 Bm (fun v' _=>v'= .int .i64 0) (st Bm 20 [.string s] Ha):=by
 rcases h with rfl | rfl | rfl | rfl | rfl | rfl
 ·refine Nq (ids:=[]) (Q:=fun v' _=>v'= .int .i64 0) 6000 _ ?_;rw[ik]
 ·refine Nq (ids:=[]) (Q:=fun v' _=>v'= .int .i64 0) 6000 _ ?_;rw[iP]
 ·refine Nq (ids:=[]) (Q:=fun v' _=>v'= .int .i64 0) 6000 _ ?_;rw[ig]
 ·refine Nq (ids:=[]) (Q:=fun v' _=>v'= .int .i64 0) 6000 _ ?_;rw[hY]
 ·refine Nq (ids:=[]) (Q:=fun v' _=>v'= .int .i64 0) 6000 _ ?_;rw[iD]
 ·refine Nq (ids:=[]) (Q:=fun v' _=>v'= .int .i64 0) 9000 _ ?_;rw[iw]
theorem bI:C3 Tryz.prog B4 Bm Y5.F:=by
 refine VQ (fs:=[]) (A4.nil _ _) (n:=20) (by kernel_rfl) fun args h=>?_
 unfold Y5 at h;simp only at h;split at h
 ·exact⟨rfl,by simp,rfl,(YH h).Fk⟩
 ·exact h.elim
theorem c9 {X:Ctx} {f:FuncId} (hX:X.Ep f=some Y5.F) (args:List Value) (H:AA) (K:Value->AA->Prop) (h:fj args H K):∃v H',Bd X f args .normal H=some (v,H')/\K v H':=by
 unfold fj at h;split at h
 ·rename_i s;exact DF.al (q:=Y5) hX _ H K ⟨h.1,h.2⟩
 ·exact h.elim
theorem XB {X:Ctx} {f:FuncId} (hX:X.Ep f=some R8) (args:List Value) (H:AA) (K:Value->AA->Prop) (h:X4 args H K):∃v H',Bd X f args .normal H=some (v,H')/\K v H':=by
 unfold X4 at h;split at h
 ·rename_i s;refine⟨_,_,?_,h.2⟩;unfold Bd;simp only[hX];unfold R8;exact if_pos h.1
 ·exact h.elim
theorem Yr:C3 Tryz.prog B4 CF R8:=C3.sub Z3 fun args H r h=>by
 unfold R8 at h;split at h
 ·rename_i s;split at h
  ·rename_i hs;cases h
   have:To s=0:=by unfold To;rw[if_neg (by omega)]
   show some (Value.tuple ⟨[.string (Nm s),.int .i64 (To s)]⟩,H)=_;rw[this]
  ·cases h
 ·cases h
theorem bq:Eg SU Ka:=Ap (c9 (by kernel_rfl)) (Ap (XB (by kernel_rfl)) (A6 _))
theorem Ci {α:Type} {l:List α} {i:Nat} {d:α} (h:i < l.length):l.getD (0+Int.toNat (i:Int)) d=l[i]:=by
 rw[Nat.zero_add,Int.toNat_natCast,List.getD_eq_getElem?_getD,List.getElem?_eq_getElem h];rfl
theorem jo {n:Nat} (h:n<=9223372036854775807):Nat.ble n 9223372036854775807=true:=Nat.ble_eq_true_of_le h
theorem dv (l:List UInt8):ByteArray.size (ByteArray.mk l.toArray)=l.length:=rfl
theorem QM {b:Bool} {A B:Prop} (h:b=true) (h1:B):(bif !b then A else B):=by rw[h];exact h1
theorem Pr {s:ByteArray} (h:Kr s):s.size<=9:=by
 rcases h with rfl | rfl | rfl | rfl | rfl | rfl<;>decide
abbrev Wi:Value->List (Option AK)->Prop:=fun v _=>v= .int .i64 0
theorem Ov {k a b:Int} {key val:ByteArray} (h:Ex SU Ka Ac [] Wi 2000 (st Ac 11 [E2 k a b key val] Ha)):Ad SU 20 Ac (fun v _=>v= .int .i64 0) (st Ac 11 [E2 k a b key val] Ha):=
 (Bt bq (ids:=[]) (Q:=Wi) 2000 _ h).Fk
theorem eb {key val:ByteArray} (hk:Kr key) (hv:val.size<=512):Ex SU Ka Ac [] Wi 2000 (st Ac 11 [E2 1 0 0 key val] Ha):=by
 have h1:=Pr hk;have h2:=V4 val;rw[fe]
 repeat first | exact rfl | refine⟨rfl,?_⟩ | refine⟨hk,?_⟩ | refine⟨hv,?_⟩ | refine AH (jo (by simp only[ByteArray.size_append,dv,List.length_cons,List.length_nil];omega)) ?_ | refine QM (by simp) ?_
theorem fB {key:ByteArray} (hk:Kr key):Ex SU Ka Ac [] Wi 2000 (st Ac 11 [E2 2 0 0 key ByteArray.empty] Ha):=by
 have h1:=Pr hk;rw[ed]
 repeat first | exact rfl | refine⟨rfl,?_⟩ | refine⟨hk,?_⟩ | refine AH (jo (by simp only[ByteArray.size_append,dv,List.length_cons,List.length_nil];omega)) ?_ | refine QM (by simp) ?_
theorem fp {key:ByteArray} (hk:Kr key):Ex SU Ka Ac [] Wi 2000 (st Ac 11 [E2 3 0 0 key ByteArray.empty] Ha):=by
 have h1:=Pr hk;rw[fu]
 repeat first | exact rfl | refine⟨rfl,?_⟩ | refine⟨hk,?_⟩ | refine AH (jo (by simp only[ByteArray.size_append,dv,List.length_cons,List.length_nil];omega)) ?_ | refine QM (by simp) ?_
theorem aR:Ex SU Ka Ac [] Wi 2000 (st Ac 11 [E2 4 0 0 ByteArray.empty ByteArray.empty] Ha):=by
 rw[ez];exact⟨rfl,rfl,rfl,rfl⟩
theorem aG:Ex SU Ka Ac [] Wi 2000 (st Ac 11 [E2 5 0 0 ByteArray.empty ByteArray.empty] Ha):=by
 rw[eZ];exact⟨rfl,rfl,rfl,rfl⟩
theorem VD:Ex SU Ka Ac [] Wi 2000 (st Ac 11 [E2 8 0 0 ByteArray.empty ByteArray.empty] Ha):=by
 rw[eR];exact⟨rfl,rfl,rfl,rfl⟩
inductive EL:Int->Int->Int->ByteArray->ByteArray->Prop where
 | put (key val:ByteArray) (h:Kr key) (hv:val.size<=512):EL 1 0 0 key val
 | get (key:ByteArray) (h:Kr key):EL 2 0 0 key ByteArray.empty
 | del (key:ByteArray) (h:Kr key):EL 3 0 0 key ByteArray.empty
 | sync:EL 4 0 0 ByteArray.empty ByteArray.empty
 | step:EL 5 0 0 ByteArray.empty ByteArray.empty
 | Pn:EL 8 0 0 ByteArray.empty ByteArray.empty
 | YT:EL 7 0 0 ByteArray.empty ⟨#[48]⟩
 | YW:EL 7 5 0 ByteArray.empty ⟨#[48]⟩
open Classical in
def Hh (k a b:Int) (key val:ByteArray):Int:=if EL k a b key val then 0 else 1
structure Fe (k a b:Int) (key val:ByteArray):Prop where
 gd:EL k a b key val
theorem Em {k a b:Int} {key val:ByteArray} (h:EL k a b key val):Hh k a b key val=0:=if_pos h
theorem EL.ok {k a b:Int} {key val:ByteArray} (h:EL k a b key val):Fe k a b key val:=⟨h⟩
theorem Qt {k a b:Int} {key val:ByteArray} (h:VC X0 Ac [] Wi 20000 (st Ac 11 [E2 k a b key val] Ha)):BW X0 Ac (fun v _=>v= .int .i64 0) (st Ac 11 [E2 k a b key val] Ha):=
 Nq (ids:=[]) (Q:=Wi) 20000 _ h
theorem jI:VC X0 Ac [] Wi 20000 (st Ac 11 [E2 7 0 0 ByteArray.empty ⟨#[48]⟩] Ha):=by
 rw[az];repeat first | exact rfl | refine⟨rfl,?_⟩ | refine⟨by kernel_rfl,?_⟩
theorem ij:VC X0 Ac [] Wi 20000 (st Ac 11 [E2 7 5 0 ByteArray.empty ⟨#[48]⟩] Ha):=by
 rw[Zo];repeat first | exact rfl | refine⟨rfl,?_⟩ | refine⟨by kernel_rfl,?_⟩
theorem aH {k a b:Int} {key val:ByteArray} (h:EL k a b key val):Ad SU 20 Ac (fun v _=>v= .int .i64 0) (st Ac 11 [E2 k a b key val] Ha)∨BW X0 Ac (fun v _=>v= .int .i64 0) (st Ac 11 [E2 k a b key val] Ha):=by
 cases h with
 | put key val hk hv=>exact .inl (Ov (eb hk (by omega)))
 | get key hk=>exact .inl (Ov (fB hk))
 | del key hk=>exact .inl (Ov (fp hk))
 | sync=>exact .inl (Ov aR)
 | step=>exact .inl (Ov aG)
 | Pn=>exact .inl (Ov VD)
 | YT=>exact .inr (Qt jI)
 | YW=>exact .inr (Qt ij)
def Se:DF where
 ok:=fun args=>match args with
  | [.agg ⟨[.int .i64 k,.int .i64 a,.int .i64 b,.string key,.string val]⟩]=>Fe k a b key val
  | _=>False
 v:=fun args=>match args with
  | [.agg ⟨[.int .i64 k,.int .i64 a,.int .i64 b,.string key,.string val]⟩]=> .int .i64 (Hh k a b key val)
  | _=>Bn
def cG:EB:=fun args H K=>match args with
 | [.agg ⟨[.int .i64 k,.int .i64 a,.int .i64 b,.string key,.string val]⟩]=>Fe k a b key val/\K (.int .i64 (Hh k a b key val)) H
 | _=>False
theorem UD {X:Ctx} {f:FuncId} (hX:X.Ep f=some Se.F) (args:List Value) (H:AA) (K:Value->AA->Prop) (h:cG args H K):∃v H',Bd X f args .normal H=some (v,H')/\K v H':=by
 unfold cG at h;split at h
 ·exact DF.al (q:=Se) hX _ H K ⟨h.1,h.2⟩
 ·exact h.elim
theorem Uz:C3 Tryz.prog AL Ac Se.F:=by
 refine Tq (n:=11) (by kernel_rfl) fun args h=>?_
 unfold Se at h;simp only at h;split at h
 ·rename_i k a b key val;have he:Se.v [.agg ⟨[.int .i64 k,.int .i64 a,.int .i64 b,.string key,.string val]⟩]= .int .i64 0:=congrArg _ (Em h.gd);rw[he];refine⟨rfl,by simp,rfl,?_⟩;rcases aH h.gd with h1 | h1
  ·exact⟨iq,A4.cons bI (A4.cons Yr (A4.nil _ _)),h1⟩
  ·exact⟨[],A4.nil _ _,h1.Fk⟩
 ·exact h.elim
def gM (objs:List AK):Option (AB × Nat × Nat):=match objs with
 | [.cells [.int .i64 c0,.int .i64 c1,.int .i64 c2,.int .i64 c3,.int .i64 c4,.int .i64 c5,.int .i64 c6,.int .i64 lim,.pointer (some ⟨10,0,none⟩),.pointer (some ⟨11,0,none⟩),.int .i64 cost,.slice (some ⟨12,0,some 0⟩) n cap,.pointer none,.int .i64 st,.bool pl] 0 _,
  .abs (.pack (.table b)) _,.abs (.pack (.table nw)) _,.vec [.bool,.str,.str] AJ _]=>some (⟨[c0,c1,c2,c3,c4,c5,c6],lim,b,nw,cost,AJ,st,pl⟩,n,cap)
 | _=>none
theorem dG {objs:List AK} {m:AB} {n cap:Nat} (h:gM objs=some (m,n,cap)):∃r0 r1 r2 r3,objs=[.cells (BN m 10 11 (.slice (some ⟨12,0,some 0⟩) n cap)) 0 r0,.abs (.pack (.table m.base)) r1,.abs (.pack (.table m.now)) r2,.vec BL m.AJ r3]:=by
 unfold gM at h;split at h
 ·cases h;exact⟨_,_,_,_,rfl⟩
 ·cases h
def LQ (g:AB->List Value->GT) (args:List Value) (objs:List AK):GT:=
 match args with
 | .pointer (some ⟨9,0,none⟩)::rest=>match gM objs with
  | some (m,n,cap)=> .ask (n=m.AJ.length/\cap=AF) (g m rest)
  | none=> .fail
 | _=> .fail
abbrev Ko:List Bool:=[false,true,true,false]
abbrev RO:List Bool:=[true,true,true,true]
def gT (m:AB):List AK:=[.cells (BN m 10 11 (.slice (some ⟨12,0,some 0⟩) m.AJ.length AF)) 0 true,.abs (.pack (.table m.base)) false,.abs (.pack (.table m.now)) false,.vec BL m.AJ true]
theorem SJ {fs:List (FuncId × Cn)} (hfs:A4 Tryz.prog AL fs) {f:FuncId} {n:Nat} (he:entry Tryz.prog f=some (n,BI Tryz.prog f [])) {g:AB->List Value->GT}
 (hrun:∀m rest x,(g m rest).run=some x->rest.length+1<=n/\Aq (Cx Tryz.prog AL fs) 13 (fun b=>9<=b/\b < 13) f (fun v H=>CY AL 9 4 Ko x v H) (st f n (p9::rest) (BH ⟨.leaf,9⟩ (gT m)))):C3 Tryz.prog AL f (Al AL 9 Ko (LQ g)):=by
 refine BY hfs (by kernel_rfl) he (by kernel_rfl) fun argsc objs x hx hro=>?_
 unfold LQ at hx;split at hx
 ·rename_i rest;split at hx
  ·rename_i m k cap hg;obtain⟨r0,r1,r2,r3,rfl⟩:=dG hg;simp only[GT.run]at hx;split at hx
   ·rename_i hok;obtain⟨rfl,rfl⟩:=hok;have e1:r1=false:=hro 1 _ rfl rfl;have e2:r2=false:=hro 2 _ rfl rfl;subst e1 e2;obtain⟨g1,g2⟩:=hrun m rest x hx;exact⟨by simpa using g1,g2⟩
   ·cases hx
  ·cases hx
 ·cases hx
theorem W9 {fs:List (FuncId × Cn)} (hfs:A4 Tryz.prog AL fs) {f:FuncId} {n:Nat} (he:entry Tryz.prog f=some (n,BI Tryz.prog f [])) {g:AB->List Value->GT}
 (hrun:∀m rest x,(g m rest).run=some x->rest.length+1<=n/\Aq (Cx Tryz.prog AL fs) 13 (fun b=>9<=b/\b < 13) f (fun v H=>CY AL 9 4 RO x v H) (st f n (p9::rest) (BH ⟨.leaf,9⟩ (MS m)))):C3 Tryz.prog AL f (Al AL 9 RO (LQ g)):=by
 refine BY hfs (by kernel_rfl) he (by kernel_rfl) fun argsc objs x hx hro=>?_
 unfold LQ at hx;split at hx
 ·rename_i rest;split at hx
  ·rename_i m k cap hg;obtain⟨r0,r1,r2,r3,rfl⟩:=dG hg;simp only[GT.run]at hx;split at hx
   ·rename_i hok;obtain⟨rfl,rfl⟩:=hok;have e0:r0=false:=hro 0 _ rfl rfl;have e1:r1=false:=hro 1 _ rfl rfl;have e2:r2=false:=hro 2 _ rfl rfl;have e3:r3=false:=hro 3 _ rfl rfl;subst e0 e1 e2 e3;obtain⟨g1,g2⟩:=hrun m rest x hx;exact⟨by simpa using g1,g2⟩
   ·cases hx
  ·cases hx
 ·cases hx
theorem P5 {v v1:Value} {H:AA} {m:AB} {news:List AK} {ns:List Nat} (hb:H.get 10=some (Bi m.base)) (hn:H.get 11=some (Bi m.now)) (hns:ns.length=news.length) (hnd:ns.Nodup) (h13:∀b∈ns,13<=b)
 (hv:FC (CY.ID AL 9 4 ns) v=some v1) (hnew:∀(j b:Nat) (o:AK),ns[j]? = some b->news[j]? = some o->∃o1,BV (CY.ID AL 9 4 ns) o=some o1/\H.get b=some o1):
 CY AL 9 4 Ko ⟨v,[none,some (Bi m.base),some (Bi m.now),none],news⟩ v1 H:=by
 refine⟨ns,hnd,h13,hns,hv,hnew,fun j o hj hm ho=>?_⟩;cases j with
 | zero=>cases ho
 | succ j=>cases j with
  | zero=>cases ho;exact⟨_,rfl,hb⟩
  | succ j=>cases j with
   | zero=>cases ho;exact⟨_,rfl,hn⟩
   | succ j=>cases j with
    | zero=>cases ho
    | succ j=>omega
theorem VW (m:AB) (del:Bool) (key val:ByteArray) (Q:Value->List (Option AK)->Prop):Ex XM VV B9 [10,11] Q 500 (st B9 40 [p9,.agg ⟨[.bool del,.string key,.string val]⟩] (BH ⟨.leaf,9⟩ (gT m)))=(
 (Aw.ok BF (AB.now m) [Value.string key])/\(bif Option.isSome (DZ (AB.now m) key)then(((.bool (Option.isSome (DZ (AB.now m) key))):Value)=(.bool true))/\(bif del then(Q (.int .i64 (IntKind.wrap .i64 (AB.cost m - IntKind.wrap .i64 (IntKind.wrap .i64 (16+Int.ofNat (ByteArray.size key))+Int.ofNat (ByteArray.size (Option.getD (DZ (AB.now m) key) { data:=#[] })))))) [some (.abs (Ab.pack (Pk.table (AB.base m))) false),some (.abs (Ab.pack (Pk.table (Aw.nx BF (AB.now m) [Value.string key]))) false)])else(Q (.int .i64 (IntKind.wrap .i64 (IntKind.wrap .i64 (AB.cost m - IntKind.wrap .i64 (IntKind.wrap .i64 (16+Int.ofNat (ByteArray.size key))+Int.ofNat (ByteArray.size (Option.getD (DZ (AB.now m) key) { data:=#[] }))))+IntKind.wrap .i64 (IntKind.wrap .i64 (16+Int.ofNat (ByteArray.size key))+Int.ofNat (ByteArray.size val))))) [some (.abs (Ab.pack (Pk.table (AB.base m))) false),some (.abs (Ab.pack (Pk.table (Aw.nx BF (AB.now m) [Value.string key]))) false)]))else(((.bool (Option.isSome (DZ (AB.now m) key))):Value)=(.bool false))/\(bif del then(Q (.int .i64 (AB.cost m)) [some (.abs (Ab.pack (Pk.table (AB.base m))) false),some (.abs (Ab.pack (Pk.table (Aw.nx BF (AB.now m) [Value.string key]))) false)])else(Q (.int .i64 (IntKind.wrap .i64 (AB.cost m+IntKind.wrap .i64 (IntKind.wrap .i64 (16+Int.ofNat (ByteArray.size key))+Int.ofNat (ByteArray.size val))))) [some (.abs (Ab.pack (Pk.table (AB.base m))) false),some (.abs (Ab.pack (Pk.table (Aw.nx BF (AB.now m) [Value.string key]))) false)])))):=by kernel_rfl
def Pw (m:AB) (rest:List Value):GT:=
 match rest with
 | [.agg ⟨[.bool del,.string key,.string val]⟩]=> .ask (A5 m.now/\m.now.length < 1000000) (.ret ⟨.int .i64 (EU m del key val),[none,some (Bi m.base),some (Bi m.now),none],[]⟩)
 | _=> .fail
theorem T7:C3 Tryz.prog AL B9 (Al AL 9 Ko (LQ Pw)):=by
 refine SJ allM (by kernel_rfl) (n:=40) fun m rest x hx=>?_
 unfold Pw at hx;split at hx
 ·rename_i del key val;simp only[GT.run]at hx;split at hx
  ·rename_i hok;cases hx
   obtain⟨hs,hn⟩:=hok;refine⟨by simp,?_⟩;have hE:Ad XM 13 B9 (fun v H=>v= .int .i64 (EU m del key val)/\([10,11]++Af 4 v).map H.get=[some (Bi m.base),some (Bi m.now)]) (st B9 40 [p9,.agg ⟨[.bool del,.string key,.string val]⟩] (BH ⟨.leaf,9⟩ (gT m))):=by
    refine BW.Fk (Bt G0 (ids:=[10,11]) (Q:=fun v os=>v= .int .i64 (EU m del key val)/\os=[some (Bi m.base),some (Bi m.now)]) 500 _ ?_);rw[VW];unfold EU;refine⟨⟨hs,by omega,key,rfl⟩,Ae (fun h1=>⟨by rw[h1],Ae (fun h2=>⟨?_,rfl⟩) (fun h2=>⟨?_,rfl⟩)⟩) (fun h1=>⟨by rw[h1],Ae (fun h2=>⟨?_,rfl⟩) (fun h2=>⟨?_,rfl⟩)⟩)⟩
    all_goals (simp only[h1,h2,cond_true,cond_false]<;>rfl)
   refine hE.IC.mono ?_;rintro v H ⟨rfl,h⟩;have h:[H.get 10,H.get 11]=_:=h;simp only[List.cons.injEq,and_true]at h;exact P5 (ns:=[]) h.1 h.2 rfl List.nodup_nil (fun b hb=>by cases hb) rfl (fun j b o hj=>by cases hj)
  ·cases hx
 ·cases hx
abbrev jM:List (FuncId × Cn):=(B9,Al AL 9 Ko (LQ Pw))::jb
def jS:Ctx:=Cx Tryz.prog AL jM
def dr:Pf:=fun g=>bif Nat.beq g B9 then some (BU AL 9 Ko (LQ Pw))else VV g
theorem eF (m:AB) (k a b:Int) (key val:ByteArray) (Q:Value->List (Option AK)->Prop):Ex jS dr Ba [10,11] Q 2000 (st Ba 97 [p9,E2 k a b key val] (BH ⟨.leaf,9⟩ (gT m)))=(
 (Aw.ok BF (AB.now m) [Value.string key])/\(bif Option.isSome (DZ (AB.now m) key)then(((.bool (Option.isSome (DZ (AB.now m) key))):Value)=(.bool true))/\(bif decide (Int.ofNat (ByteArray.size key) > List.getD (AB.cfg m) 4 0)then(bif k==3 then(bif k==1 then(Q (.tuple ⟨[(.agg ⟨[(.int .i64 12),(.string e_)]⟩),(.pointer none),(.bool false)]⟩) [some (.abs (Ab.pack (Pk.table (AB.base m))) false),some (.abs (Ab.pack (Pk.table (Aw.nx BF (AB.now m) [Value.string key]))) false)])else(bif k==2 then(Q (.tuple ⟨[(.agg ⟨[(.int .i64 12),(.string e_)]⟩),(.pointer none),(.bool false)]⟩) [some (.abs (Ab.pack (Pk.table (AB.base m))) false),some (.abs (Ab.pack (Pk.table (Aw.nx BF (AB.now m) [Value.string key]))) false)])else(bif k==3 then(Q (.tuple ⟨[(.agg ⟨[(.int .i64 12),(.string e_)]⟩),(.pointer none),(.bool false)]⟩) [some (.abs (Ab.pack (Pk.table (AB.base m))) false),some (.abs (Ab.pack (Pk.table (Aw.nx BF (AB.now m) [Value.string key]))) false)])else(Q (.tuple ⟨[(.agg ⟨[(.int .i64 0),(.string e_)]⟩),(.pointer none),(.bool false)]⟩) [some (.abs (Ab.pack (Pk.table (AB.base m))) false),some (.abs (Ab.pack (Pk.table (Aw.nx BF (AB.now m) [Value.string key]))) false)]))))else(bif k==1 then(Q (.tuple ⟨[(.agg ⟨[(.int .i64 12),(.string e_)]⟩),(.pointer none),(.bool false)]⟩) [some (.abs (Ab.pack (Pk.table (AB.base m))) false),some (.abs (Ab.pack (Pk.table (Aw.nx BF (AB.now m) [Value.string key]))) false)])else(bif k==2 then(Q (.tuple ⟨[(.agg ⟨[(.int .i64 12),(.string e_)]⟩),(.pointer none),(.bool false)]⟩) [some (.abs (Ab.pack (Pk.table (AB.base m))) false),some (.abs (Ab.pack (Pk.table (Aw.nx BF (AB.now m) [Value.string key]))) false)])else(bif k==3 then(Q (.tuple ⟨[(.agg ⟨[(.int .i64 12),(.string e_)]⟩),(.pointer none),(.bool false)]⟩) [some (.abs (Ab.pack (Pk.table (AB.base m))) false),some (.abs (Ab.pack (Pk.table (Aw.nx BF (AB.now m) [Value.string key]))) false)])else(Q (.tuple ⟨[(.agg ⟨[(.int .i64 0),(.string e_)]⟩),(.pointer none),(.bool false)]⟩) [some (.abs (Ab.pack (Pk.table (AB.base m))) false),some (.abs (Ab.pack (Pk.table (Aw.nx BF (AB.now m) [Value.string key]))) false)])))))else(bif k==3 then(bif k==1 then(bif decide (Int.ofNat (ByteArray.size val) > List.getD (AB.cfg m) 5 0)then(Q (.tuple ⟨[(.agg ⟨[(.int .i64 12),(.string e_)]⟩),(.pointer none),(.bool false)]⟩) [some (.abs (Ab.pack (Pk.table (AB.base m))) false),some (.abs (Ab.pack (Pk.table (Aw.nx BF (AB.now m) [Value.string key]))) false)])else(List.length (AB.AJ m)=List.length (AB.AJ { cfg:=c_ (AB.cfg m),AN:=AB.AN m,base:=AB.base m,now:=Aw.nx BF (AB.now m) [Value.string key],cost:=AB.cost m,AJ:=AB.AJ m,state:=AB.state m,AG:=AB.AG m })/\AF=AF)/\(A5 (AB.now { cfg:=c_ (AB.cfg m),AN:=AB.AN m,base:=AB.base m,now:=Aw.nx BF (AB.now m) [Value.string key],cost:=AB.cost m,AJ:=AB.AJ m,state:=AB.state m,AG:=AB.AG m })/\List.length (AB.now { cfg:=c_ (AB.cfg m),AN:=AB.AN m,base:=AB.base m,now:=Aw.nx BF (AB.now m) [Value.string key],cost:=AB.cost m,AJ:=AB.AJ m,state:=AB.state m,AG:=AB.AG m }) < 1000000)/\(((.int .i64 (AB.AN m)):Value)=(.int .i64 (AB.AN m)))/\(((.pointer (some ⟨9,7,none⟩)):Value)=(.pointer (some ⟨9,7,none⟩)))/\(p_ 9=p_ 9)/\(p_ 9=p_ 9)/\(bif decide (EU { cfg:=c_ (AB.cfg m),AN:=AB.AN m,base:=AB.base m,now:=Aw.nx BF (AB.now m) [Value.string key],cost:=AB.cost m,AJ:=AB.AJ m,state:=AB.state m,AG:=AB.AG m } true key val > AB.AN m)then
 (Q (.tuple ⟨[(.agg ⟨[(.int .i64 4),(.string e_)]⟩),(.pointer none),(.bool false)]⟩) [some (.abs (Ab.pack (Pk.table (AB.base { cfg:=c_ (AB.cfg m),AN:=AB.AN m,base:=AB.base m,now:=Aw.nx BF (AB.now m) [Value.string key],cost:=AB.cost m,AJ:=AB.AJ m,state:=AB.state m,AG:=AB.AG m }))) false),some (.abs (Ab.pack (Pk.table (AB.now { cfg:=c_ (AB.cfg m),AN:=AB.AN m,base:=AB.base m,now:=Aw.nx BF (AB.now m) [Value.string key],cost:=AB.cost m,AJ:=AB.AJ m,state:=AB.state m,AG:=AB.AG m }))) false)])else(Q (.tuple ⟨[(.agg ⟨[(.int .i64 0),(.string e_)]⟩),(p_ 15),(.bool true)]⟩) [some (.abs (Ab.pack (Pk.table (AB.base { cfg:=c_ (AB.cfg m),AN:=AB.AN m,base:=AB.base m,now:=Aw.nx BF (AB.now m) [Value.string key],cost:=AB.cost m,AJ:=AB.AJ m,state:=AB.state m,AG:=AB.AG m }))) false),some (.abs (Ab.pack (Pk.table (AB.now { cfg:=c_ (AB.cfg m),AN:=AB.AN m,base:=AB.base m,now:=Aw.nx BF (AB.now m) [Value.string key],cost:=AB.cost m,AJ:=AB.AJ m,state:=AB.state m,AG:=AB.AG m }))) false),some (.cells [(.bool true),(.string key),(.string val)] 0 false)])))else(bif k==2 then(bif k==3 then(Q (.tuple ⟨[(.agg ⟨[(.int .i64 0),(.string e_)]⟩),(p_ 15),(.bool true)]⟩) [some (.abs (Ab.pack (Pk.table (AB.base m))) false),some (.abs (Ab.pack (Pk.table (Aw.nx BF (AB.now m) [Value.string key]))) false),some (.cells [(.bool true),(.string key),(.string val)] 0 false)])else(bif k==2 then(bif k==2 then(Q (.tuple ⟨[(.agg ⟨[(.int .i64 0),(.string (Option.getD (DZ (AB.now m) key) e_))]⟩),(.pointer none),(.bool false)]⟩) [some (.abs (Ab.pack (Pk.table (AB.base m))) false),some (.abs (Ab.pack (Pk.table (Aw.nx BF (AB.now m) [Value.string key]))) false)])else(Q (.tuple ⟨[(.agg ⟨[(.int .i64 0),(.string e_)]⟩),(.pointer none),(.bool false)]⟩) [some (.abs (Ab.pack (Pk.table (AB.base m))) false),some (.abs (Ab.pack (Pk.table (Aw.nx BF (AB.now m) [Value.string key]))) false)]))else(bif k==2 then(Q (.tuple ⟨[(.agg ⟨[(.int .i64 0),(.string (Option.getD (DZ (AB.now m) key) e_))]⟩),(.pointer none),(.bool false)]⟩) [some (.abs (Ab.pack (Pk.table (AB.base m))) false),some (.abs (Ab.pack (Pk.table (Aw.nx BF (AB.now m) [Value.string key]))) false)])else(Q (.tuple ⟨[(.agg ⟨[(.int .i64 0),(.string e_)]⟩),(.pointer none),(.bool false)]⟩) [some (.abs (Ab.pack (Pk.table (AB.base m))) false),some (.abs (Ab.pack (Pk.table (Aw.nx BF (AB.now m) [Value.string key]))) false)]))))else(bif k==3 then(bif k==3 then(Q (.tuple ⟨[(.agg ⟨[(.int .i64 0),(.string e_)]⟩),(p_ 15),(.bool true)]⟩) [some (.abs (Ab.pack (Pk.table (AB.base m))) false),some (.abs (Ab.pack (Pk.table (Aw.nx BF (AB.now m) [Value.string key]))) false),some (.cells [(.bool true),(.string key),(.string val)] 0 false)])else(bif k==2 then(bif k==2 then(Q (.tuple ⟨[(.agg ⟨[(.int .i64 0),(.string (Option.getD (DZ (AB.now m) key) e_))]⟩),(.pointer none),(.bool false)]⟩) [some (.abs (Ab.pack (Pk.table (AB.base m))) false),some (.abs (Ab.pack (Pk.table (Aw.nx BF (AB.now m) [Value.string key]))) false)])else(Q (.tuple ⟨[(.agg ⟨[(.int .i64 0),(.string e_)]⟩),(.pointer none),(.bool false)]⟩) [some (.abs (Ab.pack (Pk.table (AB.base m))) false),some (.abs (Ab.pack (Pk.table (Aw.nx BF (AB.now m) [Value.string key]))) false)]))else(bif k==2 then(Q (.tuple ⟨[(.agg ⟨[(.int .i64 0),(.string (Option.getD (DZ (AB.now m) key) e_))]⟩),(.pointer none),(.bool false)]⟩) [some (.abs (Ab.pack (Pk.table (AB.base m))) false),some (.abs (Ab.pack (Pk.table (Aw.nx BF (AB.now m) [Value.string key]))) false)])else
 (Q (.tuple ⟨[(.agg ⟨[(.int .i64 0),(.string e_)]⟩),(.pointer none),(.bool false)]⟩) [some (.abs (Ab.pack (Pk.table (AB.base m))) false),some (.abs (Ab.pack (Pk.table (Aw.nx BF (AB.now m) [Value.string key]))) false)]))))else(Q (.tuple ⟨[(.agg ⟨[(.int .i64 0),(.string e_)]⟩),(.pointer none),(.bool false)]⟩) [some (.abs (Ab.pack (Pk.table (AB.base m))) false),some (.abs (Ab.pack (Pk.table (Aw.nx BF (AB.now m) [Value.string key]))) false)]))))else(bif k==1 then(bif decide (Int.ofNat (ByteArray.size val) > List.getD (AB.cfg m) 5 0)then(Q (.tuple ⟨[(.agg ⟨[(.int .i64 12),(.string e_)]⟩),(.pointer none),(.bool false)]⟩) [some (.abs (Ab.pack (Pk.table (AB.base m))) false),some (.abs (Ab.pack (Pk.table (Aw.nx BF (AB.now m) [Value.string key]))) false)])else(List.length (AB.AJ m)=List.length (AB.AJ { cfg:=c_ (AB.cfg m),AN:=AB.AN m,base:=AB.base m,now:=Aw.nx BF (AB.now m) [Value.string key],cost:=AB.cost m,AJ:=AB.AJ m,state:=AB.state m,AG:=AB.AG m })/\AF=AF)/\(A5 (AB.now { cfg:=c_ (AB.cfg m),AN:=AB.AN m,base:=AB.base m,now:=Aw.nx BF (AB.now m) [Value.string key],cost:=AB.cost m,AJ:=AB.AJ m,state:=AB.state m,AG:=AB.AG m })/\List.length (AB.now { cfg:=c_ (AB.cfg m),AN:=AB.AN m,base:=AB.base m,now:=Aw.nx BF (AB.now m) [Value.string key],cost:=AB.cost m,AJ:=AB.AJ m,state:=AB.state m,AG:=AB.AG m }) < 1000000)/\(((.int .i64 (AB.AN m)):Value)=(.int .i64 (AB.AN m)))/\(((.pointer (some ⟨9,7,none⟩)):Value)=(.pointer (some ⟨9,7,none⟩)))/\(p_ 9=p_ 9)/\(p_ 9=p_ 9)/\(bif decide (EU { cfg:=c_ (AB.cfg m),AN:=AB.AN m,base:=AB.base m,now:=Aw.nx BF (AB.now m) [Value.string key],cost:=AB.cost m,AJ:=AB.AJ m,state:=AB.state m,AG:=AB.AG m } false key val > AB.AN m)then(Q (.tuple ⟨[(.agg ⟨[(.int .i64 4),(.string e_)]⟩),(.pointer none),(.bool false)]⟩) [some (.abs (Ab.pack (Pk.table (AB.base { cfg:=c_ (AB.cfg m),AN:=AB.AN m,base:=AB.base m,now:=Aw.nx BF (AB.now m) [Value.string key],cost:=AB.cost m,AJ:=AB.AJ m,state:=AB.state m,AG:=AB.AG m }))) false),some (.abs (Ab.pack (Pk.table (AB.now { cfg:=c_ (AB.cfg m),AN:=AB.AN m,base:=AB.base m,now:=Aw.nx BF (AB.now m) [Value.string key],cost:=AB.cost m,AJ:=AB.AJ m,state:=AB.state m,AG:=AB.AG m }))) false)])else(Q (.tuple ⟨[(.agg ⟨[(.int .i64 0),(.string e_)]⟩),(p_ 15),(.bool true)]⟩) [some (.abs (Ab.pack (Pk.table (AB.base { cfg:=c_ (AB.cfg m),AN:=AB.AN m,base:=AB.base m,now:=Aw.nx BF (AB.now m) [Value.string key],cost:=AB.cost m,AJ:=AB.AJ m,state:=AB.state m,AG:=AB.AG m }))) false),some (.abs (Ab.pack (Pk.table (AB.now { cfg:=c_ (AB.cfg m),AN:=AB.AN m,base:=AB.base m,now:=Aw.nx BF (AB.now m) [Value.string key],cost:=AB.cost m,AJ:=AB.AJ m,state:=AB.state m,AG:=AB.AG m }))) false),some (.cells [(.bool false),(.string key),(.string val)] 0 false)])))else(bif k==2 then(bif k==3 then(Q (.tuple ⟨[(.agg ⟨[(.int .i64 0),(.string e_)]⟩),(p_ 15),(.bool true)]⟩) [some (.abs (Ab.pack (Pk.table (AB.base m))) false),some (.abs (Ab.pack (Pk.table (Aw.nx BF (AB.now m) [Value.string key]))) false),some (.cells [(.bool false),(.string key),(.string val)] 0 false)])else(bif k==2 then(bif k==2 then(Q (.tuple ⟨[(.agg ⟨[(.int .i64 0),(.string (Option.getD (DZ (AB.now m) key) e_))]⟩),(.pointer none),(.bool false)]⟩) [some (.abs (Ab.pack (Pk.table (AB.base m))) false),some (.abs (Ab.pack (Pk.table (Aw.nx BF (AB.now m) [Value.string key]))) false)])else
 (Q (.tuple ⟨[(.agg ⟨[(.int .i64 0),(.string e_)]⟩),(.pointer none),(.bool false)]⟩) [some (.abs (Ab.pack (Pk.table (AB.base m))) false),some (.abs (Ab.pack (Pk.table (Aw.nx BF (AB.now m) [Value.string key]))) false)]))else(bif k==2 then(Q (.tuple ⟨[(.agg ⟨[(.int .i64 0),(.string (Option.getD (DZ (AB.now m) key) e_))]⟩),(.pointer none),(.bool false)]⟩) [some (.abs (Ab.pack (Pk.table (AB.base m))) false),some (.abs (Ab.pack (Pk.table (Aw.nx BF (AB.now m) [Value.string key]))) false)])else(Q (.tuple ⟨[(.agg ⟨[(.int .i64 0),(.string e_)]⟩),(.pointer none),(.bool false)]⟩) [some (.abs (Ab.pack (Pk.table (AB.base m))) false),some (.abs (Ab.pack (Pk.table (Aw.nx BF (AB.now m) [Value.string key]))) false)]))))else(bif k==3 then(bif k==3 then(Q (.tuple ⟨[(.agg ⟨[(.int .i64 0),(.string e_)]⟩),(p_ 15),(.bool true)]⟩) [some (.abs (Ab.pack (Pk.table (AB.base m))) false),some (.abs (Ab.pack (Pk.table (Aw.nx BF (AB.now m) [Value.string key]))) false),some (.cells [(.bool false),(.string key),(.string val)] 0 false)])else(bif k==2 then(bif k==2 then(Q (.tuple ⟨[(.agg ⟨[(.int .i64 0),(.string (Option.getD (DZ (AB.now m) key) e_))]⟩),(.pointer none),(.bool false)]⟩) [some (.abs (Ab.pack (Pk.table (AB.base m))) false),some (.abs (Ab.pack (Pk.table (Aw.nx BF (AB.now m) [Value.string key]))) false)])else(Q (.tuple ⟨[(.agg ⟨[(.int .i64 0),(.string e_)]⟩),(.pointer none),(.bool false)]⟩) [some (.abs (Ab.pack (Pk.table (AB.base m))) false),some (.abs (Ab.pack (Pk.table (Aw.nx BF (AB.now m) [Value.string key]))) false)]))else(bif k==2 then(Q (.tuple ⟨[(.agg ⟨[(.int .i64 0),(.string (Option.getD (DZ (AB.now m) key) e_))]⟩),(.pointer none),(.bool false)]⟩) [some (.abs (Ab.pack (Pk.table (AB.base m))) false),some (.abs (Ab.pack (Pk.table (Aw.nx BF (AB.now m) [Value.string key]))) false)])else(Q (.tuple ⟨[(.agg ⟨[(.int .i64 0),(.string e_)]⟩),(.pointer none),(.bool false)]⟩) [some (.abs (Ab.pack (Pk.table (AB.base m))) false),some (.abs (Ab.pack (Pk.table (Aw.nx BF (AB.now m) [Value.string key]))) false)]))))else(Q (.tuple ⟨[(.agg ⟨[(.int .i64 0),(.string e_)]⟩),(.pointer none),(.bool false)]⟩) [some (.abs (Ab.pack (Pk.table (AB.base m))) false),some (.abs (Ab.pack (Pk.table (Aw.nx BF (AB.now m) [Value.string key]))) false)]))))))else(((.bool (Option.isSome (DZ (AB.now m) key))):Value)=(.bool false))/\(bif decide (Int.ofNat (ByteArray.size key) > List.getD (AB.cfg m) 4 0)then(bif k==3 then(bif k==1 then(Q (.tuple ⟨[(.agg ⟨[(.int .i64 12),(.string e_)]⟩),(.pointer none),(.bool false)]⟩) [some (.abs (Ab.pack (Pk.table (AB.base m))) false),some (.abs (Ab.pack (Pk.table (Aw.nx BF (AB.now m) [Value.string key]))) false)])else(bif k==2 then(Q (.tuple ⟨[(.agg ⟨[(.int .i64 12),(.string e_)]⟩),(.pointer none),(.bool false)]⟩) [some (.abs (Ab.pack (Pk.table (AB.base m))) false),some (.abs (Ab.pack (Pk.table (Aw.nx BF (AB.now m) [Value.string key]))) false)])else(bif k==3 then(Q (.tuple ⟨[(.agg ⟨[(.int .i64 12),(.string e_)]⟩),(.pointer none),(.bool false)]⟩) [some (.abs (Ab.pack (Pk.table (AB.base m))) false),some (.abs (Ab.pack (Pk.table (Aw.nx BF (AB.now m) [Value.string key]))) false)])else(Q (.tuple ⟨[(.agg ⟨[(.int .i64 0),(.string e_)]⟩),(.pointer none),(.bool false)]⟩) [some (.abs (Ab.pack (Pk.table (AB.base m))) false),some (.abs (Ab.pack (Pk.table (Aw.nx BF (AB.now m) [Value.string key]))) false)]))))else(bif k==1 then(Q (.tuple ⟨[(.agg ⟨[(.int .i64 12),(.string e_)]⟩),(.pointer none),(.bool false)]⟩) [some (.abs (Ab.pack (Pk.table (AB.base m))) false),some (.abs (Ab.pack (Pk.table (Aw.nx BF (AB.now m) [Value.string key]))) false)])else(bif k==2 then
 (Q (.tuple ⟨[(.agg ⟨[(.int .i64 12),(.string e_)]⟩),(.pointer none),(.bool false)]⟩) [some (.abs (Ab.pack (Pk.table (AB.base m))) false),some (.abs (Ab.pack (Pk.table (Aw.nx BF (AB.now m) [Value.string key]))) false)])else(bif k==3 then(Q (.tuple ⟨[(.agg ⟨[(.int .i64 12),(.string e_)]⟩),(.pointer none),(.bool false)]⟩) [some (.abs (Ab.pack (Pk.table (AB.base m))) false),some (.abs (Ab.pack (Pk.table (Aw.nx BF (AB.now m) [Value.string key]))) false)])else(Q (.tuple ⟨[(.agg ⟨[(.int .i64 0),(.string e_)]⟩),(.pointer none),(.bool false)]⟩) [some (.abs (Ab.pack (Pk.table (AB.base m))) false),some (.abs (Ab.pack (Pk.table (Aw.nx BF (AB.now m) [Value.string key]))) false)])))))else(bif k==3 then(bif k==1 then(bif decide (Int.ofNat (ByteArray.size val) > List.getD (AB.cfg m) 5 0)then(Q (.tuple ⟨[(.agg ⟨[(.int .i64 12),(.string e_)]⟩),(.pointer none),(.bool false)]⟩) [some (.abs (Ab.pack (Pk.table (AB.base m))) false),some (.abs (Ab.pack (Pk.table (Aw.nx BF (AB.now m) [Value.string key]))) false)])else(List.length (AB.AJ m)=List.length (AB.AJ { cfg:=c_ (AB.cfg m),AN:=AB.AN m,base:=AB.base m,now:=Aw.nx BF (AB.now m) [Value.string key],cost:=AB.cost m,AJ:=AB.AJ m,state:=AB.state m,AG:=AB.AG m })/\AF=AF)/\(A5 (AB.now { cfg:=c_ (AB.cfg m),AN:=AB.AN m,base:=AB.base m,now:=Aw.nx BF (AB.now m) [Value.string key],cost:=AB.cost m,AJ:=AB.AJ m,state:=AB.state m,AG:=AB.AG m })/\List.length (AB.now { cfg:=c_ (AB.cfg m),AN:=AB.AN m,base:=AB.base m,now:=Aw.nx BF (AB.now m) [Value.string key],cost:=AB.cost m,AJ:=AB.AJ m,state:=AB.state m,AG:=AB.AG m }) < 1000000)/\(((.int .i64 (AB.AN m)):Value)=(.int .i64 (AB.AN m)))/\(((.pointer (some ⟨9,7,none⟩)):Value)=(.pointer (some ⟨9,7,none⟩)))/\(p_ 9=p_ 9)/\(p_ 9=p_ 9)/\(bif decide (EU { cfg:=c_ (AB.cfg m),AN:=AB.AN m,base:=AB.base m,now:=Aw.nx BF (AB.now m) [Value.string key],cost:=AB.cost m,AJ:=AB.AJ m,state:=AB.state m,AG:=AB.AG m } true key val > AB.AN m)then(Q (.tuple ⟨[(.agg ⟨[(.int .i64 4),(.string e_)]⟩),(.pointer none),(.bool false)]⟩) [some (.abs (Ab.pack (Pk.table (AB.base { cfg:=c_ (AB.cfg m),AN:=AB.AN m,base:=AB.base m,now:=Aw.nx BF (AB.now m) [Value.string key],cost:=AB.cost m,AJ:=AB.AJ m,state:=AB.state m,AG:=AB.AG m }))) false),some (.abs (Ab.pack (Pk.table (AB.now { cfg:=c_ (AB.cfg m),AN:=AB.AN m,base:=AB.base m,now:=Aw.nx BF (AB.now m) [Value.string key],cost:=AB.cost m,AJ:=AB.AJ m,state:=AB.state m,AG:=AB.AG m }))) false)])else(Q (.tuple ⟨[(.agg ⟨[(.int .i64 0),(.string e_)]⟩),(p_ 15),(.bool true)]⟩) [some (.abs (Ab.pack (Pk.table (AB.base { cfg:=c_ (AB.cfg m),AN:=AB.AN m,base:=AB.base m,now:=Aw.nx BF (AB.now m) [Value.string key],cost:=AB.cost m,AJ:=AB.AJ m,state:=AB.state m,AG:=AB.AG m }))) false),some (.abs (Ab.pack (Pk.table (AB.now { cfg:=c_ (AB.cfg m),AN:=AB.AN m,base:=AB.base m,now:=Aw.nx BF (AB.now m) [Value.string key],cost:=AB.cost m,AJ:=AB.AJ m,state:=AB.state m,AG:=AB.AG m }))) false),some (.cells [(.bool true),(.string key),(.string val)] 0 false)])))else(bif k==2 then(bif k==3 then(bif k==2 then(Q (.tuple ⟨[(.agg ⟨[(.int .i64 5),(.string e_)]⟩),(.pointer none),(.bool false)]⟩) [some (.abs (Ab.pack (Pk.table (AB.base m))) false),some (.abs (Ab.pack (Pk.table (Aw.nx BF (AB.now m) [Value.string key]))) false)])else(bif k==2 then
 (Q (.tuple ⟨[(.agg ⟨[(.int .i64 0),(.string (Option.getD (DZ (AB.now m) key) e_))]⟩),(.pointer none),(.bool false)]⟩) [some (.abs (Ab.pack (Pk.table (AB.base m))) false),some (.abs (Ab.pack (Pk.table (Aw.nx BF (AB.now m) [Value.string key]))) false)])else(Q (.tuple ⟨[(.agg ⟨[(.int .i64 0),(.string e_)]⟩),(.pointer none),(.bool false)]⟩) [some (.abs (Ab.pack (Pk.table (AB.base m))) false),some (.abs (Ab.pack (Pk.table (Aw.nx BF (AB.now m) [Value.string key]))) false)])))else(bif k==2 then(Q (.tuple ⟨[(.agg ⟨[(.int .i64 5),(.string e_)]⟩),(.pointer none),(.bool false)]⟩) [some (.abs (Ab.pack (Pk.table (AB.base m))) false),some (.abs (Ab.pack (Pk.table (Aw.nx BF (AB.now m) [Value.string key]))) false)])else(bif k==2 then(Q (.tuple ⟨[(.agg ⟨[(.int .i64 0),(.string (Option.getD (DZ (AB.now m) key) e_))]⟩),(.pointer none),(.bool false)]⟩) [some (.abs (Ab.pack (Pk.table (AB.base m))) false),some (.abs (Ab.pack (Pk.table (Aw.nx BF (AB.now m) [Value.string key]))) false)])else(Q (.tuple ⟨[(.agg ⟨[(.int .i64 0),(.string e_)]⟩),(.pointer none),(.bool false)]⟩) [some (.abs (Ab.pack (Pk.table (AB.base m))) false),some (.abs (Ab.pack (Pk.table (Aw.nx BF (AB.now m) [Value.string key]))) false)]))))else(bif k==3 then(bif k==3 then(bif k==2 then(Q (.tuple ⟨[(.agg ⟨[(.int .i64 5),(.string e_)]⟩),(.pointer none),(.bool false)]⟩) [some (.abs (Ab.pack (Pk.table (AB.base m))) false),some (.abs (Ab.pack (Pk.table (Aw.nx BF (AB.now m) [Value.string key]))) false)])else(bif k==2 then(Q (.tuple ⟨[(.agg ⟨[(.int .i64 0),(.string (Option.getD (DZ (AB.now m) key) e_))]⟩),(.pointer none),(.bool false)]⟩) [some (.abs (Ab.pack (Pk.table (AB.base m))) false),some (.abs (Ab.pack (Pk.table (Aw.nx BF (AB.now m) [Value.string key]))) false)])else(Q (.tuple ⟨[(.agg ⟨[(.int .i64 0),(.string e_)]⟩),(.pointer none),(.bool false)]⟩) [some (.abs (Ab.pack (Pk.table (AB.base m))) false),some (.abs (Ab.pack (Pk.table (Aw.nx BF (AB.now m) [Value.string key]))) false)])))else(bif k==2 then(Q (.tuple ⟨[(.agg ⟨[(.int .i64 5),(.string e_)]⟩),(.pointer none),(.bool false)]⟩) [some (.abs (Ab.pack (Pk.table (AB.base m))) false),some (.abs (Ab.pack (Pk.table (Aw.nx BF (AB.now m) [Value.string key]))) false)])else(bif k==2 then(Q (.tuple ⟨[(.agg ⟨[(.int .i64 0),(.string (Option.getD (DZ (AB.now m) key) e_))]⟩),(.pointer none),(.bool false)]⟩) [some (.abs (Ab.pack (Pk.table (AB.base m))) false),some (.abs (Ab.pack (Pk.table (Aw.nx BF (AB.now m) [Value.string key]))) false)])else(Q (.tuple ⟨[(.agg ⟨[(.int .i64 0),(.string e_)]⟩),(.pointer none),(.bool false)]⟩) [some (.abs (Ab.pack (Pk.table (AB.base m))) false),some (.abs (Ab.pack (Pk.table (Aw.nx BF (AB.now m) [Value.string key]))) false)]))))else(Q (.tuple ⟨[(.agg ⟨[(.int .i64 0),(.string e_)]⟩),(.pointer none),(.bool false)]⟩) [some (.abs (Ab.pack (Pk.table (AB.base m))) false),some (.abs (Ab.pack (Pk.table (Aw.nx BF (AB.now m) [Value.string key]))) false)]))))else(bif k==1 then(bif decide (Int.ofNat (ByteArray.size val) > List.getD (AB.cfg m) 5 0)then(Q (.tuple ⟨[(.agg ⟨[(.int .i64 12),(.string e_)]⟩),(.pointer none),(.bool false)]⟩) [some (.abs (Ab.pack (Pk.table (AB.base m))) false),some (.abs (Ab.pack (Pk.table (Aw.nx BF (AB.now m) [Value.string key]))) false)])else(List.length (AB.AJ m)=List.length (AB.AJ { cfg:=c_ (AB.cfg m),AN:=AB.AN m,base:=AB.base m,now:=Aw.nx BF (AB.now m) [Value.string key],cost:=AB.cost m,AJ:=AB.AJ m,state:=AB.state m,AG:=AB.AG m })/\AF=AF)/\
 (A5 (AB.now { cfg:=c_ (AB.cfg m),AN:=AB.AN m,base:=AB.base m,now:=Aw.nx BF (AB.now m) [Value.string key],cost:=AB.cost m,AJ:=AB.AJ m,state:=AB.state m,AG:=AB.AG m })/\List.length (AB.now { cfg:=c_ (AB.cfg m),AN:=AB.AN m,base:=AB.base m,now:=Aw.nx BF (AB.now m) [Value.string key],cost:=AB.cost m,AJ:=AB.AJ m,state:=AB.state m,AG:=AB.AG m }) < 1000000)/\(((.int .i64 (AB.AN m)):Value)=(.int .i64 (AB.AN m)))/\(((.pointer (some ⟨9,7,none⟩)):Value)=(.pointer (some ⟨9,7,none⟩)))/\(p_ 9=p_ 9)/\(p_ 9=p_ 9)/\(bif decide (EU { cfg:=c_ (AB.cfg m),AN:=AB.AN m,base:=AB.base m,now:=Aw.nx BF (AB.now m) [Value.string key],cost:=AB.cost m,AJ:=AB.AJ m,state:=AB.state m,AG:=AB.AG m } false key val > AB.AN m)then(Q (.tuple ⟨[(.agg ⟨[(.int .i64 4),(.string e_)]⟩),(.pointer none),(.bool false)]⟩) [some (.abs (Ab.pack (Pk.table (AB.base { cfg:=c_ (AB.cfg m),AN:=AB.AN m,base:=AB.base m,now:=Aw.nx BF (AB.now m) [Value.string key],cost:=AB.cost m,AJ:=AB.AJ m,state:=AB.state m,AG:=AB.AG m }))) false),some (.abs (Ab.pack (Pk.table (AB.now { cfg:=c_ (AB.cfg m),AN:=AB.AN m,base:=AB.base m,now:=Aw.nx BF (AB.now m) [Value.string key],cost:=AB.cost m,AJ:=AB.AJ m,state:=AB.state m,AG:=AB.AG m }))) false)])else(Q (.tuple ⟨[(.agg ⟨[(.int .i64 0),(.string e_)]⟩),(p_ 15),(.bool true)]⟩) [some (.abs (Ab.pack (Pk.table (AB.base { cfg:=c_ (AB.cfg m),AN:=AB.AN m,base:=AB.base m,now:=Aw.nx BF (AB.now m) [Value.string key],cost:=AB.cost m,AJ:=AB.AJ m,state:=AB.state m,AG:=AB.AG m }))) false),some (.abs (Ab.pack (Pk.table (AB.now { cfg:=c_ (AB.cfg m),AN:=AB.AN m,base:=AB.base m,now:=Aw.nx BF (AB.now m) [Value.string key],cost:=AB.cost m,AJ:=AB.AJ m,state:=AB.state m,AG:=AB.AG m }))) false),some (.cells [(.bool false),(.string key),(.string val)] 0 false)])))else(bif k==2 then(bif k==3 then(bif k==2 then(Q (.tuple ⟨[(.agg ⟨[(.int .i64 5),(.string e_)]⟩),(.pointer none),(.bool false)]⟩) [some (.abs (Ab.pack (Pk.table (AB.base m))) false),some (.abs (Ab.pack (Pk.table (Aw.nx BF (AB.now m) [Value.string key]))) false)])else(bif k==2 then(Q (.tuple ⟨[(.agg ⟨[(.int .i64 0),(.string (Option.getD (DZ (AB.now m) key) e_))]⟩),(.pointer none),(.bool false)]⟩) [some (.abs (Ab.pack (Pk.table (AB.base m))) false),some (.abs (Ab.pack (Pk.table (Aw.nx BF (AB.now m) [Value.string key]))) false)])else(Q (.tuple ⟨[(.agg ⟨[(.int .i64 0),(.string e_)]⟩),(.pointer none),(.bool false)]⟩) [some (.abs (Ab.pack (Pk.table (AB.base m))) false),some (.abs (Ab.pack (Pk.table (Aw.nx BF (AB.now m) [Value.string key]))) false)])))else(bif k==2 then(Q (.tuple ⟨[(.agg ⟨[(.int .i64 5),(.string e_)]⟩),(.pointer none),(.bool false)]⟩) [some (.abs (Ab.pack (Pk.table (AB.base m))) false),some (.abs (Ab.pack (Pk.table (Aw.nx BF (AB.now m) [Value.string key]))) false)])else(bif k==2 then(Q (.tuple ⟨[(.agg ⟨[(.int .i64 0),(.string (Option.getD (DZ (AB.now m) key) e_))]⟩),(.pointer none),(.bool false)]⟩) [some (.abs (Ab.pack (Pk.table (AB.base m))) false),some (.abs (Ab.pack (Pk.table (Aw.nx BF (AB.now m) [Value.string key]))) false)])else(Q (.tuple ⟨[(.agg ⟨[(.int .i64 0),(.string e_)]⟩),(.pointer none),(.bool false)]⟩) [some (.abs (Ab.pack (Pk.table (AB.base m))) false),some (.abs (Ab.pack (Pk.table (Aw.nx BF (AB.now m) [Value.string key]))) false)]))))else(bif k==3 then(bif k==3 then(bif k==2 then
 (Q (.tuple ⟨[(.agg ⟨[(.int .i64 5),(.string e_)]⟩),(.pointer none),(.bool false)]⟩) [some (.abs (Ab.pack (Pk.table (AB.base m))) false),some (.abs (Ab.pack (Pk.table (Aw.nx BF (AB.now m) [Value.string key]))) false)])else(bif k==2 then(Q (.tuple ⟨[(.agg ⟨[(.int .i64 0),(.string (Option.getD (DZ (AB.now m) key) e_))]⟩),(.pointer none),(.bool false)]⟩) [some (.abs (Ab.pack (Pk.table (AB.base m))) false),some (.abs (Ab.pack (Pk.table (Aw.nx BF (AB.now m) [Value.string key]))) false)])else(Q (.tuple ⟨[(.agg ⟨[(.int .i64 0),(.string e_)]⟩),(.pointer none),(.bool false)]⟩) [some (.abs (Ab.pack (Pk.table (AB.base m))) false),some (.abs (Ab.pack (Pk.table (Aw.nx BF (AB.now m) [Value.string key]))) false)])))else(bif k==2 then(Q (.tuple ⟨[(.agg ⟨[(.int .i64 5),(.string e_)]⟩),(.pointer none),(.bool false)]⟩) [some (.abs (Ab.pack (Pk.table (AB.base m))) false),some (.abs (Ab.pack (Pk.table (Aw.nx BF (AB.now m) [Value.string key]))) false)])else(bif k==2 then(Q (.tuple ⟨[(.agg ⟨[(.int .i64 0),(.string (Option.getD (DZ (AB.now m) key) e_))]⟩),(.pointer none),(.bool false)]⟩) [some (.abs (Ab.pack (Pk.table (AB.base m))) false),some (.abs (Ab.pack (Pk.table (Aw.nx BF (AB.now m) [Value.string key]))) false)])else(Q (.tuple ⟨[(.agg ⟨[(.int .i64 0),(.string e_)]⟩),(.pointer none),(.bool false)]⟩) [some (.abs (Ab.pack (Pk.table (AB.base m))) false),some (.abs (Ab.pack (Pk.table (Aw.nx BF (AB.now m) [Value.string key]))) false)]))))else(Q (.tuple ⟨[(.agg ⟨[(.int .i64 0),(.string e_)]⟩),(.pointer none),(.bool false)]⟩) [some (.abs (Ab.pack (Pk.table (AB.base m))) false),some (.abs (Ab.pack (Pk.table (Aw.nx BF (AB.now m) [Value.string key]))) false)])))))))):=by kernel_rfl
theorem bW:Eg jS dr:=Ap (fun _ _ _ h=>A9 (by kernel_rfl) h) (Ap (fun _ _ _ h=>A9 (by kernel_rfl) h) (Ap (fun _ _ _ h=>A9 (by kernel_rfl) h) (Ap (fun _ _ _ h=>A9 (by kernel_rfl) h) (Ap (fun _ _ _ h=>A9 (by kernel_rfl) h)
 (Ap (fun _ _ _ h=>A9 (by kernel_rfl) h) (Ap (fun _ _ _ h=>A9 (by kernel_rfl) h) (A6 _)))))))
theorem hZ:A4 Tryz.prog AL jM:=A4.cons T7 allM
def e0:ByteArray:={ data:=#[] }
def VA (m:AB) (key:ByteArray):Bool:=decide (Int.ofNat (ByteArray.size key) > List.getD m.cfg 4 0)
def cv (m:AB) (val:ByteArray):Bool:=decide (Int.ofNat (ByteArray.size val) > List.getD m.cfg 5 0)
def Yy (m:AB) (key:ByteArray):Bool:=Option.isSome (DZ m.now key)
def Uj (m:AB) (key val:ByteArray):Bool:=decide (EU m false key val > m.AN)
def CI (m:AB) (k:Int) (key val:ByteArray):Int × ByteArray × Bool:=
 bif k==1 then(bif VA m key||cv m val then(12,e0,false)else bif Uj m key val then(4,e0,false)else(0,e0,true))
 else bif k==2 then(bif VA m key then(12,e0,false)else bif Yy m key then(0,(DZ m.now key).getD e0,false)else(5,e0,false))
 else bif k==3 then(bif VA m key then(12,e0,false)else bif Yy m key then(0,e0,true)else(0,e0,false))
 else(0,e0,false)
def Tw (k:Int) (key val:ByteArray):AK:= .cells [.bool (k==3),.string key,.string val] 0 false
def cP (m:AB) (rest:List Value):GT:=
 match rest with
 | [.agg ⟨[.int .i64 k,.int .i64 _,.int .i64 _,.string key,.string val]⟩]=> .ask (A5 m.now/\m.now.length < 1000000)
  (.test (CI m k key val).2.2 (.ret ⟨.tuple ⟨[.agg ⟨[.int .i64 (CI m k key val).1,.string (CI m k key val).2.1]⟩,.pointer (some ⟨13,0,none⟩),.bool true]⟩,[none,some (Bi m.base),some (Bi m.now),none],[Tw k key val]⟩)
   (.ret ⟨.tuple ⟨[.agg ⟨[.int .i64 (CI m k key val).1,.string (CI m k key val).2.1]⟩,.pointer none,.bool false]⟩,[none,some (Bi m.base),some (Bi m.now),none],[]⟩))
 | _=> .fail
def fX (m:AB) (k:Int) (key val:ByteArray) (v:Value) (os:List (Option AK)):Prop:=
 ∃e s,((CI m k key val=(e,s,true)/\v= .tuple ⟨[.agg ⟨[.int .i64 e,.string s]⟩,.pointer (some ⟨15,0,none⟩),.bool true]⟩/\os=[some (Bi m.base),some (Bi m.now),some (Tw k key val)])∨
  (CI m k key val=(e,s,false)/\v= .tuple ⟨[.agg ⟨[.int .i64 e,.string s]⟩,.pointer none,.bool false]⟩/\os=[some (Bi m.base),some (Bi m.now)]))
theorem ei (m:AB) (k a b:Int) (key val:ByteArray) (hs:A5 m.now) (hn:m.now.length < 1000000):
 Ex jS dr Ba [10,11] (fX m k key val) 2000 (st Ba 97 [p9,E2 k a b key val] (BH ⟨.leaf,9⟩ (gT m))):=by
 have hok:Aw.ok BF (AB.now m) [Value.string key]:=⟨hs,by omega,key,rfl⟩;rw[eF];refine⟨hok,?_⟩;have hc:(k==1)=true/\(k==2)=false/\(k==3)=false∨(k==1)=false/\(k==2)=true/\(k==3)=false∨(k==1)=false/\(k==2)=false/\(k==3)=true∨(k==1)=false/\(k==2)=false/\(k==3)=false:=by
  simp only[beq_iff_eq,beq_eq_false_iff_ne,ne_eq];omega
 rcases hc with⟨c1,c2,c3⟩ | ⟨c1,c2,c3⟩ | ⟨c1,c2,c3⟩ | ⟨c1,c2,c3⟩
 all_goals
  simp only[c1,c2,c3,cond_true,cond_false]
  repeat' first
   | exact⟨_,_,.inl ⟨by unfold CI;simp only[*,cond_true,cond_false,Bool.or_true,Bool.or_false,Bool.true_or]<;>rfl,rfl,by unfold Tw;simp only[*]<;>rfl⟩⟩
   | exact⟨_,_,.inr ⟨by unfold CI;simp only[*,cond_true,cond_false,Bool.or_true,Bool.or_false,Bool.true_or]<;>rfl,rfl,rfl⟩⟩
   | refine Ae (b:=Yy m key) (fun _=>?_) (fun _=>?_)
   | refine Ae (b:=VA m key) (fun _=>?_) (fun _=>?_)
   | refine Ae (b:=cv m val) (fun _=>?_) (fun _=>?_)
   | refine Ae (b:=Uj m key val) (fun _=>?_) (fun _=>?_)
   | refine⟨by first | exact trivial | exact⟨trivial,trivial⟩ | exact rfl | exact⟨hs,hn⟩ | exact congrArg Value.bool (by assumption),?_⟩
theorem Zh:C3 Tryz.prog AL Ba (Al AL 9 Ko (LQ cP)):=by
 refine SJ hZ (by kernel_rfl) (n:=97) fun m rest x hx=>?_
 unfold cP at hx;split at hx
 ·rename_i k a b key val;simp only[GT.run]at hx;split at hx
  ·rename_i hok;obtain⟨hs,hn⟩:=hok;refine⟨by simp,?_⟩;have hE:Ad jS 13 Ba (fun v H=>fX m k key val v (([10,11]++Af 4 v).map H.get)) (st Ba 97 [p9,E2 k a b key val] (BH ⟨.leaf,9⟩ (gT m))):=
    BW.Fk (Bt bW (ids:=[10,11]) (Q:=fX m k key val) 2000 _ (ei m k a b key val hs hn))
   refine hE.IC.mono ?_;rintro v H ⟨e,s,⟨h1,rfl,h⟩ | ⟨h1,rfl,h⟩⟩
   ·rw[h1]at hx;cases hx
    have h:[H.get 10,H.get 11,H.get 15]=_:=h;simp only[List.cons.injEq,and_true]at h;refine P5 (ns:=[15]) h.1 h.2.1 rfl (by simp) (fun b hb=>by simp at hb;omega) rfl (fun j b o hj ho=>?_);cases j with
    | zero=>cases hj;cases ho;exact⟨_,rfl,h.2.2⟩
    | succ j=>cases hj
   ·rw[h1]at hx;cases hx
    have h:[H.get 10,H.get 11]=_:=h;simp only[List.cons.injEq,and_true]at h;exact P5 (ns:=[]) h.1 h.2 rfl List.nodup_nil (fun b hb=>by cases hb) rfl (fun j b o hj=>by cases hj)
  ·cases hx
 ·cases hx
def bZ (m:AB) (rest:List Value):GT:=
 match rest with
 | [.agg ⟨[.bool del,.string key,.string val]⟩]=> .ask (A5 m.now/\m.now.length < 1000000/\m.AJ.length < 1000000)
  (.ret ⟨.tuple ⟨[]⟩,[some (.cells (BN (CB m del key val) 10 11 (.slice (some ⟨13,0,some 0⟩) (m.AJ.length+1) AF)) 0 false),some (Bi m.base),some (Bi (CB m del key val).now),none],[.vec BL (m.AJ++[(del,key,val)]) false]⟩)
 | _=> .fail
theorem Wy:C3 Tryz.prog AL By (Al AL 9 RO (LQ bZ)):=by
 refine W9 allM (by kernel_rfl) (n:=26) fun m rest x hx=>?_
 unfold bZ at hx;split at hx
 ·rename_i del key val;simp only[GT.run]at hx;split at hx
  ·rename_i hok;obtain⟨hs,hn,hu⟩:=hok;cases hx
   refine⟨by simp,?_⟩;refine(W5 m del key val hs hn hu).IC.mono ?_;rintro v H ⟨rfl,h⟩;have h:[H.get 9,H.get 10,H.get 11,H.get 17]=_:=h;simp only[List.cons.injEq,and_true]at h;obtain⟨g9,IB,g11,g17⟩:=h;refine⟨[17],by simp,fun b hb=>by simp at hb;omega,rfl,rfl,fun j b o hj ho=>?_,fun j o hj _ ho=>?_⟩
   ·cases j with
    | zero=>cases hj;cases ho;exact⟨_,rfl,g17⟩
    | succ j=>cases hj
   ·cases j with
    | zero=>cases ho;exact⟨_,rfl,by rw[g9];unfold AF;rfl⟩
    | succ j=>cases j with
     | zero=>cases ho;exact⟨_,rfl,IB⟩
     | succ j=>cases j with
      | zero=>cases ho;exact⟨_,rfl,g11⟩
      | succ j=>cases j with
       | zero=>cases ho
       | succ j=>omega
  ·cases hx
 ·cases hx
end Go.AI
