/- Of fby_card; no condition. -/
import Derived.Test.YtfmnpmhadmcdkaaGreatDoorT09
import Derived.Test.YtfmnpmhadmcdkaaGreatDoorT12
set_option linter.all false
open Go.Addr renaming add_mid->A3,add->A7
open Go.IntKind renaming u8->A5
open Go.World renaming cells?_some->A1
open List renaming getElem?_eq_getElem->A0,length_map->A2,mem_map->A4
open Option.some renaming inj->A6
namespace Go.Proofs.YtfmnpmhadmcdkaaGreatDoor
noncomputable section
open Go.ChangeShapes Go.WideShapes Go.RowKit
theorem QrE{H:Type}{P:Program}{enc:TypeId×Value->H}{W:World}{sp:Nat->Bool}{held:Bool}{fuel:Nat}{t e:TypeId}{cs:List Value}{x:DataW H×List MemPlace}(ht:P.underlying t=some (.slice e))(he:P.underlying e=some (.int .u8))(hc:P.cellsOf e=1)
 (hx:DataW.trod enc P W 0 sp held fuel t cs=some x): ∃v rows,cs=[v]/\Aw.RdOk rows/\Aw.RelD (fun b=>b<W.heap.size) W (.sl true 1 rows) v:=by
 rcases DataW.trod_slice ht hx with⟨rfl,rfl⟩|⟨a,len,cap,elems,rest,n,rfl,rfl,rfl,hba,hlc,hcm,hel,hels,hsp1,hsp2⟩
 ·exact⟨_,[],rfl,fun r hr=>(by cases hr),.slnil _ _ _ _⟩
 ·have hE: ∀i,i<len-> ∃c:Nat,c<256/\W.cells? 0 (a.add (i*P.cellsOf e)) (P.cellsOf e)=some [.int .u8 c]:=by
   intro i hi;have h1:=hels i hi;rw[A0 (by omega)] at h1;obtain⟨cs,h2,h3⟩:=Option.bind_eq_some_iff.1 h1;obtain⟨m,rfl,_,hw⟩:=DataW.trod_int he h3;simp only[Lit.wf,Bool.and_eq_true,decide_eq_true_eq] at hw;have e1:A5.min=0:=by decide
   have e2:A5.max=255:=by decide
   rw[e1,e2] at hw;refine⟨m.toNat,by omega,?_⟩;rw[h2,Int.toNat_of_nonneg hw.1]
  obtain⟨l,hl,hall⟩:=Pm.QmV (p:=fun i (c:Nat)=>c<256/\W.cells? 0 (a.add (i*P.cellsOf e)) (P.cellsOf e)=some [.int .u8 c]) len hE;subst hl
  by_cases h0:l=[]
  ·subst h0;exact⟨_,[],rfl,fun r hr=>(by cases hr),.slnil _ _ _ _⟩
  have hpos:0<l.length:=List.length_pos_iff.2 h0;obtain⟨b,off,spot⟩:=a
  have hs:spot=none/\b<W.heap.size:=by
   obtain⟨c,_,h2⟩:=hE 0 hpos;rw[Nat.zero_mul] at h2;have hblk:=World.cells?_block h2 (by omega);obtain⟨_,hln,hcell⟩:=A1 h2;have hc0:=hcell 0 (by omega);rw[A0 (by simp)] at hc0;have:=World.cell?_spot hc0;exact⟨by simpa[A7] using this,by simpa[A7] using hblk⟩
  obtain⟨rfl,hb⟩:=hs
  have key: ∀(i j:Nat) (r:List Aw.D) (d:Aw.D),(l.map fun(c:Nat)=>[Aw.D.v (.int .u8 c)])[i]? =some r->r[j]? =some d->j=0/\d= .v (.int .u8 (l.getD i 0))/\W.cell? ⟨b,off+i*1+0,none⟩=some (.int .u8 (l.getD i 0)):=by
   intro i j r d hi hj;rw[List.getElem?_map] at hi;obtain⟨c,hc1,rfl⟩:=Option.map_eq_some_iff.1 hi
   have hj0:j=0:=by
    rcases Nat.eq_zero_or_pos j with h|h
    ·exact h
    ·rw[List.getElem?_eq_none (by simp;omega)] at hj;cases hj
   subst hj0;obtain rfl:=A6 hj;have hg:l.getD i 0=c:=by rw[List.getD_eq_getElem?_getD,hc1];rfl
   rw[hg];refine⟨rfl,rfl,?_⟩;obtain⟨_,hln,hcell⟩:=A1 (hall i c hc1).2;have:=hcell 0 (by omega);rw[A3,A3,hc] at this;exact this
  refine⟨_,l.map fun(c:Nat)=>[Aw.D.v (.int .u8 c)],rfl,?_,?_⟩
  ·intro r hr
   obtain⟨c,hcm,rfl⟩:=A4.1 hr;obtain⟨i,hi⟩:=List.getElem?_of_mem hcm;exact⟨c,(hall i c hi).1,rfl⟩
  ·have e1:l.length=(l.map fun(c:Nat)=>[Aw.D.v (.int .u8 c)]).length:=(A2 ..).symm
   rw[e1];refine Aw.RelD.sl (S:=fun b=>b<W.heap.size) true 1 _ b off cap (fun i _=> .int .u8 (l.getD i 0)) hb (fun r hr=>?_) (fun _=>by rw[A2];exact hlc) (fun i j r d hi hj=>?_) (fun i j r d hi hj=>?_)
   ·obtain⟨c,_,rfl⟩:=A4.1 hr;rfl
   ·obtain⟨rfl,_,h⟩:=key i j r d hi hj;exact h
   ·obtain⟨_,rfl,_⟩:=key i j r d hi hj;exact .v _
