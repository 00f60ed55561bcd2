/- fuse_card: the theorem; no condition beyond the statement's. -/
import Derived.Test.YtmomkioebognpaaGreatDoorQ04
import Derived.Test.YtmomkioebognpaaGreatDoorQ07
import Derived.Test.YtmomkioebognpaaGreatDoorQ32
import Derived.Test.YtmomkioebognpaaGreatDoorQ42
import Derived.Test.YtmomkioebognpaaGreatDoorCards
import Derived.Test.YtmomkioebognpaaGreatDoorTie
import Derived.ChangeMaps5
set_option linter.all false
set_option maxRecDepth 100000
set_option maxHeartbeats 1000000
open Go.Addr renaming add_mid->A8,add->AC
open Go.ChangeSpec renaming witness_at->AA
open Go.IntKind renaming u8->AB
open Go.Proofs.Tryz renaming prog->A0,f3->A3,checked->A5,underlying22->A6,func3->A7,params3->A9
open Go.World renaming cells?_some->A4
open List renaming getElem?_eq_getElem->A2
open Option.some renaming inj->A1
namespace Go.Proofs.YtmomkioebognpaaGreatDoor
noncomputable section
open Go.ChangeShapes Go.WideShapes Go.RowKit
theorem Qr6{H:Type}{P:Program}{enc:TypeId×Value->H}{W:World}{sp:Nat->Bool}{held:Bool}{fuel:Nat}{t e:TypeId}{cs:List Value}{x:DataW H×List MemPlace}(ht:P.underlying t=some (.slice e))(he:P.underlying e=some (.int .u8))(hc:P.cellsOf e=1)
 (hx:DataW.trod enc P W 0 sp held fuel t cs=some x): ∃v rows,cs=[v]/\Aw.RdOk rows/\Aw.RelD (fun b=>b<W.heap.size) W (.sl true 1 rows) v:=by
 rcases DataW.trod_slice ht hx with⟨rfl,rfl⟩|⟨a,len,cap,elems,rest,n,rfl,rfl,rfl,hba,hlc,hcm,hel,hels,hsp1,hsp2⟩
 ·exact⟨_,[],rfl,fun r hr=>(by cases hr),.slnil _ _ _ _⟩
 ·have hE: ∀i,i<len-> ∃c:Nat,c<256/\W.cells? 0 (a.add (i*P.cellsOf e)) (P.cellsOf e)=some [.int .u8 c]:=by
   intro i hi;have h1:=hels i hi;rw[A2 (by omega)] at h1;obtain⟨cs,h2,h3⟩:=Option.bind_eq_some_iff.1 h1;obtain⟨m,rfl,_,hw⟩:=DataW.trod_int he h3;simp only[Lit.wf,Bool.and_eq_true,decide_eq_true_eq] at hw;have e1:AB.min=0:=by decide
   have e2:AB.max=255:=by decide
   rw[e1,e2] at hw;refine⟨m.toNat,by omega,?_⟩
   grind
  obtain⟨l,hl,hall⟩:=Pm.QmJ (p:=fun i (c:Nat)=>c<256/\W.cells? 0 (a.add (i*P.cellsOf e)) (P.cellsOf e)=some [.int .u8 c]) len hE;subst hl
  by_cases h0:l=[]
  ·subst h0;exact⟨_,[],rfl,fun r hr=>(by cases hr),.slnil _ _ _ _⟩
  have hpos:0<l.length:=List.length_pos_iff.2 h0;obtain⟨b,off,spot⟩:=a
  have hs:spot=none/\b<W.heap.size:=by
   obtain⟨c,_,h2⟩:=hE 0 hpos;rw[Nat.zero_mul] at h2;have hblk:=World.cells?_block h2 (by omega);obtain⟨_,hln,hcell⟩:=A4 h2;have hc0:=hcell 0 (by omega);rw[A2 (by simp)] at hc0;have:=World.cell?_spot hc0;exact⟨by simpa[AC] using this,by simpa[AC] using hblk⟩
  obtain⟨rfl,hb⟩:=hs
  have key: ∀(i j:Nat) (r:List Aw.D) (d:Aw.D),(l.map fun(c:Nat)=>[Aw.D.v (.int .u8 c)])[i]? =some r->r[j]? =some d->j=0/\d= .v (.int .u8 (l.getD i 0))/\W.cell? ⟨b,off+i*1+0,none⟩=some (.int .u8 (l.getD i 0)):=by
   intro i j r d hi hj;rw[List.getElem?_map] at hi;obtain⟨c,hc1,rfl⟩:=Option.map_eq_some_iff.1 hi
   have hj0:j=0:=by
    grind
   subst hj0;obtain rfl:=A1 hj;have hg:l.getD i 0=c:=by grind
   rw[hg];refine⟨rfl,rfl,?_⟩;obtain⟨_,hln,hcell⟩:=A4 (hall i c hc1).2;have:=hcell 0 (by omega);rw[A8,A8,hc] at this;exact this
  refine⟨_,l.map fun(c:Nat)=>[Aw.D.v (.int .u8 c)],rfl,?_,?_⟩
  ·intro r hr
   obtain⟨c,hcm,rfl⟩:=List.mem_map.1 hr;obtain⟨i,hi⟩:=List.getElem?_of_mem hcm
   grind
  ·have e1:l.length=(l.map fun(c:Nat)=>[Aw.D.v (.int .u8 c)]).length:=(List.length_map ..).symm
   rw[e1];refine Aw.RelD.sl (S:=fun b=>b<W.heap.size) true 1 _ b off cap (fun i _=> .int .u8 (l.getD i 0)) hb (fun r hr=>?_) (fun _=>by omega) (fun i j r d hi hj=>?_) (fun i j r d hi hj=>?_)
   ·grind
   ·grind
   ·obtain⟨_,rfl,_⟩:=key i j r d hi hj;exact .v _
theorem Qm3(os:Os)(started:os.Started)(H:Type)(enc:TypeId×Value->H):
 ReturnsInHanded {} A5 os 3 .any (fun w args=>(Rows.fnFilesUseSpec.pre enc A0 A3 [] false w args/\laidMetH A0 Pm.theLaid w)/\sizedMet enc A0 A3 (OpenSpec.ofChange Rows.fnFilesUseSpec) false w args)
  (Rows.fnFilesUseSpec.post enc A0 A3 false true false false):=by
 refine Pm.QkH (C:=A5) (X:=fun w _=>laidMetH A0 Pm.theLaid w) (fun _ _ _ hh h=>h.of_heap hh) rowOwn started (by kernel_rfl) A7
  (AA (enc:=enc) (C:=A5) (os:=os) (X:=fun w _=>laidMetH A0 Pm.theLaid w) false (Pm.Qlf os) #[.slice none 0 0] 8 rfl (by kernel_rfl) (by kernel_rfl) (by kernel_rfl) (by kernel_rfl) (by kernel_rfl) (Pm.QsE os _)) ?_
 intro W base args ds gs before hval0 hW hz hL hS;have hval: ∀(j:Nat) t v,A3.params[j]? =some t->args[j]? =some v->Value.okWide A0 W .any base t v:=hval0;have hW':=hW;obtain⟨p,q,hA0,hV0,rfl,hfz,hnd⟩:=hW;have hA:DataW.TrodAll enc A0 W 0 (fun _=>true) true A3.params.toList args.toList ds p:=hA0;rw[A9] at hA hval;obtain⟨v0,d0,rfl,rfl,h0⟩:=trodAll_one hA
 obtain⟨rfl,rfl⟩:gs=[]/\q=[]:=by
  cases gs with
  |nil=>exact⟨rfl,hV0⟩
  |cons g r=>exact absurd hV0 (by intro h;cases h)
 obtain⟨a0,l0,c0,rfl⟩:=okWide_slice A6 (hval 0 22 v0 rfl rfl);obtain⟨v1,rows,hv1,hr,hrel⟩:=(by obtain⟨fuel,hf⟩:=h0;exact Qr6 A6 Tryz.underlying5 (by kernel_rfl) hf: ∃v rows,(Value.cells (.slice a0 l0 c0)).toList=[v]/\Aw.RdOk rows/\Aw.RelD (fun b=>b<W.heap.size) W (.sl true 1 rows) v);obtain rfl:Value.slice a0 l0 c0=v1:=(List.cons.inj hv1).1;have hlt0: ∀x∈p,x.block<W.heap.size:=fun x hx=>hW'.lt x (by simp[hx])
 have hLt:=Pm.QoE hL hS;simp only[List.append_nil] at hW'
 refine((Aw.exUse rows hr).at hLt [_] rfl fun i d v hd hv=>by
  grind).mono fun e W' ⟨v,he,hb,hv⟩=>?_
 obtain rfl:=Aw.rel_v hv;subst he;have e1:Rows.fnFilesUseSpec.fn H ([d0]++[])={results:=[.lit (.bool true)],args:=[d0]}:=by simp[Rows.fnFilesUseSpec]
 refine⟨_,rfl,_,_,_,[],p,[],hW',?_,?_,?_,hb.frame _,fun h=>by cases h⟩
 ·rw[e1];exact trodAll_mk1 (shut_bool Tryz.underlying4 true)
 ·rw[e1];exact trodAll_mk1 (Below.trod QiO (by kernel_rfl) (of_decide_eq_true (by kernel_rfl)) h0 hb hlt0)
 ·rw[e1];rfl
def QoR:Rows.FnFilesUseSaid:=
 OpenClaim.holds_of_wide 3 A3 rfl rfl rfl rfl rfl rfl rfl ⟨rfl,rfl,rfl,rfl,rfl⟩ rfl rfl rfl rfl rfl fuseFn A7 QqF
  (of_decide_eq_true (by kernel_rfl)) (by unfold Func.isWrapper;rw[if_neg (of_decide_eq_false (by kernel_rfl))];exact⟨rfl,rfl⟩)
  (fun os started H enc _=>Qm3 os started H enc)
theorem fuse_card:Rows.FnFilesUseCardSaid:=
 Claim7.holds_tied_plain_at .later [] [.data,.data,.data,.data,.sentinel,.sentinel,.pinned] true (true, "61fbed501d02898b286c66dde975f8a630872a59f364e0c7b8513d1de425a27c") true
  QoR (fun _ h=>by cases h) QsT (fun _ h=>by cases h) fnFilesUse_row_tie rfl ⟨rfl,rfl⟩ rowMain rfl
  (fun f fn hf hfn=>by
    obtain rfl:f=3:=A1 (fuseFn.symm.trans hf)|>.symm;obtain rfl:fn=A3:=(A1 (A7.symm.trans hfn)).symm
    exact⟨Qso.symm,fun j t ht=>by
     rw[A9] at ht
     match j,ht with
     |0,ht=>obtain rfl:=A1 ht;exact QoS
     |j+1,ht=>simp at ht⟩)
  QsV
#print axioms fuse_card
