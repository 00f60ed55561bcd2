/- fby_card: the theorem; no condition beyond the statement's. -/
import Derived.Test.YtfmnpmhadmcdkaaGreatDoorT10
import Derived.Test.YtfmnpmhadmcdkaaGreatDoorT14
import Derived.Test.YtfmnpmhadmcdkaaGreatDoorT40
import Derived.Test.YtfmnpmhadmcdkaaGreatDoorCards
import Derived.Test.YtfmnpmhadmcdkaaGreatDoorTie
import Derived.ChangeMaps5
set_option linter.all false
set_option maxRecDepth 100000
set_option maxHeartbeats 1000000
open Go.ChangeSpec renaming witness_at->A7
open Go.Proofs.Tryz renaming prog->A1,f4->A2,checked->A3,underlying22->A4,func4->A5,params4->A6
open Option.some renaming inj->A0
namespace Go.Proofs.YtfmnpmhadmcdkaaGreatDoor
noncomputable section
open Go.ChangeShapes Go.WideShapes Go.RowKit
theorem QvG(os:Os)(started:os.Started)(H:Type)(enc:TypeId×Value->H):
 ReturnsInHanded {} A3 os 4 .any (fun w args=>(Rows.fnFilesBytesSpec.pre enc A1 A2 [] false w args/\laidMetH A1 Pm.theLaid w)/\sizedMet enc A1 A2 (OpenSpec.ofChange Rows.fnFilesBytesSpec) false w args)
  (Rows.fnFilesBytesSpec.post enc A1 A2 false true false false):=by
 refine Pm.Qla (C:=A3) (X:=fun w _=>laidMetH A1 Pm.theLaid w) (fun _ _ _ hh h=>h.of_heap hh) rowOwn started (by kernel_rfl) A5
  (A7 (enc:=enc) (C:=A3) (os:=os) (X:=fun w _=>laidMetH A1 Pm.theLaid w) false (Pm.Ql0 os) #[.slice none 0 0] 8 rfl (by kernel_rfl) (by kernel_rfl) (by kernel_rfl) (by kernel_rfl) (by kernel_rfl) (Pm.QsS os _)) ?_
 intro W base args ds gs before hval0 hW hz hL hS;have hval: ∀(j:Nat) t v,A2.params[j]? =some t->args[j]? =some v->Value.okWide A1 W .any base t v:=hval0;have hW':=hW;obtain⟨p,q,hA0,hV0,rfl,hfz,hnd⟩:=hW;have hA:DataW.TrodAll enc A1 W 0 (fun _=>true) true A2.params.toList args.toList ds p:=hA0;rw[A6] at hA hval;obtain⟨v0,d0,rfl,rfl,h0⟩:=trodAll_one hA
 obtain⟨rfl,rfl⟩:gs=[]/\q=[]:=by
  cases gs with
  |nil=>exact⟨rfl,hV0⟩
  |cons g r=>exact absurd hV0 (by intro h;cases h)
 obtain⟨a0,l0,c0,rfl⟩:=okWide_slice A4 (hval 0 22 v0 rfl rfl);obtain⟨v1,rows,hv1,hr,hrel⟩:=(by obtain⟨fuel,hf⟩:=h0;exact QrE A4 Tryz.underlying5 (by kernel_rfl) hf: ∃v rows,(Value.cells (.slice a0 l0 c0)).toList=[v]/\Aw.RdOk rows/\Aw.RelD (fun b=>b<W.heap.size) W (.sl true 1 rows) v);obtain rfl:Value.slice a0 l0 c0=v1:=(List.cons.inj hv1).1;have hlt0: ∀x∈p,x.block<W.heap.size:=fun x hx=>hW'.lt x (by simp[hx])
 have hLt:=Pm.QoD hL hS;simp only[List.append_nil] at hW'
 refine((Aw.exBytes rows hr).at hLt [_] rfl fun i d v hd hv=>by
  match i,hd,hv with
  |0,hd,hv=>obtain rfl:=A0 hd;obtain rfl:=A0 hv;exact hrel).mono fun e W' ⟨v,he,hb,hv⟩=>?_
 obtain rfl:=Aw.rel_v hv;subst he;have e1:Rows.fnFilesBytesSpec.fn H ([d0]++[])={results:=[.lit (.bool true)],args:=[d0]}:=by simp[Rows.fnFilesBytesSpec]
 refine⟨_,rfl,_,_,_,[],p,[],hW',?_,?_,?_,hb.frame _,fun h=>by cases h⟩
 ·rw[e1];exact trodAll_mk1 (shut_bool Tryz.underlying4 true)
 ·rw[e1];exact trodAll_mk1 (Below.trod Qji (by kernel_rfl) (of_decide_eq_true (by kernel_rfl)) h0 hb hlt0)
 ·rw[e1];rfl
def QvY:Rows.FnFilesBytesSaid:=
 OpenClaim.holds_of_wide 4 A2 rfl rfl rfl rfl rfl rfl rfl ⟨rfl,rfl,rfl,rfl,rfl⟩ rfl rfl rfl rfl rfl fbyFn A5 Qws
  (of_decide_eq_true (by kernel_rfl)) (by unfold Func.isWrapper;rw[if_neg (of_decide_eq_false (by kernel_rfl))];exact⟨rfl,rfl⟩)
  (fun os started H enc _=>QvG os started H enc)
theorem fby_card:Rows.FnFilesBytesCardSaid:=
 Claim7.holds_tied_plain_at .later [] [.data,.data,.data,.data,.sentinel,.sentinel,.pinned] true (true, "89478b24b75c62524a8e6da098ca334358bc74bc8ffd6d45d0c80efd4cd48962") true
  QvY (fun _ h=>by cases h) fbyText (fun _ h=>by cases h) fnFilesBytes_row_tie rfl ⟨rfl,rfl⟩ rowMain rfl
  (fun f fn hf hfn=>by
    obtain rfl:f=4:=A0 (fbyFn.symm.trans hf)|>.symm;obtain rfl:fn=A2:=(A0 (A5.symm.trans hfn)).symm
    exact⟨Qs1.symm,fun j t ht=>by
     rw[A6] at ht
     match j,ht with
     |0,ht=>obtain rfl:=A0 ht;exact QvZ
     |j+1,ht=>simp at ht⟩)
  fbyGoes
#print axioms fby_card
