/- Of fuse_card; no condition. -/
import Derived.Test.YtmomkioebognpaaGreatDoorQ30
set_option linter.all false
open Go.Proofs.Tryz renaming prog->A0
namespace Go.Proofs.YtmomkioebognpaaGreatDoor
noncomputable section
open Go.RowKit
namespace Aw
open Pm (Rep)
def Pure.at{f:FuncId}{args:List D}{x:D}(h:Pure A0 f args x){w:World}(hL:Pm.Lt w)(cargs:List Value)(hl:args.length=cargs.length)(hr: ∀(i:Nat) d v,args[i]? =some d->cargs[i]? =some v->RelD (fun b=>b<w.heap.size) w d v):
 Calls A0 f cargs.toArray w fun e w'=> ∃v,e= .returned v/\Below w.heap.size w w'/\RelD (fun b=>b<w'.heap.size) w' x v:=by
 have hS:Sm ⟨w,nG,fun _=>False,fun b=>b<w.heap.size⟩ (fun _=>none) (fun b=>b<w.heap.size) [] w:=
  ⟨rfl,rfl,rfl,Nat.le_refl _,fun _ _ _=>rfl,fun _ h=>h,fun b hb=>⟨hb,.inl hb⟩,fun k b hk=>by simp at hk,fun k k' b hk=>by simp at hk,fun k C hC=>by simp at hC⟩
 refine(h ⟨w,nG,fun _=>False,fun b=>b<w.heap.size⟩ (fun _=>none) (fun b=>b<w.heap.size) [] w cargs ⟨rfl,fun _ hb=>hb.elim,hL⟩ hS hl hr).mono fun e w' ⟨v,h1,h2,h3⟩=>⟨v,h1,h2,h3.mono (fun b hb=>?_) fun _ _=>rfl⟩
 have:=h2.size;omega
