/- Of fby_card; no condition. -/
import Derived.Test.YtfmnpmhadmcdkaaGreatDoorT01
import Derived.Test.YtfmnpmhadmcdkaaGreatDoorT02
import Derived.Laws.OwnMore
import Derived.Deep.Draws
import Derived.Laws.Rows
import Derived.Laws.Concat
import Derived.IntWalk
import Derived.Lib.LaidTab
import Derived.ArgAppend
import Derived.WalkSpells
import Derived.WalkLawsBesides
import Derived.Deep.LoopGhost
import Derived.Deep.QuietTactic
import Derived.BigQuiet
import Derived.Deep.RegionHeld3
set_option linter.all false
set_option maxRecDepth 100000
set_option maxHeartbeats 1000000
open Array renaming getD_eq_getD_getElem?->AC,replicate->AZ,getElem?_replicate->Ah,size_setIfInBounds->Ai,range->Be
open ByteArray renaming ext->BL
open Go renaming Value->A4,World->A5,TypeId->A8,Program->AA,Oper->AD,Operand->AF,ResultVar->Ad,Exit->Ax,Edge->BK,Act->BS,Addr->BZ
open Go.Act renaming put->BA
open Go.Addr renaming add->Ba
open Go.Builtin renaming append_->Ap,len_->B9
open Go.Call renaming operands->AS
open Go.Ending renaming returned->Ao
open Go.Instr renaming sureAddr->AN,fill->B3,loadAt->B8,fieldAt->BN,indexAt->BO,extract->BP,storeAt->BR
open Go.Lib renaming TabIs->Aj
open Go.Op renaming operands->A3
open Go.Oper renaming wp->BX
open Go.Program renaming globalNamed->Ay
open Go.Proofs.Lays renaming n106->Bf,n100->Bg,n105->Bh,n149->Bi
open Go.Proofs.LaysGw renaming n15->Bc
open Go.Proofs.Tryz renaming prog->AI,ntmps104->B1,func104->BB
open Go.Region renaming binds->AO,ready->Ab,wanted->B0
open Go.Result renaming andThen_ok->AH
open Go.RowKit renaming Below->AK
open Go.RowKit.Below renaming refl->Bj
open Go.Sem renaming run_bind->A7,run_pure->Ac
open Go.Shelf renaming Ren->Aa
open Go.Value renaming cells->Ag,ownBlock->BJ
open Go.World renaming cell?->BF,var?->BI
open Int renaming toNat_natCast->B4,le_refl->Bb
open List renaming getElem?_eq_getElem->A1,getElem?_eq_some_iff->A2,getElem?_map->A6,getElem?_append_right->A9,range->AB,getElem?_set_self->AG,replicate->AJ,mem_of_getElem?->AL,getD_eq_getElem?_getD->AM,getElem_mem->AP,getElem?_append_left->AQ,map_congr_left->AR,getElem?_cons_zero->AW,eq_nil_of_length_eq_zero->AX,mem_cons_self->Ae,mem_flatten->Ak,mem_cons_of_mem->Ar,mem_range->As,range_add->Au,getElem?_range->Az,getElem?_drop->B2,append_assoc->B6,flatMap_cons->B7,all_eq_true->BD,map_cons->BQ,flatten->BW,set_set->BY,length->Bd
open Nat renaming le_refl->AU,div_lt_of_lt_mul->AY,blt->Af,ble->Al,mod_lt->Am,mul_comm->An,le_of_ble_eq_true->Aq,mul_le_mul_right->Av,beq->B5,mod_eq_of_lt->BE,mul_add_mod->BG,div_add_mod->BH,zero_add->BT,add_zero->BU,le_trans->BV
open Option renaming map_some->AT,bind_some->BC
open Option.some renaming inj->A0,injEq->AE
open Prod.mk renaming injEq->BM
namespace Go.Proofs.YtfmnpmhadmcdkaaGreatDoor
noncomputable section
open Go.RowKit
namespace Pm
variable{P:AA}{A:Option BZ}{B B' o:Nat}{k:IntKind}{xs:List A4}{Q:Ax->BS->A5->Prop}{a:BS}{rest:List AD}{ops:Array AD}
def vstr(s:List UInt8):A4:= .string ⟨s.toArray⟩
theorem QrK(a b:List UInt8):((⟨a.toArray⟩:ByteArray)++(⟨b.toArray⟩:ByteArray))=⟨(a++b).toArray⟩:=by
 apply BL;simp
theorem Qhx(s:List UInt8)(a b:Nat):(⟨s.toArray⟩:ByteArray).extract a b=⟨((s.take b).drop a).toArray⟩:=by
 apply BL;rw[ByteArray.data_extract]
 grind
def QrF(s:List UInt8)(k:Nat)(h:k<s.length): ∃c:UInt8,c=s[k]/\c.toNat<256/\ ∀h':k<(⟨s.toArray⟩:ByteArray).size,(⟨s.toArray⟩:ByteArray)[k]'h'=c:=
 ⟨s[k],rfl,UInt8.toNat_lt _,fun h'=>by
   show s.toArray[k]'(by omega)=s[k]
   simp⟩
theorem str_add(a b:List UInt8)(h:a.length+b.length<=9223372036854775807)(w:A5):(Op.stringOp .add (⟨a.toArray⟩:ByteArray) (⟨b.toArray⟩:ByteArray)).run P w= .ok (.string ⟨(a++b).toArray⟩) w:=by
 have hs:(⟨a.toArray⟩:ByteArray).size+(⟨b.toArray⟩:ByteArray).size<=9223372036854775807:=by
  show a.toArray.size+b.toArray.size<=_;omega
 grind [run_string_add_sum,QrK]
theorem Qgm(n:Int)(h0: -9223372036854775808<=n)(h1:n<=9223372036854775807):IntKind.i64.wrap n=n:=by rw[IntKind.wrap_i64];omega
def wrap_u8(n:Int)(h0:0<=n)(h1:n<=255):IntKind.u8.wrap n=n:=by rw[IntKind.wrap_u8];omega
class Rep (α:Type) where
 size:Nat
 cells:A5->Nat->List A4->α->Prop
 len: ∀{w:A5} {B:Nat} {cs:List A4} {a:α},cells w B cs a->cs.length=size
 keep: ∀{w w':A5} {B B':Nat} {cs:List A4} {a:α},cells w B cs a->B<=B'->(∀p:BZ,p.block<B->w'.cell? p=w.cell? p)->cells w' B' cs a
def InI(n:Int):Prop:= -9223372036854775808<=n/\n<=9223372036854775807
def big:Nat:=140737488355328
instance:Rep Int where
 size:=1
 cells _ _ cs n:=cs=[.int .i64 n]/\InI n
 len h:=by grind
 keep h _ _:=h
instance:Rep Bool where
 size:=1
 cells _ _ cs b:=cs=[.bool b]
 len h:=by grind
 keep h _ _:=h
instance instStr:Rep (List UInt8) where
 size:=1
 cells _ _ cs s:=cs=[vstr s]/\s.length<=big
 len h:=by grind
 keep h _ _:=h
instance instPair{α β:Type} [Rep α] [Rep β]:Rep (α×β) where
 size:=Rep.size α+Rep.size β
 cells w B cs x:= ∃c d,cs=c++d/\Rep.cells w B c x.1/\Rep.cells w B d x.2
 len h:=by grind [Rep.len]
 keep h hB hk:=by grind [Rep.keep]
def At{α:Type} [Rep α](w:A5)(B:Nat)(A:Option BZ)(l:List α):Prop:=
 0<l.length-> ∃b off,A=some ⟨b,off,none⟩/\b<B/\ ∀(i:Nat) (x:α),l[i]? =some x-> ∃cs,Rep.cells w B cs x/\ ∀(j:Nat) (v:A4),cs[j]? =some v->w.cell? ⟨b,off+i*Rep.size α+j,none⟩=some v
theorem At.keep{α:Type} [Rep α]{w w':A5}{l:List α}(h:At w B A l)(hB:B<=B')(hk: ∀p:BZ,p.block<B->w'.cell? p=w.cell? p):At w' B' A l:=by
 intro hl;obtain⟨b,off,h1,h2,h3⟩:=h hl;refine⟨b,off,h1,by omega,fun i x hx=>?_⟩;obtain⟨cs,h4,h5⟩:=h3 i x hx;exact⟨cs,Rep.keep h4 hB hk,fun j v hv=>(hk _ h2).trans (h5 j v hv)⟩
theorem At.nil{α:Type} [Rep α]{w:A5}:At w B A ([]:List α):=fun h=>absurd h (by simp)
instance(priority:=low) instList{α:Type} [Rep α]:Rep (List α) where
 size:=1
 cells w B cs l:= ∃A c,cs=[.slice A l.length c]/\l.length<=big/\At w B A l
 len h:=by grind
 keep h hB hk:=by obtain⟨A,c,h1,h2,h3⟩:=h;exact⟨A,c,h1,h2,h3.keep hB hk⟩
def At.below{α:Type} [Rep α]{w w':A5}{l:List α}(h:At w B A l)(hb:AK B w w'):At w' B A l:=h.keep (AU _) fun _ hp=>hb.cell hp
def At.mono{α:Type} [Rep α]{w:A5}{l:List α}(h:At w B A l)(hB:B<=B'):At w B' A l:=h.keep hB fun _ _=>rfl
theorem At.elem{α:Type} [Rep α]{w:A5}{l:List α}(h:At w B A l){k:Nat}(hk:k<l.length):
 ∃b off cs,A=some ⟨b,off,none⟩/\b<B/\Rep.cells w B cs l[k]/\ ∀(j:Nat) (v:A4),cs[j]? =some v->w.cell? ⟨b,off+k*Rep.size α+j,none⟩=some v:=by
 obtain⟨b,off,h1,h2,h3⟩:=h (by omega);obtain⟨cs,h4,h5⟩:=h3 k _ (A1 hk);exact⟨b,off,cs,h1,h2,h4,h5⟩
abbrev Str:=List UInt8
abbrev Wait:=Int×Str
abbrev Disk:=List Str×List Wait×Bool
def QkS{w:A5}{cs:List A4}{s:Str}(h:Rep.cells w B cs s):cs=[vstr s]/\s.length<=big:=h
def bal{w w1:A5}(h:AK w.heap.size w w1)(o:Obj):AK w.heap.size w (w1.alloc o):=h.alloc h.size o
def bnew(w:A5)(o:Obj):AK w.heap.size w (w.alloc o):=bal (Bj _ _) o
def btr{w w1 w2:A5}(h:AK w.heap.size w w1)(k:AK w1.heap.size w1 w2):AK w.heap.size w w2:=h.trans (k.mono h.size)
def bset{w w1:A5}(h:AK w.heap.size w w1){b:Nat}(hb:w.heap.size<=b)(i:Nat)(v:A4):AK w.heap.size w (w1.setCell ⟨b,i,none⟩ v):=h.setCell hb v
def bdr{w w1:A5}(h:AK w.heap.size w w1):AK w.heap.size w w1.drew:=h.drew
def hid{p:Prop}(h:p):Hid p:=h
def At.up{α:Type} [Rep α]{w w':A5}{l:List α}(h:At w w.heap.size A l)(hb:AK w.heap.size w w'):At w' w'.heap.size A l:=(h.below hb).mono hb.size
def QpR{a b:Int}(h:a=b):Ao (.int k a)= .returned (.int k b):=by rw[h]
def Qds{a b:Bool}(h:a=b):Ao (.bool a)= .returned (.bool b):=by rw[h]
def Qk1{w:A5}{b:Nat}{v:A4}(h:w.cell? ⟨b,o,none⟩=some v):b<w.heap.size:=by
 rcases Nat.lt_or_ge b w.heap.size with hlt|hge
 ·exact hlt
 ·simp[BF,Array.getElem?_eq_none hge] at h
def Qhv{w w':A5}{b:Nat}{v:A4}(h:w.cell? ⟨b,o,none⟩=some v)(hb:AK w.heap.size w w'):w'.cell? ⟨b,o,none⟩=some v:=(hb.cell (p:=⟨b,o,none⟩) (Qk1 h)).trans h
theorem QpG{w w':A5}{name:String}{zs:List Int}(h:Aj P w name k zs)(hb:AK w.heap.size w w'):Aj P w' name k zs:=by
 unfold Aj BI at*;cases hg:P.globalNamed name with
 |none=>grind
 |some g=>
  rw[hg] at h;simp only[BC] at h⊢
  have hlt:g<w.heap.size:=by
   grind
  rw[hb.block g hlt];exact h
structure Lt(w:A5):Prop where
 tab:Aj AI w "internal/strconv.uint64pow10" .u64 Lib.pow10Tab
 maxl: ∃m,w.cell? ⟨0,0,none⟩=some (.int .i64 m)
 syn: ∃te pe,w.cell? ⟨1,0,none⟩=some (.iface te pe)
 ran: ∃te pe,w.cell? ⟨2,0,none⟩=some (.iface te pe)
def Lt.below{w w':A5}(h:Lt w)(hb:AK w.heap.size w w'):Lt w':=
 ⟨QpG h.tab hb,let⟨m,e⟩:=h.maxl;⟨m,Qhv e hb⟩,let⟨t,p,e⟩:=h.syn;⟨t,p,Qhv e hb⟩,let⟨t,p,e⟩:=h.ran;⟨t,p,Qhv e hb⟩⟩
def Row(w:A5)(b:Nat)(cur:Array A4):Prop:= ∃T,w.heap[b]? =some (.cells cur T (0,0))
section
variable{w w':A5}{b:Nat}{cur:Array A4}
theorem Row.lt(h:Row w b cur):b<w.heap.size:=by
 obtain⟨T,h⟩:=h
 grind
theorem Row.cell(h:Row w b cur)(i:Nat):w.cell? ⟨b,i,none⟩=cur[i]? :=by obtain⟨T,h⟩:=h;simp[BF,h]
theorem Row.free(h:Row w b cur)(i:Nat):w.frozen? ⟨b,i,none⟩=false:=by obtain⟨T,h⟩:=h;simp[World.frozen?,h]
theorem Row.keep(h:Row w b cur)(hk:w'.heap[b]? =w.heap[b]?):Row w' b cur:=by obtain⟨T,h⟩:=h;exact⟨T,hk.trans h⟩
def Row.get(h:Row w b cur)(i:Nat){v:A4}(hv:cur[i]? =some v):w.cell? ⟨b,i,none⟩=some v:=(h.cell i).trans hv
def Row.below(h:Row w b cur)(hb:AK w.heap.size w w'):Row w' b cur:=h.keep (hb.block _ h.lt)
def Row.alloc(h:Row w b cur)(o:Obj):Row (w.alloc o) b cur:=h.below (bnew w o)
def Row.far(h:Row w b cur){b':Nat}(hb:b≠b')(i:Nat)(v:A4):Row (w.setCell ⟨b',i,none⟩ v) b cur:=h.keep (Below.heap_setCell w ⟨b',i,none⟩ v b hb)
theorem Row.set(h:Row w b cur)(i:Nat)(v:A4):Row (w.setCell ⟨b,i,none⟩ v) b (cur.setIfInBounds i v):=by
 obtain⟨T,h⟩:=h;exact⟨T,by grind [World.setCell]⟩
def Row.new(w:A5)(cur:Array A4)(T:A8):Row (w.alloc (.cells cur T)) w.heap.size cur:=⟨T,heap_alloc_new w _⟩
end
class Ow (α:Type) extends Rep α where
 own:A5->List A4->α->List Nat->Prop
 olen: ∀{w:A5} {cs:List A4} {a:α} {fp:List Nat},own w cs a fp->cs.length=size
 frame: ∀{w w':A5} {cs:List A4} {a:α} {fp:List Nat},own w cs a fp->(∀b∈fp,w'.heap[b]? =w.heap[b]?)->own w' cs a fp
 reads: ∀{w:A5} {cs:List A4} {a:α} {fp:List Nat} {B:Nat},own w cs a fp->(∀b∈fp,b<B)->cells w B cs a
 lt: ∀{w:A5} {cs:List A4} {a:α} {fp:List Nat},own w cs a fp-> ∀b∈fp,b<w.heap.size
instance:Ow Int where
 own _ cs n fp:=(cs=[.int .i64 n]/\InI n)/\fp=[]
 olen h:=by rw[h.1.1];rfl
 frame h _:=h
 reads h _:=h.1
 lt h:=by grind
instance:Ow Bool where
 own _ cs b fp:=cs=[.bool b]/\fp=[]
 olen h:=by rw[h.1];rfl
 frame h _:=h
 reads h _:=h.1
 lt h:=by grind
instance:Ow (List UInt8) where
 own _ cs s fp:=(cs=[vstr s]/\s.length<=big)/\fp=[]
 olen h:=by rw[h.1.1];rfl
 frame h _:=h
 reads h _:=h.1
 lt h:=by grind
instance{α β:Type} [Ow α] [Ow β]:Ow (α×β) where
 own w cs x fp:= ∃c d f g,cs=c++d/\fp=f++g/\Ow.own w c x.1 f/\Ow.own w d x.2 g
 olen h:=by obtain⟨c,d,f,g,rfl,rfl,h1,h2⟩:=h;rw[List.length_append,Ow.olen h1,Ow.olen h2];rfl
 frame h hk:=by
  grind [Ow.frame]
 reads h hk:=by
  obtain⟨c,d,f,g,rfl,rfl,h1,h2⟩:=h;exact⟨c,d,rfl,Ow.reads h1 fun b hb=>hk b (List.mem_append_left _ hb),Ow.reads h2 fun b hb=>hk b (List.mem_append_right _ hb)⟩
 lt h:=by
  obtain⟨c,d,f,g,rfl,rfl,h1,h2⟩:=h;intro b hb;rcases List.mem_append.1 hb with hb|hb
  ·exact Ow.lt h1 b hb
  ·exact Ow.lt h2 b hb
def Els{α:Type} [Ow α](w:A5)(cur:Array A4)(l:List α)(fps:List (List Nat)):Prop:=
 fps.length=l.length/\ ∀(i:Nat) (x:α),l[i]? =some x-> ∃cs f,fps[i]? =some f/\Ow.own w cs x f/\ ∀(j:Nat) (v:A4),cs[j]? =some v->cur[i*Rep.size α+j]? =some v
section
variable{α:Type} [Ow α]{w w':A5}{cur cur':Array A4}{l:List α}{fps:List (List Nat)}
theorem Els.frame(h:Els w cur l fps)(hk: ∀b∈fps.flatten,w'.heap[b]? =w.heap[b]?):Els w' cur l fps:=
 ⟨h.1,fun i x hx=>by
   obtain⟨cs,f,h1,h2,h3⟩:=h.2 i x hx
   exact⟨cs,f,h1,Ow.frame h2 fun b hb=>hk b (Ak.2 ⟨f,AL h1,hb⟩),h3⟩⟩
end
instance(priority:=low){α:Type} [Ow α]:Ow (List α) where
 own w cs l fp:=(l=[]/\fp=[]/\ ∃A c,cs=[.slice A 0 c])∨
  ∃b c cur fps,cs=[.slice (some ⟨b,0,none⟩) l.length c]/\l.length<=big/\l.length<=c/\Row w b cur/\l.length*Rep.size α<=cur.size/\Els w cur l fps/\fp=b::fps.flatten
 olen h:=by
  rcases h with⟨_,_,_,_,rfl⟩|⟨_,_,_,_,rfl,_⟩<;>rfl
 frame h hk:=by
  rcases h with h|⟨b,c,cur,fps,h1,h2,h3,h4,h5,h6,rfl⟩
  ·grind
  ·exact .inr ⟨b,c,cur,fps,h1,h2,h3,h4.keep (hk b Ae),h5,h6.frame fun x hx=>hk x (Ar _ hx),rfl⟩
 reads h hk:=by
  rcases h with⟨rfl,_,A,c,rfl⟩|⟨b,c,cur,fps,rfl,h2,h3,h4,h5,h6,rfl⟩
  ·exact⟨A,c,rfl,by simp,At.nil⟩
  ·refine⟨_,c,rfl,h2,fun _=>⟨b,0,rfl,hk b Ae,fun i x hx=>?_⟩⟩
   obtain⟨cs,f,g1,g2,g3⟩:=h6.2 i x hx;exact⟨cs,Ow.reads g2 fun y hy=>hk y (Ar _ (Ak.2 ⟨f,AL g1,hy⟩)),fun j v hv=>by rw[BT,h4.cell];grind⟩
 lt {w cs l fp} h:=by
  rcases h with⟨_,rfl,_⟩|⟨b,c,cur,fps,h1,h2,h3,h4,h5,h6,rfl⟩
  ·simp
  ·intro x hx
   rcases List.mem_cons.1 hx with rfl|hx
   ·exact h4.lt
   ·obtain⟨f,hf,hx⟩:=Ak.1 hx
    obtain⟨i,hi,rfl⟩:=List.getElem_of_mem hf;have hi':i<l.length:=by rw[<-h6.1];exact hi
    obtain⟨cs,f,g1,g2,_⟩:=h6.2 i _ (A1 hi');rw[A1 hi] at g1;injection g1 with g1;rw[g1] at hx;exact Ow.lt g2 x hx
section
variable{fp fp':List Nat}{w w1 w2:A5}
end
section
variable{α:Type} [Ow α]{w w':A5}{cur cur':Array A4}{l:List α}{fps:List (List Nat)}
end
theorem owns_at{w:A5}{base:Nat}{e:A8}{v:A4}{l:List Str}(h:w.ownsRow base e 1 v l.length (l.map vstr))(hb: ∀s∈l,s.length<=big)(hl:l.length<=big):
 ∃A c,v= .slice A l.length c/\At w w.heap.size A l:=by
 obtain⟨h1,⟨hv,hn⟩|⟨g,cap,cur,hv,hg,hh,hn,hm,hs,ht⟩⟩:=h
 ·grind [At.nil]
 ·refine⟨_,cap,hv,fun _=>⟨g,0,rfl,?_,fun i x hx=>⟨[vstr x],⟨rfl,hb x (AL hx)⟩,fun j u hj=>?_⟩⟩⟩
  ·grind
  ·have hi:i<l.length:=(A2.1 hx).1
   match j,hj with
   |0,hj=>
    simp only[AW,AE] at hj;have hc:w.cell? ⟨g,i,none⟩=cur[i]? :=by simp[BF,hh]
    have:(cur.toList.take (l.length*1))[i]? =some (vstr x):=by grind
    rw[List.getElem?_take_of_lt (by omega)] at this;simp only[Rep.size,Nat.mul_one,BT,BU]
    grind
theorem QsE{w:A5}{base:Nat}{e:A8}{size n n' c:Nat}(h:w.ownsRow base e size (.slice A n' c) n xs):n<=c:=by
 obtain⟨h1,⟨hv,hn⟩|⟨g,cap,cur,hv,hg,hh,hn,hm⟩⟩:=h
 ·omega
 grind
def QmE{w w':A5}{base:Nat}{e:A8}{size n:Nat}{v:A4}(hown:w.ownsRow base e size v n xs)(hb:base<=w.heap.size)(hg:w.grownBy w' v.ownBlock):AK base w w':=
 (Bj _ _).grown hg hb fun k hk=>by
   obtain⟨_,⟨rfl,_⟩|⟨g,cap,cur,rfl,hbg,_⟩⟩:=hown
   ·simp[BJ] at hk
   ·simp[BJ] at hk;omega
theorem Qov{w:A5}{o:AD}(hgd:o.guard=none)(s x:AF)(t:A8)
 (ho:o.op= .call {callee:= .builtin .append,args:= #[s,x],argTypes:= #[t,t]})
 (base:Nat) (e:A8) (z:A4) (size bytes:Nat) (ht:P.underlying t=some (.slice e)) (hinfo:(P.info? e).map (fun i=>(i.zero,i.size,i.bytes))=some (some z,size,bytes)) (hzs:z.cells.size=size) (hsz:0<size)
 (v:A4) (n:Nat) (xs:List A4) (hs:a.eval s=v) (hown:w.ownsRow base e size v n xs)
 (b c:Nat) (news:List A4) (hx:a.eval x= .slice (some ⟨b,0,none⟩) 1 c) (hl:news.length=size) (hnews: ∀j u,news[j]? =some u->w.cell? ⟨b,j,none⟩=some u) (h1: ∀u∈news,u.oneCell'=true)
 (hbytes:(n+1)*bytes<=140737488355328) (hby:0<bytes) (hbase:base<=w.heap.size)
 (h: ∀v' w',w'.ownsRow base e size v' (n+1) (xs++news)->AK base w w'->base<=w'.heap.size->wpList P ops Q rest (a.put o.dst v') w'):wpList P ops Q (o::rest) a w:=by
 obtain⟨i,hi,hz,hs1,hs2⟩:=info_parts hinfo;refine wpList_append_own w hgd s x t ho base e i z size bytes ht hi hz hs1 hs2 hzs hsz v n xs hs hown ⟨b,0,none⟩ 1 c news hx (by omega) (fun j u hj=>?_) h1 ?_ hbytes hbase fun v' w' h2 h3 _=>?_
 ·have:=hnews j u hj
  by_cases h0:j=0
  ·subst h0;simpa[Ba] using this
  ·simpa[Ba,h0] using this
 ·unfold maxLen
  have:(n+1)*1<=(n+1)*bytes:=Nat.mul_le_mul_left _ hby;omega
 ·exact h v' w' h2 (QmE hown hbase h3) (BV hbase h3.size)
def infoS:(AI.info? 9).map (fun i=>(i.zero,i.size,i.bytes))=some (some (.string ⟨#[]⟩),1,16):=by kernel_rfl
theorem Qjd{w:A5}{o:AD}(hgd:o.guard=none)(s x:AF)
 (ho:o.op= .call {callee:= .builtin .append,args:= #[s,x],argTypes:= #[23,23]})
 (base:Nat) (v:A4) (l:List Str) (hs:a.eval s=v) (hown:w.ownsRow base 9 1 v l.length (l.map vstr))
 (b c:Nat) (y:Str) (hx:a.eval x= .slice (some ⟨b,0,none⟩) 1 c) (hc:w.cell? ⟨b,0,none⟩=some (.string ⟨y.toArray⟩)) (hbytes:l.length<8000000000000) (hbase:base<=w.heap.size)
 (h: ∀v' w',w'.ownsRow base 9 1 v' (l++[y]).length ((l++[y]).map vstr)->AK base w w'->base<=w'.heap.size->wpList AI ops Q rest (a.put o.dst v') w'):wpList AI ops Q (o::rest) a w:=by
 refine Qov hgd s x _ ho base _ _ 1 16 Tryz.underlying23 infoS rfl (by omega) v _ _ hs hown b c [vstr y] hx rfl (fun j u hj=>?_) (fun u hu=>?_) (by omega) (by omega) hbase fun v' w' h1 h2 h3=>h v' w' (by simpa using h1) h2 h3
 ·match j,hj with
  |0,hj=>
   simp only[AW,AE] at hj;rw[<-hj];exact hc
 ·simp only[List.mem_singleton] at hu
  subst hu;rfl
theorem Qt7{w:A5}{l:List Str}(h:At w B A l)(hl:0<l.length): ∃b off,A=some ⟨b,off,none⟩/\b<B/\ ∀(j:Nat) (u:A4),(l.map vstr)[j]? =some u->w.cell? ⟨b,off+j,none⟩=some u:=by
 obtain⟨b,off,rfl,hb,hc⟩:=h hl;refine⟨b,off,rfl,hb,fun j u hj=>?_⟩;rw[A6] at hj;cases hx:l[j]? with
 |none=>grind
 |some x=>
  rw[hx] at hj;simp only[AT,AE] at hj;subst hj;obtain⟨cs,h1,h2⟩:=hc j x hx;obtain⟨rfl,_⟩:=QkS h1;have:=h2 0 _ rfl;simpa[Rep.size,vstr] using this
theorem Qjp{w w':A5}{base:Nat}{e:A8}{size n:Nat}{v:A4}(h:w.ownsRow base e size v n xs)(hb:AK w.heap.size w w'):w'.ownsRow base e size v n xs:=by
 obtain⟨h1,⟨hv,hn⟩|⟨g,cap,cur,hv,hg,hh,hr⟩⟩:=h
 ·exact⟨h1,.inl ⟨hv,hn⟩⟩
 ·refine⟨h1,.inr ⟨g,cap,cur,hv,hg,?_,hr⟩⟩
  have hlt:g<w.heap.size:=by
   grind
  rw[hb.block g hlt];exact hh
def run_mk(t e:A8)(z:A4)(size bytes:Nat)(ht:P.underlying t=some (.slice e))(hinfo:(P.info? e).map (fun i=>(i.zero,i.size,i.bytes))=some (some z,size,bytes))
 (n:Nat) (hbytes:bytes*n<=281474976710656) (h63:n<=9223372036854775807) (w:A5):
 (Instr.makeSlice t (.int .i64 (n:Int)) (.int .i64 (n:Int))).run P w= .ok (.slice (some ⟨w.heap.size,0,none⟩) n n) (w.alloc (.cells (madeCells z.cells (n*size)) e)):=by
 obtain⟨i,hi,hzz⟩:=Option.map_eq_some_iff.1 hinfo;simp only[BM] at hzz;obtain⟨hz,hs,hb⟩:=hzz
 have hb':(i.bytes:Int)*(n:Int)<=281474976710656:=by
  rw[hb];have h:((bytes*n:Nat):Int)<=281474976710656:=by omega
  rwa [Int.natCast_mul] at h
 have hr:=run_make (P:=P) w t e i z ht hi hz .i64 .i64 n n (by omega) (Bb _) hb' (by omega);simp only[B4,hs] at hr;exact hr
end Pm
end
end Go.Proofs.YtfmnpmhadmcdkaaGreatDoor
namespace Go.Proofs
open Go.Shelf
def Tryz.lays106_ren:Aa:=⟨fun|106=>137|213=>205|265=>267|n=>n,fun|9=>9|3=>3|n=>n,fun|n=>n⟩
def Tryz.lays106:Bf AI Tryz.lays106_ren:=by repeat' first|kernel_rfl|decide|(intros;kernel_rfl)|constructor
def Tryz.strings_Compare:=Any.strings_Compare Tryz.lays106
def Tryz.laysGw15_ren:Aa:=⟨fun|15=>145|20=>214|n=>n,fun|9=>9|23=>199|3=>3|4=>4|0=>0|21=>21|n=>n,fun|n=>n⟩
def Tryz.laysGw15:Bc AI Tryz.laysGw15_ren:=by repeat' first|kernel_rfl|decide|(intros;kernel_rfl)|constructor
def Tryz.strings_IndexFunc_runes:=Any.strings_IndexFunc_runes Tryz.laysGw15
def Tryz.lays100_ren:Aa:=⟨fun|100=>68|207=>119|n=>n,fun|9=>9|4=>4|3=>3|n=>n,fun|n=>n⟩
def Tryz.lays100:Bg AI Tryz.lays100_ren:=by repeat' first|kernel_rfl|decide|(intros;kernel_rfl)|constructor
def Tryz.strings_HasSuffix:=Any.strings_HasSuffix Tryz.lays100
def Tryz.lays105_ren:Aa:=⟨fun|105=>118|212=>190|99=>191|165=>182|166=>69|170=>192|169=>70|263=>250|264=>251|206=>252|240=>120|241=>243|276=>193|277=>289|n=>n,fun|9=>9|3=>3|4=>4|20=>20|0=>0|46=>218|109=>230|5=>5|72=>125|76=>131|51=>264|146=>265|53=>271|148=>272|70=>123|37=>22|75=>130|127=>179|164=>233|80=>133|n=>n,fun|n=>n⟩
def Tryz.lays105:Bh AI Tryz.lays105_ren:=by repeat' first|kernel_rfl|decide|(intros;kernel_rfl)|constructor
def Tryz.Builder_Extra_105:Builder.Extra AI Tryz.lays105_ren:=by repeat' first|kernel_rfl|decide|(intros;kernel_rfl)|constructor
def Tryz.strings_Repeat:=Any.strings_Repeat Tryz.lays105 Tryz.Builder_Extra_105
def Tryz.lays149_ren:Aa:=⟨fun|149=>144|222=>213|n=>n,fun|9=>9|5=>5|3=>3|4=>4|n=>n,fun|n=>n⟩
def Tryz.lays149:Bi AI Tryz.lays149_ren:=by repeat' first|kernel_rfl|decide|(intros;kernel_rfl)|constructor
def Tryz.strings_LastIndexByte:=Any.strings_LastIndexByte Tryz.lays149
end Go.Proofs
namespace Go.Proofs.YtfmnpmhadmcdkaaGreatDoor
section
open Go.RowKit
namespace Aw
variable{w w':A5}{σ σ':Sg}{B:Bs}{t i j sz k f q off:Nat}{u:AF}{a:BS}{b:Bool}{o:AD}{E:Nat->Bool}{C:Blk}{H0 H':List Blk}{y:A4}{x:AV}{T T0:A8}{r ds:List D}{κ:IntKind}{S':Nat->Prop}{c:Code}
def nG:Nat:=(max (max 5 0) (max 1 2))+1
structure Gd(B:Bs):Prop where
 g:B.G=nG
 own: ∀b,B.own b->nG<=b
 lt:Pm.Lt B.w0
theorem Lt.size(h:Pm.Lt w):nG<=w.heap.size:=by
 obtain⟨m,h1⟩:=h.maxl;obtain⟨_,_,h2⟩:=h.syn;obtain⟨_,_,h3⟩:=h.ran;have h1:=Pm.Qk1 h1;have h2:=Pm.Qk1 h2;have h3:=Pm.Qk1 h3
 have h4:5<w.heap.size:=by
  have ht:=h.tab;unfold Aj BI at ht;rw[show Ay AI "internal/strconv.uint64pow10" =some 5 from by kernel_rfl] at ht
  grind
 grind [nG]
theorem Lt.low(h:Pm.Lt w)(hb: ∀b,b<nG->w'.heap[b]? =w.heap[b]?):Pm.Lt w':=by
 refine⟨?_,?_,?_,?_⟩
 ·have ht:=h.tab
  unfold Aj BI at*;rw[show Ay AI "internal/strconv.uint64pow10" =some 5 from by kernel_rfl] at*
  grind [nG]
 ·obtain⟨m,e⟩:=h.maxl;grind [QfN,nG]
 ·obtain⟨t,p,e⟩:=h.syn;grind [QfN,nG]
 ·obtain⟨t,p,e⟩:=h.ran;grind [QfN,nG]
def Gd.ltOf(h:Gd B){S:Nat->Prop}{H:List Blk}(hS:Sm B σ S H w):Pm.Lt w:=
 Lt.low h.lt fun b hb=>hS.keep b (by have:=Lt.size h.lt;omega) fun ho=>by have:=h.own b ho;omega
def Gd.again(h:Gd B){S:Nat->Prop}{H:List Blk}(hS:Sm B σ S H w)(S':Nat->Prop):Gd ⟨w,B.G,fun _=>False,S'⟩:=
 ⟨h.g,fun _ hb=>hb.elim,h.ltOf hS⟩
structure St where
 n:Nat
 env:List (Nat×AV)
 H:List Blk
def look:List (Nat×AV)->Nat->AV
 |[],_=> .d .any
 |(t,x)::r,u=>bif B5 t u then x else look r u
theorem Qdl(t:Nat)(x:AV)(r:List (Nat×AV)):look ((t,x)::r) t=x:=by simp[look]
theorem Qdr{u:Nat}(h:t≠u)(x:AV)(r:List (Nat×AV)):look ((t,x)::r) u=look r u:=by
 have:B5 t u=false:=by
  cases hb:B5 t u
  ·rfl
  simp_all
 simp[look,this]
def D.ofV:A4->D
 |.agg cs=> .agg (cs.toList.map .v)
 |x=> .v x
theorem D.ofV_rel(S:Nat->Prop)(w:A5)(v:A4):RelD S w (D.ofV v) v:=by
 cases v<;>first|exact .v _|skip
 rename_i cs
 have:=RelD.agg (S:=S) (w:=w) (cs.toList.map .v) cs.toList (by simp) (fun i d x hd hx=>by
  rw[A6,hx] at hd;obtain rfl:=A0 hd
  exact .v _)
 exact this
def aval(env:List (Nat×AV)):AF->AV
 |.tmp t=>look env t
 |.const v=> .d (D.ofV v)
 |.global g=> .d (.v (.pointer (some ⟨g,0,none⟩)))
 |.func f=> .fn (.func f) []
structure SmA(B:Bs)(σ:Sg)(S:Nat->Prop)(s:St)(a:BS)(w:A5):Prop where
 sm:Sm B σ S s.H w
 defers:a.defers=[]
 size:a.tmps.size=s.n
 env: ∀t,Rel σ S s.H w (look s.env t) (a.tmps.getD t undef)
def Qeg{S:Nat->Prop}{H:List Blk}{env:List (Nat×AV)}
 (h: ∀t,u= .tmp t->Rel σ S H w (look env t) (a.tmps.getD t undef)):Rel σ S H w (aval env u) (a.eval u):=by
 cases u with
 |tmp t=>exact h t rfl
 |const v=>exact .d _ _ (D.ofV_rel _ _ _)
 |global g=>exact .d _ _ (.v _)
 |func f=>exact .fn _ [] [] rfl fun i d x hd=>by simp at hd
def Agree(H H':List Blk):Prop:= ∀(k:Nat) (C:Blk),H[k]? =some C->H'[k]? =some C∨H'[k]? =some Blk.none
def setNb(H:List Blk)(κ:Nat):Option Blk->List Blk
 |some C=>H.set κ C
 |none=>H
def Loc(P:AA)(o:AD)(env:List (Nat×AV))(H:List Blk)(x:AV)(nb:Option Blk):Prop:=
 ∀B σ S H' a w,Gd B->Sm B σ S H' w->(∀u∈o.op.operands,Rel σ S H' w (aval env u) (a.eval u))->Agree H H'->(∀C,nb=some C->H'[H.length]? =some Blk.none)->
  ∀(K:BS->A5->Prop) (Q:Ax->BS->A5->Prop),
   (∀v w' σ' S',Sm B σ' S' (setNb H' H.length nb) w'->Rel σ' S' (setNb H' H.length nb) w' x v->Ev σ S H' w σ' S' (setNb H' H.length nb) w'->K (a.put o.dst v) w')->o.wp P a w K Q
def dstOk(n:Nat):Option Tmp->Bool
 |some d=>Af d n
 |none=>true
def putE(env:List (Nat×AV)):Option Tmp->AV->List (Nat×AV)
 |some d,x=>(d,x)::env
 |none,_=>env
def yl:A4->Option Bool
 |.bool b=>some b
 |_=>none
def awanted(ops:Array AD)(env:List (Nat×AV))(o:AD):Option Bool:=
 match o.guard with
 |none=>some true
 |some (j,want)=>
  match(ops[j]?).bind (·.dst) with
  |some d=>match look env d with
   |.d (.v x)=>some (yl x==some want)
   |_=>none
  |none=>none
theorem Qhy{ops:Array AD}{env:List (Nat×AV)}{S:Nat->Prop}{H:List Blk}(hw:awanted ops env o=some b)
 (h: ∀j want d,o.guard=some (j,want)->(ops[j]?).bind (·.dst)=some d->d<a.tmps.size/\Rel σ S H w (look env d) (a.tmps.getD d undef)):B0 o (yielded ops a.tmps)=b:=by
 unfold awanted at hw;unfold B0;cases hg:o.guard with
 |none=>grind
 |some p=>
  obtain⟨j,want⟩:=p;rw[hg] at hw;simp only at hw⊢;cases hd:(ops[j]?).bind (·.dst) with
  |none=>grind
  |some d=>
   rw[hd] at hw;obtain⟨hlt,hr⟩:=h j want d hg hd;simp only at hw;cases hl:look env d with
   |d y=>
    rw[hl] at hw hr;cases y with
    |v x=>
     obtain rfl:=A0 hw;cases hr with
     |d _ _ hr=>
      cases hr
      have hget:a.tmps[d]? =some (a.tmps.getD d undef):=by
       simp_all
      have:yielded ops a.tmps j=yl (a.tmps.getD d undef):=by
       unfold yielded;rw[hd];simp only[BC,hget];cases a.tmps.getD d undef<;>rfl
      rw[this]
    |_=>cases hw
   |_=>grind
def Step1(P:AA)(ops:Array AD)(o:AD)(s:St)(x:AV)(nb:Option Blk):Prop:=
 dstOk s.n o.dst=true/\((awanted ops s.env o=some false/\x= .d (.v undef)/\nb=none)∨(awanted ops s.env o=some true/\Loc P o s.env s.H x nb))
def St.next(s:St)(o:AD)(x:AV)(nb:Option Blk):St:=⟨s.n,putE s.env o.dst x,s.H++nb.toList⟩
def ADraw(P:AA)(ops:Array AD)(K:St->Prop):List AD->St->Prop
 |[],s=>K s
 |o::l,s=> ∃x nb,Step1 P ops o s x nb/\ADraw P ops K l (s.next o x nb)
def backB(ops:Array AD):Bool:=(AB ops.size).all fun i=>((ops[i]?).map (·.after.all fun e=>decide (e.on<i)|| !Region.binds .any e)).getD true
theorem ready_all{ops:Array AD}{listed:Array Bool}(hb:backB ops=true)(hsz:listed.size=ops.size)(hr:Ab .any ops listed=[]): ∀i,i<ops.size->listed.getD i false=true:=by
 intro i;induction i using Nat.strongRecOn with
 |_ i ih=>
  intro hi;rcases Bool.eq_false_or_eq_true (listed.getD i false) with h|h
  ·exact h
  exfalso
  have hm:i∈Ab .any ops listed:=by
   rw[mem_ready];obtain⟨o,ho⟩: ∃o,ops[i]? =some o:=⟨_,Array.getElem?_eq_getElem hi⟩
   have hl:listed.getD i true=false:=by
    grind
   refine⟨hl,o,ho,fun e he hbd=>?_⟩;have hb':=BD.1 hb i (As.2 hi)
   grind [Array.all_eq_true_iff_forall_mem]
  grind
theorem QjS{P:AA}{id:Nat}{ops:Array AD}{Q:Ax->BS->A5->Prop}(hm:P.follows .mixedOrders=true)(hb:backB ops=true)
 (J:(Nat->Bool)->BS->A5->Prop) (h0:J (fun _=>false) a {w with drawn:=w.drawn+1})
 (hop: ∀(E:Nat->Bool) i o,ops[i]? =some o-> ∀a w,J E a w->E i=false->(∀j,ops.size<=j->E j=false)->(∀j o',E j=true->ops[j]? =some o'-> ∀e∈o'.after,AO .any e=true->E e.on=true)->
   (∀e∈o.after,AO .any e=true->E e.on=true)-> ∀K,(∀a' w',J (fun j=>E j||decide (j=i)) a' w'->K a' w')->wpOp P ops Q i K a w)
 (hend: ∀E a w,J E a w->(∀i,i<ops.size->E i=true)->(∀j,ops.size<=j->E j=false)->Q .normal a w):(Code.region id ops true).wp P Q a w:=by
 refine wp_region_any hm ?_
 have hE: ∀(listed:Array Bool) j,listed.size=ops.size->ops.size<=j->listed.getD j false=false:=fun listed j hs hj=>by
  grind
 have key: ∀(fuel:Nat) (listed:Array Bool) (a:BS) (w:A5),listed.size=ops.size->(ops.size<=fuel+(listed.toList.countP (fun b=>b)))->J (fun j=>listed.getD j false) a w->
  (∀j o',listed.getD j false=true->ops[j]? =some o'-> ∀e∈o'.after,AO .any e=true->listed.getD e.on false=true)->wpAny P .any ops Q fuel listed a w:=by
  intro fuel;induction fuel with
  |zero=>
   intro listed a w hsz hf hJ hcl
   have hall: ∀i,i<ops.size->listed.getD i false=true:=by
    have hc:listed.toList.countP (fun b=>b)=listed.toList.length:=by
     grind
    rw[List.countP_eq_length] at hc;intro i hi;have hi':i<listed.toList.length:=by grind
    have:=hc _ (AP hi')
    simp_all
   have hr:Ab .any ops listed=[]:=by
    cases hr:Ab .any ops listed with
    |nil=>rfl
    |cons i r=>
     exfalso;have hi:i∈Ab .any ops listed:=by grind
     grind [mem_ready]
   exact⟨hr,hend _ a w hJ hall (fun j hj=>hE listed j hsz hj)⟩
  |succ fuel ih=>
   intro listed a w hsz hf hJ hcl;refine⟨fun hr=>hend _ a w hJ (fun i hi=>ready_all hb hsz hr i hi) (fun j hj=>hE listed j hsz hj),fun i hi=>?_⟩;rw[mem_ready] at hi;obtain⟨h1,o,ho,hdep⟩:=hi;have hlt:i<ops.size:=(Array.getElem?_eq_some_iff.1 ho).1
   have hli:listed[i]'(by omega)=false:=by
    simp_all
   have hlf:listed.getD i false=false:=by
    grind
   have hset: ∀j,(listed.setIfInBounds i true).getD j false=(listed.getD j false||decide (j=i)):=fun j=>by
    by_cases hji:j=i
    ·simp_all
    ·rw[AC,Array.getElem?_setIfInBounds_ne (fun e=>hji e.symm),<-AC];grind
   refine hop _ i o ho a w hJ hlf (fun j hj=>hE listed j hsz hj) hcl (fun e he hbd=>hdep e he hbd) _ fun a' w' hJ'=>?_
   refine ih _ _ _ (by grind) ?_ (by grind) (fun j o' hj ho' e he hbd=>?_)
   ·grind
   grind
 refine key ops.size (AZ ops.size false) a _ (by simp) (by omega) ?_ (fun j o' hj=>?_)
 ·have:(fun j=>(AZ ops.size false).getD j false)=fun _=>false:=funext fun j=>by
   rw[AC,Ah];grind
  grind
 ·exfalso
  rw[AC,Ah] at hj
  grind
def mask(acc:List Nat):List BK->Nat
 |[]=>0
 |e::r=>(bif AO .any e then 2^e.on|||acc.getD e.on 0 else 0)|||mask acc r
def befs:List AD->List Nat->List Nat
 |[],acc=>acc
 |o::l,acc=>befs l (acc++[mask acc o.after.toList])
def names(ops:List AD)(o:AD):List Nat:=
 o.dst.toList++(o.op.operands.toList.filterMap fun| .tmp t=>some t|_=>none)++
 (match o.guard with
  |some (g,_)=>((ops[g]?).bind (·.dst)).toList
  |none=>[])
def tmpOk(ops:List AD):Bool:=
 let b:=befs ops []
 ops.zipIdx.all fun(o,i)=>(names ops o).all fun t=>ops.zipIdx.all fun(p,j)=> !(p.dst==some t)||j==i||(bif Af j i then(b.getD i 0).testBit j else(b.getD j 0).testBit i)
def drawOk(ops:Array AD):Bool:=backB ops&&tmpOk ops.toList
def Closed(ops:List AD)(E:Nat->Bool):Prop:= ∀(j:Nat) o,E j=true->ops[j]? =some o-> ∀e∈o.after,AO .any e=true->E e.on=true
theorem Qqw{acc:List Nat}(hacc: ∀(i j:Nat),E i=true->(acc.getD i 0).testBit j=true->E j=true):
 ∀(l:List BK),(∀e∈l,AO .any e=true->E e.on=true)-> ∀j,(mask acc l).testBit j=true->E j=true
 :=by intro l;induction l<;>grind [mask]
theorem QlJ{E:Nat->Bool}: ∀(l pre:List AD) (acc:List Nat),acc.length=pre.length->Closed (pre++l) E->(∀(i j:Nat),i<pre.length->E i=true->(acc.getD i 0).testBit j=true->E j=true)->
 ∀(i j:Nat),E i=true->((befs l acc).getD i 0).testBit j=true->E j=true
 |[],pre,acc,hl,_,h,i,j,hi,hj=>by
  grind [befs]
 |o::l,pre,acc,hl,hc,h,i,j,hi,hj=>by
  simp only[befs] at hj
  have hacc: ∀(i j:Nat),E i=true->(acc.getD i 0).testBit j=true->E j=true:=fun i j hi hj=>by
   grind
  refine QlJ l (pre++[o]) (acc++[mask acc o.after.toList]) (by simp[hl]) (by grind) (fun i j hlt hi hj=>?_) i j hi hj
  by_cases hlt':i<pre.length
  ·rw[AM,AQ (by omega),<-AM] at hj
   grind
  ·have hie:i=pre.length:=by grind
   subst hie;rw[AM,A9 (by omega)] at hj;simp only[hl,Nat.sub_self,AW,Option.getD_some] at hj;refine Qqw hacc _ (fun e he hb=>?_) j hj;exact hc _ o hi (by grind) e (Array.mem_toList_iff.1 he) hb
theorem QhY{ops:List AD}(hc:Closed ops E)(hi:E i=true)(hj:((befs ops []).getD i 0).testBit j=true):E j=true:=
 QlJ ops [] [] rfl (by grind) (fun i j h=>by simp at h) i j hi hj
theorem QdH{ops:List AD}(hc:Closed ops E)(ho:ops[i]? =some o)(hi: ∀e∈o.after,AO .any e=true->E e.on=true)
 (hj:((befs ops []).getD i 0).testBit j=true) (hne:j≠i):E j=true:=by
 have hc':Closed ops (fun k=>E k||decide (k=i)):=fun k o' hk ho' e he hb=>by
  rcases Bool.or_eq_true_iff.1 hk with h|h
  ·show(E e.on||_)=true
   rw[hc k o' h ho' e he hb];rfl
  grind
 grind [QhY]
structure Chain(P:AA)(ops:Array AD)(l:List AD)(st:Nat->St)(xv:Nat->AV)(nb:Nat->Option Blk):Prop where
 step: ∀(i:Nat) o,l[i]? =some o->Step1 P ops o (st i) (xv i) (nb i)/\st (i+1)=(st i).next o (xv i) (nb i)
def maskB(b:Bool):Option Blk->List Blk
 |some C=>[bif b then C else .none]
 |none=>[]
theorem QoC(x:Option Blk):maskB true x=x.toList:=by cases x<;>rfl
def Qqx(b:Bool)(x:Option Blk):(maskB b x).length=x.toList.length:=by cases x<;>rfl
section
variable{P:AA}{ops:Array AD}{l:List AD}{st:Nat->St}{xv:Nat->AV}{nb:Nat->Option Blk}
def HE(H0:List Blk)(nb:Nat->Option Blk)(n:Nat)(E:Nat->Bool):List Blk:=H0++(AB n).flatMap fun i=>maskB (E i) (nb i)
def Chain.heap(h:Chain P ops l st xv nb): ∀i,i<=l.length->(st i).H=(st 0).H++(AB i).flatMap fun j=>(nb j).toList
 |0,_=>by simp
 |i+1,hi=>by
  have ho:l[i]? =some l[i]:=A1 (by omega);rw[(h.step i _ ho).2];show(st i).H++(nb i).toList=_;rw[Chain.heap h i (by omega),List.range_succ,List.flatMap_append,B6];simp
def Chain.n(h:Chain P ops l st xv nb): ∀i,i<=l.length->(st i).n=(st 0).n
 |0,_=>rfl
 |i+1,hi=>by
  have ho:l[i]? =some l[i]:=A1 (by omega);rw[(h.step i _ ho).2];exact Chain.n h i (by omega)
theorem HE_none(H0:List Blk)(nb:Nat->Option Blk)(n:Nat)(E:Nat->Bool):(HE H0 nb n E).length=H0.length+((AB n).flatMap fun j=>(nb j).toList).length:=by simp_all[HE,Qqx]
theorem Qot(H0:List Blk)(nb:Nat->Option Blk)(n i:Nat)(E:Nat->Bool)(hi:i<n):
 HE H0 nb n E=HE H0 nb i E++(maskB (E i) (nb i)++((AB (n -i -1)).map (· +(i+1))).flatMap fun j=>maskB (E j) (nb j)):=by
 unfold HE
 have:AB n=AB i++(i::(AB (n -i -1)).map (· +(i+1))):=by
  have h1:n=i+(1+(n -i -1)):=by omega
  conv=>lhs;rw[h1,Au,Au]
  grind [Function.comp_def]
 grind
theorem Qou{n:Nat}(hi:i<n)(hE:E i=false)(hC:nb i=some C):
 (HE H0 nb n E)[(HE H0 nb i E).length]? =some Blk.none/\(HE H0 nb n E).set (HE H0 nb i E).length C=HE H0 nb n (fun j=>E j||decide (j=i)):=by
 have hs:=Qot H0 nb n i E hi;have hs':=Qot H0 nb n i (fun j=>E j||decide (j=i)) hi
 have e1:HE H0 nb i (fun j=>E j||decide (j=i))=HE H0 nb i E:=by
  unfold HE
  congr 1
  apply congrArg BW;apply AR;intro j hj;have:=As.1 hj;simp[show j≠i by omega]
 have e2:(((AB (n -i -1)).map (· +(i+1))).flatMap fun j=>maskB (E j||decide (j=i)) (nb j))=((AB (n -i -1)).map (· +(i+1))).flatMap fun j=>maskB (E j) (nb j):=by
  grind [AR]
 grind [maskB]
theorem Qpz{n:Nat}(hC:nb i=none):HE H0 nb n E=HE H0 nb n (fun j=>E j||decide (j=i)):=by
 unfold HE
 congr 1
 apply congrArg BW;apply AR;intro j hj
 by_cases hji:j=i
 ·subst hji;rw[hC];rfl
 grind
theorem HE_all{n:Nat}(h: ∀i,i<n->E i=true):HE H0 nb n E=H0++(AB n).flatMap fun j=>(nb j).toList:=by grind [HE,AR,QoC]
theorem QtL{n:Nat}(hi:i<=n):Agree (H0++(AB i).flatMap fun j=>(nb j).toList) (HE H0 nb n E):=by
 have key: ∀(l:List Nat) (L:List Blk) (k:Nat) (C:Blk),(l.flatMap fun j=>(nb j).toList)[k]? =some C->
  ((l.flatMap fun j=>maskB (E j) (nb j))++L)[k]? =some C∨((l.flatMap fun j=>maskB (E j) (nb j))++L)[k]? =some Blk.none:=by
  intro l;induction l with
  |nil=>grind
  |cons j l ih=>
   intro L k C h;rw[B7] at h;rw[B7,B6];cases hn:nb j with
   |none=>grind [maskB]
   |some D=>
    grind [maskB]
 intro k C hC;unfold HE
 by_cases hk:k<H0.length
 ·grind
 ·rw[A9 (by omega)] at hC
  rw[A9 (by omega)]
  have hsp:AB n=AB i++(AB (n -i)).map (i+ ·):=by
   rw[<-Au];grind
  grind
theorem Chain.slot(h:Chain P ops l st xv nb): ∀i,i<=l.length-> ∀t,
 (∃j o,j<i/\l[j]? =some o/\o.dst=some t/\(∀j' o',j'<i->l[j']? =some o'->o'.dst=some t->j'<=j)/\look (st i).env t=xv j)∨
 ((∀j o,j<i->l[j]? =some o->o.dst≠some t)/\look (st i).env t=look (st 0).env t)
 |0,_,t=> .inr ⟨fun j o hj=>by omega,rfl⟩
 |i+1,hi,t=>by
  have ho:l[i]? =some l[i]:=A1 (by omega);have hst:=(h.step i _ ho).2
  by_cases hd:l[i].dst=some t
  ·refine .inl ⟨i,_,by omega,ho,hd,fun j' o' hj' _ _=>by omega,?_⟩
   rw[hst];show look (putE (st i).env l[i].dst (xv i)) t=_;rw[hd];exact Qdl _ _ _
  ·have hlk:look (st (i+1)).env t=look (st i).env t:=by
    rw[hst];show look (putE (st i).env l[i].dst (xv i)) t=_;cases hd':l[i].dst with
    |none=>rfl
    |some d=>exact Qdr (fun e=>hd (by grind)) _ _
   rcases Chain.slot h i (by omega) t with⟨j,o,h1,h2,h3,h4,h5⟩|⟨h1,h2⟩
   ·grind
   grind
end
def Lift(B:Bs)(Q:Ax->St->Prop):Ax->BS->A5->Prop:=fun e a w=> ∃s σ S,Q e s/\SmA B σ S s a w
def AWP(P:AA)(c:Code)(Q:Ax->St->Prop)(s:St):Prop:= ∀B,Gd B-> ∀σ S a w,SmA B σ S s a w->c.wp P (Lift B Q) a w
theorem QdV{ops:List AD}(h:tmpOk ops=true){p:AD}(ho:ops[i]? =some o)(hp:ops[j]? =some p)(ht:t∈names ops o)(hd:p.dst=some t)(hne:j≠i):
 (j<i->((befs ops []).getD i 0).testBit j=true)/\(i<j->((befs ops []).getD j 0).testBit i=true):=by
 unfold tmpOk at h;simp only[BD] at h;have hm: ∀(k:Nat) (q:AD),ops[k]? =some q->(q,k)∈ops.zipIdx:=fun k q hq=>List.mk_mem_zipIdx_iff_getElem?.2 hq
 have:=h (o,i) (hm i o ho) t ht (p,j) (hm j p hp);simp only[hd,beq_self_eq_true,Bool.not_true,Bool.false_or,Bool.or_eq_true,beq_iff_eq,hne,false_or] at this;constructor
 ·intro hlt
  simp_all
 ·intro hlt
  have hb:Af j i=false:=by
   cases hb:Af j i
   ·rfl
   ·have:j<i:=by simp_all
    omega
  grind
variable{P:AA}
def Qgg{K:BS->A5->Prop}{Q:Ax->BS->A5->Prop}
 (h:(execOp a.eval o).run P w= .ok (.value y) w') (k:K (a.put o.dst y) w'):o.wp P a w K Q:=by
 unfold BX;rw[h];exact k
def QQ{env:List (Nat×AV)}{H:List Blk}
 (h: ∀(σ:Sg) (S:Nat->Prop) (H':List Blk) (a:BS) (w:A5),(∀k C,H'[k]? =some C->BlkOk σ S H' w k C)->(∀u∈o.op.operands,Rel σ S H' w (aval env u) (a.eval u))->Agree H H'->
   ∃v,(execOp a.eval o).run P w= .ok (.value v) w/\Rel σ S H' w x v):Loc P o env H x none:=by
 intro B σ S H' a w _ hS hop hag _ K Q k;obtain⟨v,h1,h2⟩:=h σ S H' a w hS.blk hop hag;exact Qgg h1 (k v w σ S hS h2 (Ev.refl _ _ _ _))
def Qq3{env:List (Nat×AV)}{H:List Blk}{cells:List AV}
 (h: ∀(σ:Sg) (S:Nat->Prop) (H':List Blk) (a:BS) (w:A5),(∀u∈o.op.operands,Rel σ S H' w (aval env u) (a.eval u))->
   ∃cs T,(execOp a.eval o).run P w= .ok (.value (.pointer (some ⟨w.heap.size,0,none⟩))) (w.alloc (.cells cs T))/\ ∀(j:Nat) x,cells[j]? =some x-> ∃v,cs[j]? =some v/\Rel σ S H' w x v):
 Loc P o env H (.ptr H.length 0 0) (some (.row 0 cells)):=by
 intro B σ S H' a w _ hS hop hag hk K Q k;have hκ:=hk _ rfl;obtain⟨cs,T,h1,h2⟩:=h σ S H' a w hop;obtain⟨h3,h4⟩:=hS.fillRow (T:=T) hκ h2;have hl:H.length<H'.length:=(A2.1 hκ).1;refine Qgg h1 (k _ _ _ _ h3 (.ptr _ 0 0 _ rfl 0 cells (AG hl) (AU _) fun _=>⟨_,Qdc _ _ _,rfl⟩) h4)
theorem Qq6{env:List (Nat×AV)}{H:List Blk}{len:Nat}{rows:List (List D)}(hlen:rows.length=len)(hsz: ∀r∈rows,r.length=sz)
 (h: ∀(σ:Sg) (S:Nat->Prop) (H':List Blk) (a:BS) (w:A5),(∀u∈o.op.operands,Rel σ S H' w (aval env u) (a.eval u))->
   ∃cs,(execOp a.eval o).run P w= .ok (.value (.slice (some ⟨w.heap.size,0,none⟩) len len)) (w.alloc (.cells cs T))/\cs.size=len*sz/\len<=maxLen/\
    ∀(i j:Nat) r d,rows[i]? =some r->r[j]? =some d-> ∃v,cs[i*sz+j]? =some v/\RelD S w d v):
 Loc P o env H (.osl H.length 0 0 len) (some (.arr 0 sz T rows)):=by
 intro B σ S H' a w _ hS hop hag hk K Q k;have hκ:=hk _ rfl;obtain⟨cs,h1,hcs,hm,h2⟩:=h σ S H' a w hop;obtain⟨h3,h4⟩:=hS.fillArr (g:=0) (T:=T) hκ hsz h2;have hl:H.length<H'.length:=(A2.1 hκ).1;refine Qgg h1 (k _ _ _ _ h3 (.osl _ 0 0 len _ rfl 0 sz T rows (AG hl) (AU _) fun _=>⟨by omega,.inl ⟨w.heap.size,len,cs,T,Qdc _ _ _,AU _,hm,by simp,QdP _ _,by grind⟩⟩) h4)
def D.vals:List D->Option (List A4)
 |[]=>some []
 |.v x::r=>(D.vals r).map (x:: ·)
 |_=>none
def AV.conc:AV->Option A4
 |.d (.v x)=>some x
 |.d (.agg l)=>(D.vals l).map fun vs=> .agg vs.toArray
 |.fn f []=>some (.func f #[] #[])
 |_=>none
theorem D.vals_rel{S:Nat->Prop}{w:A5}: ∀{l:List D} {vs cs:List A4},D.vals l=some vs->l.length=cs.length->(∀(i:Nat) d x,l[i]? =some d->cs[i]? =some x->RelD S w d x)->cs=vs
 |[],vs,cs,h,hl,_=>by
  grind [D.vals]
 |d::r,vs,[],h,hl,_=>by simp at hl
 |d::r,vs,c::cs,h,hl,hr=>by
  cases d with
  |v x=>
   simp only[D.vals] at h;cases hv:D.vals r with
   |none=>grind
   |some vs'=>
    rw[hv] at h;obtain rfl:=A0 h;have h0:=hr 0 _ c rfl rfl;cases h0;have h3:=D.vals_rel (cs:=cs) hv (by grind) fun i d x hd hx=>hr (i+1) d x (by grind) (by grind)
    rw[h3]
  |_=>simp[D.vals] at h
theorem AV.conc_rel{S:Nat->Prop}{H:List Blk}{v:A4}(h:Rel σ S H w x v)(hc:x.conc=some y):v=y:=by
 cases h with
 |d d v h=>
  cases h with
  |v x=>grind [AV.conc]
  |agg l cs hl hr=>
   simp only[AV.conc] at hc;cases hv:D.vals l with
   |none=>grind
   |some vs=>
    rw[hv] at hc;obtain rfl:=A0 hc;rw[D.vals_rel hv hl hr]
  |_=>simp[AV.conc] at hc
 |fn f l cs hl hr=>
  cases l with
  |nil=>
   grind [AV.conc]
  |cons=>simp[AV.conc] at hc
 |_=>simp[AV.conc] at hc
section
variable{dst:Option Tmp}{ty:A8}{pos:String}{after:Array BK}{gd:Option (Nat×Bool)}{env:List (Nat×AV)}{H:List Blk}
theorem Qn5:Loc P ⟨dst,.move u,ty,pos,after,gd⟩ env H (aval env u) none:=
 QQ fun σ S H' a w _ hop _=>⟨a.eval u,rfl,hop u (by simp[A3])⟩
theorem QoI:Loc P ⟨dst,.assign u,ty,pos,after,gd⟩ env H (aval env u) none:=
 QQ fun σ S H' a w _ hop _=>⟨a.eval u,rfl,hop u (by simp[A3])⟩
theorem QsN{c x y:AF}{X Y:AV}(hc:aval env c= .d (.v (.bool b)))(hx:aval env x=X)(hy:aval env y=Y):
 Loc P ⟨dst,.pick c x y,ty,pos,after,gd⟩ env H (bif b then X else Y) none:=
 QQ fun σ S H' a w _ hop _=>by
  have h:=hop c (by simp[A3]);rw[hc] at h;have hb:a.eval c= .bool b:=AV.conc_rel h rfl;refine⟨if b then a.eval x else a.eval y,by simp[execOp,hb,asBool],?_⟩
  grind [A3]
theorem loc_un{op:UnOp}{x:AF}{X z:A4}(hx:(aval env x).conc=some X)
 (h: ∀(R:Result A4->Prop) w,R (.ok z w)->R ((Op.unary op X).run P w)):
 Loc P ⟨dst,.unOp op T x,ty,pos,after,gd⟩ env H (.d (.v z)) none:=
 QQ fun σ S H' a w _ hop _=>by
  have h1:=AV.conc_rel (hop x (by simp[A3])) hx;refine⟨z,?_,.d _ _ (.v _)⟩;have:=h (fun r=>r= .ok z w) w rfl;simp only[execOp,h1]
  simp_all
theorem loc_not{x:AF}(hx:aval env x= .d (.v (.bool b))):Loc P ⟨dst,.unOp .not T x,ty,pos,after,gd⟩ env H (.d (.v (.bool !b))) none:=
 loc_un (X:= .bool b) (by rw[hx];rfl) fun R w h=>h
structure TyF where
 agg:Bool
 size:Nat
 bytes:Nat
 zero:List A4
 elem:Option A8
 fields:List (Nat×Nat)
 places:Option (List (Nat×Nat))
 str:Bool
def tyf(P:AA)(T:A8):Option TyF:=
 match P.underlying T,P.info? T with
 |some d,some i=>match i.zero with
  |some z=>some
   {agg:=match d with| .struct _| .array _ _=>true|_=>false
    size:=i.size,bytes:=i.bytes,zero:=z.cells.toList
    elem:=match d with| .slice e=>some e|_=>none
    fields:=match d with| .struct fs=>fs.toList.map fun f=>(f.offset,((P.info? f.type).map (·.size)).getD 0)|_=>[]
    places:=match d with| .struct fs=>fs.toList.mapM fun f=>(P.info? f.type).map fun i=>(f.offset,i.size)|_=>none
    str:=match d with| .string=>true|_=>false}
  |none=>none
 |_,_=>none
theorem QdL{F:TyF}(h:tyf P T=some F): ∃d i z,P.underlying T=some d/\P.info? T=some i/\i.zero=some z/\i.size=F.size/\i.bytes=F.bytes/\z.cells.toList=F.zero/\
 (match d with| .struct _| .array _ _=>true|_=>false)=F.agg/\(match d with| .slice e=>some e|_=>none)=F.elem/\
 (match d with| .struct fs=>fs.toList.map fun f=>(f.offset,((P.info? f.type).map (·.size)).getD 0)|_=>[])=F.fields/\
 (match d with| .struct fs=>fs.toList.mapM fun f=>(P.info? f.type).map fun i=>(f.offset,i.size)|_=>none)=F.places/\
 (match d with| .string=>true|_=>false)=F.str:=by grind [tyf]
theorem Qdy{e:A8}{F:TyF}(h:tyf P T=some F)(he:F.elem=some e):P.underlying T=some (.slice e):=by grind [QdL]
theorem Qf8{F:TyF}(h:tyf P T=some F)(he:F.str=true):P.underlying T=some .string:=by grind [QdL]
def QkM{F:TyF}(h:tyf P T=some F)(w:A5):(isAgg T).run P w= .ok F.agg w:=by
 obtain⟨d,i,z,hd,_,_,_,_,_,ha,_⟩:=QdL h;unfold isAgg;rw[A7,run_underlying hd];rw[<-ha];cases d<;>rfl
theorem QdM{F:TyF}(h:tyf P T=some F)(w:A5):(sizeOf T).run P w= .ok F.size w:=by
 obtain⟨d,i,z,_,hi,_,hs,_⟩:=QdL h;simp[sizeOf,typeInfo,hi,hs]
def Qsn{F:TyF}(h:tyf P T=some F)(w:A5): ∃z,(zeroValue T).run P w= .ok z w/\z.cells.toList=F.zero:=by
 obtain⟨d,i,z,_,hi,hz,_,_,hzz,_⟩:=QdL h;exact⟨z,by simp[zeroValue,typeInfo,hi,hz],hzz⟩
theorem QdQ(b o j:Nat):(⟨b,o,none⟩:BZ).add j=⟨b,o+j,none⟩:=by unfold Ba;grind
theorem Qfp{F:TyF}(hT:tyf P T=some F){b o:Nat}{vs:List A4}(hvs: ∀(j:Nat) v,vs[j]? =some v->w.cell? ⟨b,o+j,none⟩=some v):
 (F.agg=true->vs.length=F.size->(loadVar T ⟨b,o,none⟩).run P w= .ok (.agg vs.toArray) w)/\(F.agg=false-> ∀v,vs[0]? =some v->(loadVar T ⟨b,o,none⟩).run P w= .ok v w):=by
 constructor
 ·intro ha hl
  have hc:=run_loadCells_list (P:=P) w ⟨b,o,none⟩ vs fun j v hv=>by rw[QdQ];grind
  rw[hl] at hc;simp[loadVar,QkM hT,QdM hT,ha,hc]
 ·intro ha v hv
  have:=hvs 0 v hv;simp at this;simp[loadVar,QkM hT,ha,this]
def allD:List AV->Option (List D)
 |[]=>some []
 |.d x::r=>(allD r).map (x:: ·)
 |_=>none
theorem Qf6: ∀{l:List AV} {ds:List D},allD l=some ds->l=ds.map AV.d
 |[],ds,h=>by grind [allD]
 |x::r,ds,h=>by
  cases x with
  |d y=>
   simp only[allD] at h;cases hr:allD r with
   |none=>grind
   |some ds'=>rw[hr] at h;obtain rfl:=A0 h;rw[Qf6 hr];rfl
  |_=>simp[allD] at h
def AV.mk(l:List AV):AV:=match allD l with|some ds=> .d (.agg ds)|none=> .agg l
theorem AV.mk_rel{S:Nat->Prop}{l:List AV}{cs:List A4}(hl:l.length=cs.length)(h: ∀(i:Nat) d x,l[i]? =some d->cs[i]? =some x->Rel σ S H w d x):Rel σ S H w (AV.mk l) (.agg cs.toArray):=by
 unfold AV.mk;cases hd:allD l with
 |none=>exact .agg l cs hl h
 |some ds=>
  have he:=Qf6 hd;subst he;refine .d _ _ (.agg ds cs (by grind) fun i d x hi hx=>?_);have:=h i (.d d) x (by grind) hx;cases this;omega
def ldA(F:TyF)(cells:List AV):Option AV:=bif F.agg then(bif Al F.size cells.length then some (AV.mk (cells.take F.size)) else none) else cells.head?
def ldD(F:TyF)(cells:List D):Option D:=bif F.agg then(bif Al F.size cells.length then some (.agg (cells.take F.size)) else none) else cells.head?
theorem Qm8{F:TyF}(hT:tyf P T=some F){S:Nat->Prop}{b o:Nat}{cells:List D}{x:D}(hx:ldD F cells=some x)
 (hc: ∀(j:Nat) d,cells[j]? =some d-> ∃v,w.cell? ⟨b,o+j,none⟩=some v/\RelD S w d v): ∃v,(loadVar T ⟨b,o,none⟩).run P w= .ok v w/\RelD S w x v:=by
 have hg: ∀n,n<=cells.length-> ∃vs:List A4,vs.length=n/\ ∀(j:Nat) v,vs[j]? =some v->w.cell? ⟨b,o+j,none⟩=some v/\ ∃d,cells[j]? =some d/\RelD S w d v:=by
  intro n;induction n with
  |zero=>simp
  |succ n ih=>
   intro hn;obtain⟨vs,hl,h⟩:=ih (by omega);obtain⟨v,hv,hr⟩:=hc n _ (A1 (by omega));refine⟨vs++[v],by simp[hl],fun j u hu=>?_⟩
   by_cases hj:j<vs.length
   ·rw[AQ hj] at hu;exact h j u hu
   ·have:j=n:=by have:=(A2.1 hu).1;simp at this;omega
    subst this;rw[A9 (by omega)] at hu;simp[hl] at hu;subst hu;exact⟨hv,_,A1 (by omega),hr⟩
 unfold ldD at hx;cases ha:F.agg with
 |true=>
  rw[ha] at hx;simp only[cond_true] at hx;cases hb:Al F.size cells.length with
  |false=>rw[hb] at hx;cases hx
  |true=>
   rw[hb] at hx;obtain rfl:=A0 hx;obtain⟨vs,hl,hvs⟩:=hg F.size (by simpa using hb);refine⟨_,(Qfp hT fun j v hv=>(hvs j v hv).1).1 ha hl,.agg _ vs (by simp_all) fun i d x hd hxx=>?_⟩
   grind
 |false=>
  rw[ha] at hx;simp only[cond_false] at hx;cases cells with
  |nil=>cases hx
  |cons d r=>
   simp at hx;subst hx;obtain⟨vs,hl,hvs⟩:=hg 1 (by simp)
   match vs,hl with
   |[v],_=>
    obtain⟨_,d',hd',hr⟩:=hvs 0 v rfl;simp at hd';subst hd';exact⟨v,(Qfp hT fun j v hv=>(hvs j v hv).1).2 ha v rfl,hr⟩
theorem QqA{F:TyF}(hT:tyf P T=some F){S:Nat->Prop}{b o:Nat}{cells:List AV}(hx:ldA F cells=some x)
 (hc: ∀(j:Nat) d,cells[j]? =some d-> ∃v,w.cell? ⟨b,o+j,none⟩=some v/\Rel σ S H w d v): ∃v,(loadVar T ⟨b,o,none⟩).run P w= .ok v w/\Rel σ S H w x v:=by
 have hg: ∀n,n<=cells.length-> ∃vs:List A4,vs.length=n/\ ∀(j:Nat) v,vs[j]? =some v->w.cell? ⟨b,o+j,none⟩=some v/\ ∃d,cells[j]? =some d/\Rel σ S H w d v:=by
  intro n;induction n with
  |zero=>simp
  |succ n ih=>
   intro hn;obtain⟨vs,hl,h⟩:=ih (by omega);obtain⟨v,hv,hr⟩:=hc n _ (A1 (by omega));refine⟨vs++[v],by simp[hl],fun j u hu=>?_⟩
   by_cases hj:j<vs.length
   ·rw[AQ hj] at hu;exact h j u hu
   ·have:j=n:=by have:=(A2.1 hu).1;simp at this;omega
    subst this;rw[A9 (by omega)] at hu;simp[hl] at hu;subst hu;exact⟨hv,_,A1 (by omega),hr⟩
 unfold ldA at hx;cases ha:F.agg with
 |true=>
  rw[ha] at hx;simp only[cond_true] at hx;cases hb:Al F.size cells.length with
  |false=>rw[hb] at hx;cases hx
  |true=>
   rw[hb] at hx;obtain rfl:=A0 hx;obtain⟨vs,hl,hvs⟩:=hg F.size (by simpa using hb);refine⟨_,(Qfp hT fun j v hv=>(hvs j v hv).1).1 ha hl,AV.mk_rel (by simp_all) fun i d x hd hxx=>?_⟩
   grind
 |false=>
  rw[ha] at hx;simp only[cond_false] at hx;cases cells with
  |nil=>cases hx
  |cons d r=>
   simp at hx;subst hx;obtain⟨vs,hl,hvs⟩:=hg 1 (by simp)
   match vs,hl with
   |[v],_=>
    obtain⟨_,d',hd',hr⟩:=hvs 0 v rfl;simp at hd';subst hd';exact⟨v,(Qfp hT fun j v hv=>(hvs j v hv).1).2 ha v rfl,hr⟩
theorem Qm1{F:TyF}{cells:List D}{x:D}(hT:tyf P T=some F)(hu:aval env u= .d (.pd cells))(hx:ldD F cells=some x):
 Loc P ⟨dst,.load T u,ty,pos,after,gd⟩ env H (.d x) none:=
 QQ fun σ S H' a w _ hop _=>by
  have h:=hop u (by simp[A3]);rw[hu] at h;generalize hv:a.eval u=v at h;cases h with
  |d _ _ h=>
   cases h with
   |pd l b o g hS hc hr=>
    obtain⟨y,h1,h2⟩:=Qm8 hT hx fun j d hd=>⟨g j,hc j d hd,hr j d hd⟩
    exact⟨y,by simp[execOp,B8,AN,hv,h1],.d _ _ h2⟩
theorem QcW{F:TyF}{g o:Nat}{cells:List AV}(hT:tyf P T=some F)(hu:aval env u= .ptr k g o)(hk:H[k]? =some (.row g cells))
 (hx:ldA F (cells.drop o)=some x):Loc P ⟨dst,.load T u,ty,pos,after,gd⟩ env H x none:=
 QQ fun σ S H' a w hB hop hag=>by
  have h:=hop u (by simp[A3]);rw[hu] at h;generalize hv:a.eval u=v at h;cases h with
  |ptr _ _ _ _ _ g' cells' hk' hg hh=>
   have hke:H'[k]? =some (.row g cells):=by
    rcases hag k _ hk with h|h
    ·exact h
    ·rw[hk'] at h;cases h
   rw[hk'] at hke;obtain⟨rfl,rfl⟩:g'=g/\cells'=cells:=by injection (A0 hke) with h1 h2;exact⟨h1,h2⟩
   obtain⟨b,hb,rfl⟩:=hh rfl;rcases hB k _ hk' with⟨b',cs,T',hb',hc,hr⟩|⟨hb',_⟩;rotate_left
   ·grind
   rw[hb] at hb';obtain rfl:=A0 hb'
   obtain⟨y,h1,h2⟩:=QqA (b:=b) (o:=o) hT hx fun j d hd=>by
    rw[B2] at hd;obtain⟨u,hu,hr'⟩:=hr _ d hd;exact⟨u,by grind [cell_of_row],hr'⟩
   exact⟨y,by simp[execOp,B8,AN,hv,h1],h2⟩
theorem QcY{F:TyF}{g:Nat}{rows:List (List D)}{x:D}(hT:tyf P T=some F)(hu:aval env u= .ept k g i j)(hk:H[k]? =some (.arr g sz T0 rows))
 (hr:rows[i]? =some r) (hx:ldD F (r.drop j)=some x):Loc P ⟨dst,.load T u,ty,pos,after,gd⟩ env H (.d x) none:=
 QQ fun σ S H' a w hB hop hag=>by
  have h:=hop u (by simp[A3]);rw[hu] at h;generalize hv:a.eval u=v at h;cases h with
  |ept _ _ _ _ _ _ g' sz' T' rows' hk' hg hh=>
   have hke:H'[k]? =some (.arr g sz T0 rows):=by
    rcases hag k _ hk with h|h
    ·exact h
    ·rw[hk'] at h;cases h
   rw[hk'] at hke;obtain⟨rfl,rfl,rfl,rfl⟩:g'=g/\sz'=sz/\T'=T0/\rows'=rows:=by injection (A0 hke) with h1 h2 h3 h4;exact⟨h1,h2,h3,h4⟩
   obtain⟨b,hb,rfl⟩:=hh rfl;obtain⟨_,hbk⟩:=hB k _ hk';rcases hbk with⟨b',cs,hb',hc,hrel⟩|⟨hb',_⟩;rotate_left
   ·grind
   rw[hb] at hb';obtain rfl:=A0 hb'
   obtain⟨y,h1,h2⟩:=Qm8 (b:=b) (o:=i*sz'+j) hT hx fun q d hd=>by
    rw[B2] at hd;obtain⟨u,hu,hr'⟩:=hrel i _ r d hr hd;exact⟨u,by grind [cell_of_row],hr'⟩
   exact⟨y,by simp[execOp,B8,AN,hv,h1],.d _ _ h2⟩
theorem Qgp{F:TyF}(hT:tyf P T=some F){o n:Nat}(hf:F.fields[f]? =some (o,n))(hn:0<n)(b q:Nat)(w:A5):
 (BN T (.pointer (some ⟨b,q,none⟩)) f).run P w= .ok (.pointer (some ⟨b,q+o,none⟩)) w:=by
 obtain⟨d,i,z,hd,hi,hz,_,_,_,_,_,hfs,_⟩:=QdL hT;cases d with
 |struct fs=>
  simp only at hfs;rw[<-hfs,A6] at hf;cases hx:fs.toList[f]? with
  |none=>grind
  |some fld=>
   rw[hx] at hf;simp only[AT,AE,BM] at hf;obtain⟨rfl,hs⟩:=hf;have hx':fs[f]? =some fld:=by grind
   cases hfi:P.info? fld.type with
   |none=>grind
   |some fi=>
    rw[hfi] at hs;simp at hs;simp[BN,run_underlying hd,hx',AN,fieldPlace,sizeOf,typeInfo,hfi,hs,QdQ,show n≠0 by omega]
 |_=>grind
theorem Qlx{F:TyF}{o n:Nat}{cells:List D}(hT:tyf P T=some F)(hu:aval env u= .d (.pd cells))(hf:F.fields[f]? =some (o,n))(hn:Af 0 n=true):
 Loc P ⟨dst,.fieldAddr T u f,ty,pos,after,gd⟩ env H (.d (.pd (cells.drop o))) none:=
 QQ fun σ S H' a w _ hop _=>by
  have h:=hop u (by simp[A3]);rw[hu] at h;generalize hv:a.eval u=v at h;cases h with
  |d _ _ h=>
   cases h with
   |pd l b q g hS hc hr=>
    refine⟨_,(by simp[execOp,hv,Qgp hT hf (by simp_all)]:(execOp a.eval ⟨dst,.fieldAddr T u f,ty,pos,after,gd⟩).run P w= .ok (.value (.pointer (some ⟨b,q+o,none⟩))) w),.d _ _ (.pd _ b (q+o) (fun j=>g (o+j)) hS (fun j d hd=>?_) fun j d hd=>?_)⟩
    ·grind
    grind
def Qfw{F:TyF}{o n g:Nat}(hT:tyf P T=some F)(hu:aval env u= .ptr k g q){cells:List AV}(hk:H[k]? =some (.row g cells))(hf:F.fields[f]? =some (o,n))(hn:Af 0 n=true):
 Loc P ⟨dst,.fieldAddr T u f,ty,pos,after,gd⟩ env H (.ptr k g (q+o)) none:=
 QQ fun σ S H' a w _ hop hag=>by
  have h:=hop u (by simp[A3]);rw[hu] at h;generalize hv:a.eval u=v at h;cases h with
  |ptr _ _ _ _ _ g' cells' hk' hg hh=>
   have hke:H'[k]? =some (.row g cells):=by
    rcases hag k _ hk with h|h
    ·exact h
    ·rw[hk'] at h;cases h
   rw[hk'] at hke;obtain⟨rfl,rfl⟩:g'=g/\cells'=cells:=by injection (A0 hke) with h1 h2;exact⟨h1,h2⟩
   obtain⟨b,hb,rfl⟩:=hh rfl;refine⟨_,(by simp[execOp,hv,Qgp hT hf (by simpa using hn)]:(execOp a.eval ⟨dst,.fieldAddr T u f,ty,pos,after,gd⟩).run P w= .ok (.value (.pointer (some ⟨b,q+o,none⟩))) w),.ptr _ _ _ _ rfl g' cells' hk' hg fun _=>⟨b,hb,rfl⟩⟩
theorem Qkh{F:TyF}{o n g:Nat}{rows:List (List D)}(hT:tyf P T=some F)(hu:aval env u= .ept k g i q)(hk:H[k]? =some (.arr g sz T0 rows))(hf:F.fields[f]? =some (o,n))(hn:Af 0 n=true):
 Loc P ⟨dst,.fieldAddr T u f,ty,pos,after,gd⟩ env H (.ept k g i (q+o)) none:=
 QQ fun σ S H' a w _ hop hag=>by
  have h:=hop u (by simp[A3]);rw[hu] at h;generalize hv:a.eval u=v at h;cases h with
  |ept _ _ _ _ _ _ g' sz' T' rows' hk' hg hh=>
   have hke:H'[k]? =some (.arr g sz T0 rows):=by
    rcases hag k _ hk with h|h
    ·exact h
    ·rw[hk'] at h;cases h
   rw[hk'] at hke;obtain⟨rfl,rfl,rfl,rfl⟩:g'=g/\sz'=sz/\T'=T0/\rows'=rows:=by injection (A0 hke) with h1 h2 h3 h4;exact⟨h1,h2,h3,h4⟩
   obtain⟨b,hb,rfl⟩:=hh rfl;refine⟨_,(by simp[execOp,hv,Qgp hT hf (by simpa using hn)]:(execOp a.eval ⟨dst,.fieldAddr T u f,ty,pos,after,gd⟩).run P w= .ok (.value (.pointer (some ⟨b,i*sz'+q+o,none⟩))) w),.ept _ _ _ _ _ rfl g' sz' T' rows' hk' hg fun _=>⟨b,hb,by grind⟩⟩
theorem Qgo{e:A8}{F E:TyF}(hT:tyf P T=some F)(he:F.elem=some e)(hE:tyf P e=some E){i:Int}{b o len cap:Nat}(h0:0<=i)(h1:i<len)(w:A5):
 (BO T (.slice (some ⟨b,o,none⟩) len cap) (.int κ i)).run P w= .ok (.pointer (some ⟨b,o+i.toNat*E.size,none⟩)) w:=by
 obtain⟨d,inf,z,hd,_,_,_,_,_,_,hel,_⟩:=QdL hT;rw[he] at hel;cases d with
 |slice e'=>
  simp at hel;subst hel;simp[BO,asIntOf,run_underlying hd,h0,h1,QdM hE,QdQ]
 |_=>grind
theorem QcV{e:A8}{F E:TyF}{v:AF}{i:Int}{n:Nat}{c:Bool}{rows:List (List D)}(hT:tyf P T=some F)(he:F.elem=some e)(hE:tyf P e=some E)
 (hn:E.size=n) (hu:aval env u= .d (.sl c n rows)) (hv:aval env v= .d (.v (.int κ i))) (h0:0<=i) (hr:rows[i.toNat]? =some r):
 Loc P ⟨dst,.indexAddr T u v,ty,pos,after,gd⟩ env H (.d (.pd r)) none:=
 QQ fun σ S H' a w _ hop _=>by
  subst hn;have h:=hop u (by simp[A3]);have h':=AV.conc_rel (hop v (by simp[A3])) (y:= .int κ i) (by rw[hv];rfl);rw[hu] at h;generalize hx:a.eval u=x at h;cases h with
  |d _ _ h=>
   cases h with
   |slnil=>simp at hr
   |sl _ _ _ b o cap g hS hlen hcap hc hrel=>
    have hlt:i.toNat<rows.length:=(A2.1 hr).1;refine⟨_,by simp only[execOp,hx,h',A7,Qgo hT he hE (len:=rows.length) (cap:=cap) (b:=b) (o:=o) h0 (by omega) w];rfl,.d _ _ (.pd r b _ (fun j=>g i.toNat j) hS (fun j d hd=>?_) fun j d hd=>hrel _ j r d hr hd)⟩
    grind
theorem Qdn{e:A8}{F E:TyF}{v:AF}{i:Int}{g len:Nat}{rows:List (List D)}(hT:tyf P T=some F)(he:F.elem=some e)(hE:tyf P e=some E)
 (hn:E.size=sz) (hu:aval env u= .osl k g off len) (hk:H[k]? =some (.arr g sz T0 rows)) (hv:aval env v= .d (.v (.int κ i))) (h0:0<=i) (h1:i<len):
 Loc P ⟨dst,.indexAddr T u v,ty,pos,after,gd⟩ env H (.ept k g (off+i.toNat) 0) none:=
 QQ fun σ S H' a w _ hop hag=>by
  subst hn;have h:=hop u (by simp[A3]);have h':=AV.conc_rel (hop v (by simp[A3])) (y:= .int κ i) (by rw[hv];rfl);rw[hu] at h;generalize hx:a.eval u=x at h;cases h with
  |osl _ _ _ _ _ _ g' sz' T' rows' hk' hg hh=>
   have hke:H'[k]? =some (.arr g E.size T0 rows):=by
    rcases hag k _ hk with h|h
    ·exact h
    grind
   rw[hk'] at hke;obtain⟨rfl,rfl,rfl,rfl⟩:g'=g/\sz'=E.size/\T'=T0/\rows'=rows:=by grind
   obtain⟨_,hh⟩:=hh rfl;rcases hh with⟨b,cap,cs,T',hb,hl,hm,rfl,hc,hs⟩|⟨hb,rfl,rfl⟩
   ·exact⟨_,by simp only[execOp,hx,h',A7,Qgo hT he hE h0 h1 w];rfl,.ept _ _ _ _ _ rfl g' E.size _ rows' hk' hg fun _=>⟨b,hb,by grind⟩⟩
   ·omega
end
variable{P:AA}
def D.cells:D->Option (List D)
 |.agg l=>some l
 |.v x=>bif x.oneCell' then some [.v x] else none
 |.sl c n l=>some [.sl c n l]
 |.pd l=>some [.pd l]
 |.mp l=>some [.mp l]
 |_=>none
def AV.cells:AV->Option (List AV)
 |.d x=>x.cells.map (·.map AV.d)
 |.agg l=>some l
 |.tup _=>none
 |.gh _ _=>none
 |x=>some [x]
theorem Qe8{v:A4}(h:v.oneCell'=true):v.cells= #[v]:=by cases v<;>simp_all[Value.oneCell',Ag]
theorem D.cells_rel{S:Nat->Prop}{x:D}{v:A4}{l:List D}(h:RelD S w x v)(hc:x.cells=some l):v.cells.size=l.length/\ ∀(j:Nat) d,l[j]? =some d-> ∃u,v.cells[j]? =some u/\RelD S w d u:=by
 have single: ∀{y:D} {u:A4},RelD S w y u->u.cells= #[u]->l=[y]->u.cells.size=l.length/\ ∀(j:Nat) d,l[j]? =some d-> ∃u',u.cells[j]? =some u'/\RelD S w d u':=by
  grind
 cases h with
 |any=>simp[D.cells] at hc
 |v _=>
  simp only[D.cells] at hc;cases ho:v.oneCell' with
  |false=>grind
  |true=>
   rw[ho] at hc;exact single (.v v) (Qe8 ho) (A0 hc).symm
 |agg l' cs hl hr=>
  obtain rfl:=A0 hc;refine⟨by simp[Ag,hl],fun j d hd=>?_⟩;have hj:j<cs.length:=by rw[<-hl];exact(A2.1 hd).1
  exact⟨cs[j],by simp[Ag,hj],hr j d _ hd (A1 hj)⟩
 |tup=>simp[D.cells] at hc
 |pd l' b o g hS hcc hr=>exact single (.pd l' b o g hS hcc hr) rfl (A0 hc).symm
 |slnil c n a cap=>exact single (.slnil c n a cap) rfl (A0 hc).symm
 |sl c n l' b o cap g hS hn hcap hcc hr=>exact single (.sl c n l' b o cap g hS hn hcap hcc hr) rfl (A0 hc).symm
 |mp l' b es clock hS hb hl hk hr=>exact single (.mp l' b es clock hS hb hl hk hr) rfl (A0 hc).symm
theorem AV.cells_rel{S:Nat->Prop}{H:List Blk}{v:A4}{l:List AV}(h:Rel σ S H w x v)(hc:x.cells=some l):v.cells.size=l.length/\ ∀(j:Nat) d,l[j]? =some d-> ∃u,v.cells[j]? =some u/\Rel σ S H w d u:=by
 have single:v.cells= #[v]->l=[x]->v.cells.size=l.length/\ ∀(j:Nat) d,l[j]? =some d-> ∃u',v.cells[j]? =some u'/\Rel σ S H w d u':=by
  grind
 have h':=h;cases h with
 |d x v h=>
  simp only[AV.cells] at hc;cases hx:x.cells with
  |none=>grind
  |some ds=>
   rw[hx] at hc;obtain rfl:=A0 hc;obtain⟨h1,h2⟩:=D.cells_rel h hx;refine⟨by grind,fun j d hd=>?_⟩;rw[A6] at hd;cases hj:ds[j]? with
   |none=>grind
   |some y=>
    rw[hj] at hd;obtain rfl:=A0 hd;obtain⟨u,hu,hr⟩:=h2 j y hj;exact⟨u,hu,.d _ _ hr⟩
 |agg l' cs hl hr=>
  obtain rfl:=A0 hc;refine⟨by simp[Ag,hl],fun j d hd=>?_⟩;have hj:j<cs.length:=by rw[<-hl];exact(A2.1 hd).1
  exact⟨cs[j],by simp[Ag,hj],hr j d _ hd (A1 hj)⟩
 |tup=>simp[AV.cells] at hc
 |gh=>simp[AV.cells] at hc
 |ptr k g o v ho=>exact single (Qe8 ho) (A0 hc).symm
 |ept k g i j v ho=>exact single (Qe8 ho) (A0 hc).symm
 |osl k g off len v ho=>exact single (Qe8 ho) (A0 hc).symm
 |rsl k g n v ho=>exact single (Qe8 ho) (A0 hc).symm
 |mp k g v ho=>exact single (Qe8 ho) (A0 hc).symm
 |fn f l' cs hl hr=>exact single rfl (A0 hc).symm
section
variable{dst:Option Tmp}{ty:A8}{pos:String}{after:Array BK}{gd:Option (Nat×Bool)}{env:List (Nat×AV)}{H:List Blk}
theorem loc_box{l:List AV}(hc:(aval env u).cells=some l):Loc P ⟨dst,.box T u,ty,pos,after,gd⟩ env H (.ptr H.length 0 0) (some (.row 0 l)):=
 Qq3 fun σ S H' a w hop=>by
  obtain⟨_,h2⟩:=AV.cells_rel (hop u (by simp[A3])) hc;exact⟨(a.eval u).cells,T,by simp[execOp,Instr.box,newVar,newRow],h2⟩
theorem Qq7{F:TyF}(hT:tyf P T=some F):Loc P ⟨dst,.alloc T,ty,pos,after,gd⟩ env H (.ptr H.length 0 0) (some (.row 0 (F.zero.map fun v=> .d (.v v)))):=
 Qq3 fun σ S H' a w _=>by
  obtain⟨z,h1,h2⟩:=Qsn hT w;refine⟨z.cells,T,by simp[execOp,Instr.alloc,newVar,newRow,h1],fun j x hx=>?_⟩;rw[A6,<-h2] at hx;cases hj:z.cells.toList[j]? with
  |none=>grind
  |some v=>
   rw[hj] at hx;obtain rfl:=A0 hx;exact⟨v,by grind,.d _ _ (.v _)⟩
def setAt(cells:List AV)(o:Nat):List AV->List AV
 |[]=>cells
 |x::r=>setAt (cells.set o x) (o+1) r
def fillA(pl:Nat->Option (Nat×Nat))(env:List (Nat×AV)):List AV->List (Nat×AF)->Option (List AV)
 |cells,[]=>some cells
 |cells,(i,u)::r=>match pl i,(aval env u).cells with
  |some (o,n),some l=>bif B5 l.length n&&Al (o+l.length) cells.length then fillA pl env (setAt cells o l) r else none
  |_,_=>none
theorem QkY: ∀(l:List AV) (cells:List AV) (o:Nat),(setAt cells o l).length=cells.length
 :=by intro l;induction l<;>grind [setAt]
theorem QpP{R:AV->A4->Prop}: ∀(l:List AV) (vs:List A4) (cells:List AV) (cs:Array A4) (o k:Nat),vs.length=l.length->(∀(j:Nat) x,l[j]? =some x-> ∃v,vs[j]? =some v/\R x v)->
 cells.length=cs.size->(∀(j:Nat) x,cells[j]? =some x-> ∃v,cs[j]? =some v/\R x v)->o+l.length<=cells.length->
 ((vs.zipIdx k).foldl (fun cs (c,j)=>cs.setIfInBounds (o -k+j) c) cs).size=cells.length/\
 ∀(j:Nat) x,(setAt cells o l)[j]? =some x->k<=o-> ∃v,((vs.zipIdx k).foldl (fun cs (c,j)=>cs.setIfInBounds (o -k+j) c) cs)[j]? =some v/\R x v:=by
 intro l;induction l with
 |nil=>
  intro vs cells cs o k hl _ hs hc _;have:vs=[]:=AX (by omega);subst this;exact⟨hs.symm,fun j x hx _=>hc j x hx⟩
 |cons y r ih=>
  intro vs cells cs o k hl hv hs hc ho
  match vs,hl with
  |v::vs,hl=>
   obtain⟨v',hv',hr⟩:=hv 0 y rfl;simp at hv';subst hv'
   by_cases hk:k<=o
   ·have h2:o -k+k=o:=by omega
    have hstep:(((v::vs).zipIdx k).foldl (fun cs (c,j)=>cs.setIfInBounds (o -k+j) c) cs)=((vs.zipIdx (k+1)).foldl (fun cs (c,j)=>cs.setIfInBounds (o+1 -(k+1)+j) c) (cs.setIfInBounds o v)):=by
     simp_all
    rw[hstep];have hlen:o<cells.length:=by grind
    have:=ih vs (cells.set o y) (cs.setIfInBounds o v) (o+1) (k+1) (by grind) (fun j x hx=>by simpa using hv (j+1) x (by grind)) (by grind) (fun j x hx=>?_) (by grind)
    ·exact⟨by grind,fun j x hx _=>this.2 j x hx (by omega)⟩
    grind
   ·refine⟨?_,fun j x _ h=>absurd h hk⟩
    clear ih hv hr
    have: ∀(l:List (A4×Nat)) (cs:Array A4),(l.foldl (fun cs (c,j)=>cs.setIfInBounds (o -k+j) c) cs).size=cs.size:=by
     intro l;induction l with
     |nil=>grind
     |cons p l ih=>grind
    grind
theorem QnJ{pl:Nat->Option (Nat×Nat)}{S:Nat->Prop}:
 ∀(parts:List (Nat×AF)) (cells:List AV) (cs:Array A4) (res:List AV),(∀p∈parts,Rel σ S H' w (aval env p.2) (a.eval p.2))->fillA pl env cells parts=some res->cells.length=cs.size->
  (∀(j:Nat) x,cells[j]? =some x-> ∃v,cs[j]? =some v/\Rel σ S H' w x v)->
  ∃cs',B3 pl cs (parts.map fun p=>(p.1,a.eval p.2))=some cs'/\cs'.size=res.length/\ ∀(j:Nat) x,res[j]? =some x-> ∃v,cs'[j]? =some v/\Rel σ S H' w x v:=by
 intro parts;induction parts with
 |nil=>
  intro cells cs res _ h hl hc;simp only[fillA,AE] at h;subst h;exact⟨cs,rfl,hl.symm,hc⟩
 |cons p r ih=>
  obtain⟨i,u⟩:=p;intro cells cs res hop h hl hc;simp only[fillA] at h;cases hf:pl i with
  |none=>grind
  |some on=>
   obtain⟨o,n⟩:=on;rw[hf] at h;cases hcl:(aval env u).cells with
   |none=>grind
   |some l=>
    rw[hcl] at h;simp only at h;cases hb:(B5 l.length n&&Al (o+l.length) cells.length) with
    |false=>grind
    |true=>
     rw[hb] at h;simp only[cond_true] at h;obtain⟨hb1,hb2⟩:=Bool.and_eq_true_iff.1 hb;have hn:l.length=n:=Nat.eq_of_beq_eq_true hb1;have ho:o+l.length<=cells.length:=Aq hb2;obtain⟨h1,h2⟩:=AV.cells_rel (hop (i,u) Ae) hcl;have hset:=QpP (R:=Rel σ S H' w) l (a.eval u).cells.toList cells cs o 0 (by omega) (fun j x hx=>by grind) hl hc ho
     grind [QkY,B3,Array.toList_zipIdx]
theorem Qq5{F:TyF}{pl:List (Nat×Nat)}{parts:Array (Nat×AF)}{res:List AV}(hT:tyf P T=some F)(hpl:F.places=some pl)(hr:fillA (fun i=>pl[i]?) env (F.zero.map fun v=> .d (.v v)) parts.toList=some res):
 Loc P ⟨dst,.build T parts,ty,pos,after,gd⟩ env H (AV.mk res) none:=
 QQ fun σ S H' a w _ hop _=>by
  obtain⟨d,inf,z,hd,hi,hz,_,_,hzz,_,_,_,hfs,_⟩:=QdL hT;rw[hpl] at hfs;cases d with
  |struct fs=>
   simp only at hfs
   obtain⟨cs',h1,h2,h3⟩:=QnJ (env:=env) (σ:=σ) (S:=S) (H':=H') (a:=a) (w:=w) (pl:=fun i=>pl[i]?) parts.toList _ z.cells res
    (fun p hp=>hop p.2 (by simp only[A3];grind)) hr (by grind) (fun j x hx=>by
      rw[A6,<-hzz] at hx;cases hj:z.cells.toList[j]? with
      |none=>grind
      |some v=>
       rw[hj] at hx;obtain rfl:=A0 hx
       exact⟨v,by grind,.d _ _ (.v _)⟩)
   refine⟨.agg cs',?_,?_⟩
   ·have hb:P.built T (parts.map fun(i,x)=>(i,a.eval x)).toList=some cs':=by
     unfold Program.built
     simp_all
    simp only[execOp,A7,run_build w T _ cs' hb];rfl
   ·have:=AV.mk_rel (σ:=σ) (S:=S) (H:=H') (w:=w) (l:=res) (cs:=cs'.toList) (by grind) (fun i d x hd hx=>by
     grind)
    omega
  |_=>cases hfs
end
variable{P:AA}
section
variable{dst:Option Tmp}{ty:A8}{pos:String}{after:Array BK}{gd:Option (Nat×Bool)}{env:List (Nat×AV)}{H:List Blk}
theorem Qki{l:List D}{x:D}(hu:aval env u= .d (.tup l))(hx:l[i]? =some x):Loc P ⟨dst,.extract u i,ty,pos,after,gd⟩ env H (.d x) none:=
 QQ fun σ S H' a w _ hop _=>by
  have h:=hop u (by simp[A3]);rw[hu] at h;generalize hv:a.eval u=v at h;cases h with
  |d _ _ h=>
   cases h with
   |tup _ cs hl hr=>
    have hi:i<cs.length:=by grind
    exact⟨cs[i],by simp[execOp,BP,hv,hi],.d _ _ (hr i x _ hx (A1 hi))⟩
theorem Qm6{l:List AV}(hu:aval env u= .tup l)(hx:l[i]? =some x):Loc P ⟨dst,.extract u i,ty,pos,after,gd⟩ env H x none:=
 QQ fun σ S H' a w _ hop _=>by
  have h:=hop u (by simp[A3]);rw[hu] at h;generalize hv:a.eval u=v at h;cases h with
  |tup _ cs hl hr=>
   have hi:i<cs.length:=by grind
   exact⟨cs[i],by simp[execOp,BP,hv,hi],hr i x _ hx (A1 hi)⟩
theorem QoH{e:A8}{F:TyF}{c:Bool}{n:Nat}{rows:List (List D)}(hT:tyf P T=some F)(he:F.elem=some e)(hu:aval env u= .d (.sl c n rows)):
 Loc P ⟨dst,.call ⟨.builtin .len, #[u], #[T]⟩,ty,pos,after,gd⟩ env H (.d (.v (.int .i64 rows.length))) none:=
 QQ fun σ S H' a w _ hop _=>by
  have h:=hop u (by simp[A3,AS]);rw[hu] at h;generalize hv:a.eval u=v at h;cases h with
  |d _ _ h=>cases h<;>exact⟨_,by simp[execOp,resolve,invoke,builtin,B9,hv,goInt,run_underlying (Qdy hT he)];try rfl,.d _ _ (.v _)⟩
theorem Qm4{e:A8}{F:TyF}{g len:Nat}{rows:List (List D)}(hT:tyf P T=some F)(he:F.elem=some e)(hu:aval env u= .osl k g off len)(hk:H[k]? =some (.arr g sz T0 rows)):
 Loc P ⟨dst,.call ⟨.builtin .len, #[u], #[T]⟩,ty,pos,after,gd⟩ env H (.d (.v (.int .i64 len))) none:=
 QQ fun σ S H' a w _ hop hag=>by
  have h:=hop u (by simp[A3,AS]);rw[hu] at h;generalize hv:a.eval u=v at h;cases h with
  |osl _ _ _ _ _ _ g' sz' T' rows' hk' hg hh=>
   have hke:H'[k]? =some (.arr g sz T0 rows):=by
    rcases hag k _ hk with h|h
    ·exact h
    grind
   rw[hk'] at hke;obtain⟨rfl,rfl,rfl,rfl⟩:g'=g/\sz'=sz/\T'=T0/\rows'=rows:=by grind
   obtain⟨_,hh⟩:=hh rfl;rcases hh with⟨b,cap,cs,T',hb,hl,hm,rfl,hc,hs⟩|⟨hb,rfl,rfl⟩<;>exact⟨_,by simp[execOp,resolve,invoke,builtin,B9,hv,goInt,run_underlying (Qdy hT he)];try rfl,.d _ _ (.v _)⟩
theorem Qm2{F:TyF}{s:ByteArray}(hT:tyf P T=some F)(he:F.str=true)(hu:aval env u= .d (.v (.string s))):
 Loc P ⟨dst,.call ⟨.builtin .len, #[u], #[T]⟩,ty,pos,after,gd⟩ env H (.d (.v (.int .i64 s.size))) none:=
 QQ fun σ S H' a w _ hop _=>by
  have h:=AV.conc_rel (hop u (by simp[A3,AS])) (y:= .string s) (by rw[hu];rfl);exact⟨_,by simp[execOp,resolve,invoke,builtin,B9,h,goInt,run_underlying (Qf8 hT he)];try rfl,.d _ _ (.v _)⟩
end
def Pure(P:AA)(f:FuncId)(args:List D)(x:D):Prop:=
 ∀(B:Bs) (σ:Sg) (S:Nat->Prop) (H:List Blk) (w:A5) (cargs:List A4),Gd B->Sm B σ S H w->args.length=cargs.length->(∀(i:Nat) d v,args[i]? =some d->cargs[i]? =some v->RelD S w d v)->
  Calls P f cargs.toArray w fun e w'=> ∃v,e= .returned v/\AK w.heap.size w w'/\RelD (fun b=>S b∨w.heap.size<=b/\b<w'.heap.size) w' x v
theorem Sm.below{S:Nat->Prop}{H:List Blk}(h:Sm B σ S H w)(hb:AK w.heap.size w w'):
 Sm B σ (fun b=>S b∨w.heap.size<=b/\b<w'.heap.size) H w'/\Ev σ S H w σ (fun b=>S b∨w.heap.size<=b/\b<w'.heap.size) H w':=by
 have hlt: ∀k C b,H[k]? =some C->σ k=some b->b<w.heap.size:=fun k C b hC hb=>(h.σUp k b (A2.1 hC).1 hb).1
 have e0:Ev σ S H w σ S H w':=Ev.more (fun b hS=>hb.block b (h.sUp b hS).1) (fun k C hC _=>⟨hC,rfl,fun b hbb=>hb.block b (hlt k C b hC hbb)⟩);have e:Ev σ S H w σ (fun b=>S b∨w.heap.size<=b/\b<w'.heap.size) H w':=⟨fun b hS=> .inl hS,e0.same,e0.row,e0.arr,e0.mp⟩
 refine⟨⟨hb.os.trans h.os,hb.tape.trans h.tape,hb.output.trans h.output,BV h.size hb.size,fun b hlt hn=>(hb.block b (by have:=h.size;omega)).trans (h.keep b hlt hn),fun b hS=> .inl (h.sLo b hS),fun b hS=>?_,
  fun k b hk hbb=>?_,h.inj,fun k C hC=>(h.blk k C hC).mono e rfl fun b hbb=>hb.block b (hlt k C b hC hbb)⟩,e⟩
 ·rcases hS with hS|⟨h1,h2⟩
  ·obtain⟨h3,h4⟩:=h.sUp b hS
   exact⟨by have:=hb.size;omega,h4⟩
  ·exact⟨h2,.inr (.inr (by have:=h.size;omega))⟩
 ·obtain⟨h1,h2,h3⟩:=h.σUp k b hk hbb
  refine⟨by have:=hb.size;omega,fun hS=>?_,h3⟩
  grind
theorem Qmi{S:Nat->Prop}{H:List Blk}{env:List (Nat×AV)}{xs:List AF}(hd:allD (xs.map (aval env))=some ds)
 (h: ∀u∈xs,Rel σ S H w (aval env u) (a.eval u)):ds.length=(xs.map a.eval).length/\ ∀(i:Nat) d v,ds[i]? =some d->(xs.map a.eval)[i]? =some v->RelD S w d v:=by
 have he:=Qf6 hd;have hlen:ds.length=xs.length:=by have:=congrArg Bd he;grind
 refine⟨by grind,fun i d v hi hv=>?_⟩;rw[A6] at hv;cases hx:xs[i]? with
 |none=>grind
 |some u=>
  rw[hx] at hv;obtain rfl:=A0 hv;have h1:=h u (AL hx);have h2:(xs.map (aval env))[i]? =(ds.map AV.d)[i]? :=by rw[he]
  rw[A6,A6,hx,hi] at h2;simp only[AT,AE] at h2;rw[h2] at h1;cases h1;omega
theorem Qdh{dst:Option Tmp}{ty:A8}{pos:String}{after:Array BK}{gd:Option (Nat×Bool)}{env:List (Nat×AV)}{H:List Blk}{f:FuncId}{xs:Array AF}{tys:Array A8}{x:D}
 (hf: ∀args w,(callFunc f args).run P w= .ok (.enter f args) w) (h:Pure P f ds x) (hd:allD (xs.toList.map (aval env))=some ds):
 Loc P ⟨dst,.call ⟨.value (.func f),xs,tys⟩,ty,pos,after,gd⟩ env H (.d x) none:=by
 intro B σ S H' a w hB hS hop _ _ K Q k;obtain⟨h1,h2⟩:=Qmi (a:=a) hd fun u hu=>hop u (by grind [A3,AS])
 have hrun:(execOp a.eval ⟨dst,.call ⟨.value (.func f),xs,tys⟩,ty,pos,after,gd⟩).run P w= .ok (.enter f (xs.toList.map a.eval).toArray) w:=by
  have:execOp a.eval ⟨dst,.call ⟨.value (.func f),xs,tys⟩,ty,pos,after,gd⟩=callFunc f (#[]++xs.map a.eval++ #[]):=rfl;rw[this,hf]
  congr 2
  grind
 unfold BX;rw[hrun,Oper.upon_enter];refine(h B σ S H' w _ hB hS h1 h2).mono ?_;rintro e w' ⟨v,rfl,hb,hr⟩;obtain⟨h3,h4⟩:=hS.below hb;exact k v w' σ _ h3 (.d _ _ hr) h4
def ASeq(P:AA)(ops:Array AD)(Q:Ax->St->Prop)(l:List AD)(s:St):Prop:= ∀B,Gd B-> ∀σ S a w,SmA B σ S s a w->wpList P ops (Lift B Q) l a w
variable{Q:Ax->St->Prop}
def Qhc{ops:Array AD}{s:St}(h:Q .normal s):ASeq P ops Q [] s:=fun _ _ σ S _ _ hA=>⟨s,σ,S,h,hA⟩
theorem SmA.next{S:Nat->Prop}{s:St}{nb:Option Blk}{v:A4}(h:SmA B σ S s a w)(hd:dstOk s.n o.dst=true)
 (hS:Sm B σ' S' (s.H++nb.toList) w') (hR:Rel σ' S' (s.H++nb.toList) w' x v) (hev:Ev σ S s.H w σ' S' (s.H++nb.toList) w'):SmA B σ' S' (s.next o x nb) (a.put o.dst v) w':=by
 refine⟨hS,by cases hdd:o.dst<;>exact h.defers,?_,fun t=>?_⟩
 ·cases hdd:o.dst
  ·exact h.size
  ·simp only[BA,Ai];exact h.size
 ·show Rel _ _ _ _ (look (putE s.env o.dst x) t) _
  cases hdd:o.dst with
  |none=>exact(h.env t).mono hev
  |some d=>
   rw[hdd] at hd;have hlt:d<a.tmps.size:=by rw[h.size];simpa[dstOk] using hd
   by_cases hdt:d=t
   ·subst hdt
    have:(a.put (some d) v).tmps.getD d undef=v:=by
     simp only[BA]
     simp_all
    rw[this];show Rel _ _ _ _ (look ((d,x)::s.env) d) _;rw[Qdl];exact hR
   ·have:(a.put (some d) v).tmps.getD t undef=a.tmps.getD t undef:=by
     simp only[BA]
     simp_all
    rw[this];show Rel _ _ _ _ (look ((d,x)::s.env) t) _;rw[Qdr hdt];exact(h.env t).mono hev
theorem Qf7{ops:Array AD}{S:Nat->Prop}{s:St}(h:SmA B σ S s a w)(hw:awanted ops s.env o=some b)
 (hg: ∀j want d,o.guard=some (j,want)->(ops[j]?).bind (·.dst)=some d->d<s.n):B0 o (yielded ops a.tmps)=b:=
 Qhy hw fun j want d hgu hd=>⟨by rw[h.size];grind,h.env d⟩
def gdOk(ops:Array AD)(n:Nat)(o:AD):Bool:=
 match o.guard with
 |none=>true
 |some (j,_)=>match(ops[j]?).bind (·.dst) with
  |some d=>Af d n
  |none=>true
theorem QeH{ops:Array AD}{n:Nat}(h:gdOk ops n o=true): ∀j want d,o.guard=some (j,want)->(ops[j]?).bind (·.dst)=some d->d<n:=by
 intro j want d hg hd;unfold gdOk at h
 simp_all
theorem Qog{ops:Array AD}{l:List AD}{s:St}{nb:Option Blk}(hl:Loc P o s.env s.H x nb)(hd:dstOk s.n o.dst=true)(hg:gdOk ops s.n o=true)
 (hw:awanted ops s.env o=some true) (h:ASeq P ops Q l (s.next o x nb)):ASeq P ops Q (o::l) s:=by
 intro B hB σ S a w hA;unfold wpList;rw[if_pos (Qf7 hA hw (QeH hg))];refine .inl ?_;cases nb with
 |none=>
  refine hl B σ S s.H a w hB hA.sm (fun u _=>Qeg fun t _=>hA.env t) (fun k C hC=> .inl hC) (fun C hC=>by cases hC) _ _ fun v w' σ' S' h1 h2 h3=>?_
  exact h B hB σ' S' _ w' (hA.next (nb:=none) hd (by grind [setNb]) (by grind [setNb]) (by grind [setNb]))
 |some C=>
  obtain⟨h4,h5⟩:=hA.sm.keepPlace
  refine hl B _ S (s.H++[Blk.none]) a w hB h4 (fun u _=>Qeg fun t _=>(hA.env t).mono h5) (fun k C hC=> .inl (by grind))
   (fun C _=>by grind) _ _ fun v w' σ' S' h1 h2 h3=>?_
  have hset:setNb (s.H++[Blk.none]) s.H.length (some C)=s.H++[C]:=by
   grind [setNb]
  rw[hset] at h1 h2 h3;refine h B hB σ' S' _ w' (hA.next (nb:=some C) hd (by grind) (by grind) ?_)
  have h6:Ev σ S s.H w σ' S' (s.H++[C]) w':=
   ⟨fun b hb=>h3.s b (h5.s b hb),fun b hb=>h3.same b (h5.s b hb),fun k g cells hk=>by
     obtain⟨g1,c1,e1,e2,e3⟩:=h5.row k g cells hk;obtain⟨g2,c2,e4,e5,e6⟩:=h3.row k g1 c1 e1
     grind,
    fun k g sz T rows hk=>by
     obtain⟨g1,c1,e1,e2,e3⟩:=h5.arr k g sz T rows hk;obtain⟨g2,c2,e4,e5,e6⟩:=h3.arr k g1 sz T c1 e1
     grind,
    fun k g l hk=>by
     obtain⟨g1,c1,e1,e2,e3⟩:=h5.mp k g l hk;obtain⟨g2,c2,e4,e5,e6⟩:=h3.mp k g1 c1 e1
     grind⟩
  grind
theorem QrX{ops:Array AD}{l:List AD}{s:St}(hw:awanted ops s.env o=some false)(hd:dstOk s.n o.dst=true)(hg:gdOk ops s.n o=true)
 (h:ASeq P ops Q l (s.next o (.d (.v undef)) none)):ASeq P ops Q (o::l) s:=by
 intro B hB σ S a w hA;unfold wpList;rw[if_neg (by grind [Qf7,QeH])];exact h B hB σ S _ w (hA.next (nb:=none) hd (by simpa using hA.sm) (.d _ _ (.v _)) (by grind [Ev.refl]))
def Qen{id:Nat}{l:List AD}{s:St}(h:ASeq P l.toArray Q l s):AWP P (.region id l.toArray false) Q s:=
 fun B hB σ S a w hA=>wp_region_lit (h B hB σ S a w hA)
variable{K:St->Prop}
def QlY{ops:Array AD}{l:List AD}{s:St}{nb:Option Blk}(hl:Loc P o s.env s.H x nb)(hd:dstOk s.n o.dst=true)
 (hw:awanted ops s.env o=some true) (h:ADraw P ops K l (s.next o x nb)):ADraw P ops K (o::l) s:=⟨x,nb,⟨hd,.inr ⟨hw,hl⟩⟩,h⟩
def Qpu{ops:Array AD}{l:List AD}{s:St}(hw:awanted ops s.env o=some false)(hd:dstOk s.n o.dst=true)
 (h:ADraw P ops K l (s.next o (.d (.v undef)) none)):ADraw P ops K (o::l) s:=⟨_,_,⟨hd,.inl ⟨hw,rfl,rfl⟩⟩,h⟩
def thenA(K:St->Prop)(Q:Ax->St->Prop):Ax->St->Prop
 |.normal,s=>K s
 |e,s=>Q e s
def blockA(id:Nat)(Q:Ax->St->Prop):Ax->St->Prop
 |.exit id',s=>if id'=id then Q .normal s else Q (.exit id') s
 |e,s=>Q e s
def awp_seq{x y:Code}{s:St}(h: ∀K:St->Prop,(∀s,AWP P y Q s->K s)->AWP P x (thenA K Q) s):AWP P (.seq x y) Q s:=by
 intro B hB σ S a w hA;refine wp_seq (wp_mono (h (AWP P y Q) (fun _ h=>h) B hB σ S a w hA) ?_);rintro e a w ⟨s',σ',S',hq,hA'⟩;cases e with
 |normal=>exact hq B hB σ' S' a w hA'
 |_=>exact⟨s',σ',S',hq,hA'⟩
def Qk6{s:St}(h:Q .normal s):AWP P .skip Q s:=fun _ _ σ S _ _ hA=>wp_skip ⟨s,σ,S,h,hA⟩
def Qk7{id:Nat}{s:St}(h:Q (.exit id) s):AWP P (.exit id) Q s:=fun _ _ σ S _ _ hA=>wp_exit ⟨s,σ,S,h,hA⟩
def Qg4{s:St}(h:Q .ret s):AWP P .ret Q s:=fun _ _ σ S _ _ hA=>wp_ret ⟨s,σ,S,h,hA⟩
theorem Qk8{c:AF}{x y:Code}{s:St}(hc:aval s.env c= .d (.v (.bool b)))(ht:b=true->AWP P x Q s)(hf:b=false->AWP P y Q s):AWP P (.cond c x y) Q s:=by
 intro B hB σ S a w hA;have h:=AV.conc_rel (Qeg (u:=c) fun t _=>hA.env t) (y:= .bool b) (by rw[hc];rfl);exact wp_cond_split h (fun e=>ht e B hB σ S a w hA) (fun e=>hf e B hB σ S a w hA)
def QiS{id:Nat}{s:St}(h:AWP P c (blockA id Q) s):AWP P (.block id c) Q s:=by
 intro B hB σ S a w hA;refine wp_block (wp_mono (h B hB σ S a w hA) ?_);rintro e a w ⟨s',σ',S',hq,hA'⟩;cases e with
 |exit id'=>
  simp only[blockA] at hq;simp only[Exit.inBlock];split
  ·rename_i h;rw[if_pos h] at hq;exact⟨s',σ',S',hq,hA'⟩
  ·rename_i h;rw[if_neg h] at hq;exact⟨s',σ',S',hq,hA'⟩
 |_=>exact⟨s',σ',S',hq,hA'⟩
def Weak(s s':St):Prop:= ∀B σ S a w,SmA B σ S s a w-> ∃σ' S',SmA B σ' S' s' a w
variable{s':St}
def Weak.trans{s s'':St}(h:Weak s s')(h':Weak s' s''):Weak s s'':=fun B σ S a w hA=>let⟨σ',S',h1⟩:=h B σ S a w hA;h' B σ' S' a w h1
theorem Qgf{s:St}(h:Weak s s')(hc:AWP P c Q s'):AWP P c Q s:=fun B hB σ S a w hA=>let⟨σ',S',h1⟩:=h B σ S a w hA;hc B hB σ' S' a w h1
def Qt5{s s0:St}(I:Nat->St->Prop)(n0:Nat)(hw:Weak s s0)(h0:I n0 s0)
 (round: ∀n s,I n s->AWP P c (thenA (fun s'=> ∃s1 n1,Weak s' s1/\n1<n/\I n1 s1) Q) s):AWP P (.loop c) Q s:=by
 intro B hB σ S a w hA;obtain⟨σ0,S0,hA0⟩:=hw B σ S a w hA;refine wp_loop_ghost (fun n a w=> ∃s σ S,I n s/\SmA B σ S s a w) n0 ⟨s0,σ0,S0,h0,hA0⟩ ?_;rintro n a w ⟨s,σ,S,hI,hA⟩;refine wp_mono (round n s hI B hB σ S a w hA) ?_;rintro e a w ⟨s',σ',S',hq,hA'⟩;cases e with
 |normal=>
  obtain⟨s1,n1,h1,h2,h3⟩:=hq;obtain⟨σ2,S2,hA2⟩:=h1 B σ' S' a w hA';exact⟨n1,h2,s1,σ2,S2,h3,hA2⟩
 |_=>exact⟨s',σ',S',hq,hA'⟩
def keepE(env:List (Nat×AV)):List Nat->List (Nat×AV)
 |[]=>[]
 |t::r=>(t,look env t)::keepE env r
theorem Qju(env:List (Nat×AV)): ∀(ts:List Nat) (t:Nat),look (keepE env ts) t=look env t∨look (keepE env ts) t= .d .any
 :=by intro l;induction l<;>grind [look,keepE,Qdr]
def envLt(m:Nat):List (Nat×AV)->Bool
 |[]=>true
 |(_,x)::r=>x.lt m&&envLt m r
theorem Qhp{m:Nat}: ∀{env:List (Nat×AV)} (_:envLt m env=true) (t:Nat),(look env t).lt m=true
 |[],_,_=>rfl
 |(u,x)::r,h,t=>by
  simp only[envLt,Bool.and_eq_true] at h
  by_cases hu:u=t
  ·grind [Qdl]
  ·rw[Qdr hu];exact Qhp h.2 t
theorem Qg7(ts:List Nat)(m:Nat){n:Nat}{env env':List (Nat×AV)}{H:List Blk}(he:keepE env ts=env')(hH:H.take m=H')(h1:envLt m env'=true)(h2:H'.all (Blk.lt m)=true):Weak ⟨n,env,H⟩ ⟨n,env',H'⟩:=by
 subst he;subst hH;intro B σ S a w hA;obtain⟨h3,h4⟩:=hA.sm.drop m h2;refine⟨σ,S,h3,hA.defers,hA.size,fun t=>?_⟩;rcases Qju env ts t with h|h
 ·have:=Qhp h1 t
  simp only at this⊢;rw[h] at this⊢;exact h4 _ _ (hA.env t) this
 ·simp only;rw[h];exact .d _ _ (.any _)
def frzE(k:Nat)(C:Blk):List (Nat×AV)->List (Nat×AV)
 |[]=>[]
 |(t,x)::r=>(t,x.frz k C)::frzE k C r
theorem Qiv(k:Nat)(C:Blk): ∀(env:List (Nat×AV)) (t:Nat),look (frzE k C env) t=(look env t).frz k C
 |[],_=>rfl
 |(u,x)::r,t=>by
  by_cases h:u=t
  ·subst h;rw[Qdl];exact Qdl _ _ _
  ·rw[Qdr h]
   have:look (frzE k C ((u,x)::r)) t=look (frzE k C r) t:=Qdr h _ _;rw[this];exact Qiv k C r t
theorem Qgn(k:Nat){n:Nat}{env:List (Nat×AV)}{H:List Blk}(hC:H[k]? =some C):Weak ⟨n,env,H⟩ ⟨n,frzE k C env,(H.set k C.dead).map (Blk.frz k C)⟩:=by
 intro B σ S a w hA;obtain⟨σ',S',h1,h2,_⟩:=hA.sm.freeze hC;exact⟨σ',S',h1,hA.defers,hA.size,fun t=>by simp only;rw[Qiv];exact h2 _ _ (hA.env t)⟩
def parE:Nat->List D->List (Nat×AV)
 |_,[]=>[]
 |i,d::r=>(i,.d d)::parE (i+1) r
theorem Qlt: ∀(l:List D) (i t:Nat),(∃d,i<=t/\l[t -i]? =some d/\look (parE i l) t= .d d)∨look (parE i l) t= .d .any
 :=by intro l;induction l<;>grind [look,parE,Qdr]
def rvA(env:List (Nat×AV)):Ad->AV
 |.tmp t=>look env t
 |.cell _ _=> .tup []
def rvV(tmps:Array A4):Ad->A4
 |.tmp t=>tmps.getD t undef
 |.cell _ _=>undef
def rvS(tmps:Array A4):Ad->Sem A4
 |.tmp t=>pure (tmps.getD t undef)
 |.cell a t=>do loadVar t (<-asAddr (tmps.getD a undef))
def QeX(fn:Func)(tmps:Array A4):results fn tmps=(do
 let vs<-fn.results.mapM (rvS tmps)
 pure (if h:vs.size=1 then vs[0] else .tuple vs)):=by
 unfold results;rfl
def resD(env:List (Nat×AV)):List Ad->Option D
 |[.tmp t]=>match look env t with
  |.d x=>some x
  |_=>none
 |rs=>(allD (rs.map (rvA env))).map .tup
def EndD(rs:List Ad)(x:D):Ax->St->Prop
 |.normal,s| .ret,s=>resD s.env rs=some x
 |_,_=>False
theorem Qh2(tmps:Array A4)(w:A5): ∀(rs:List Ad) (env:List (Nat×AV)) (ds:List D),allD (rs.map (rvA env))=some ds->
 (rs.mapM (rvS tmps)).run P w= .ok (rs.map (rvV tmps)) w
 |[],_,_,_=>by simp
 |.tmp t::rs,env,ds,h=>by
  simp only[BQ,rvA] at h;cases hl:look env t with
  |d x=>
   rw[hl] at h;simp only[allD] at h;cases hr:allD (rs.map (rvA env)) with
   |none=>grind
   |some ds'=>
    have ih:=Qh2 tmps w rs env ds' hr;rw[List.mapM_cons,A7];show((Sem.pure (tmps.getD t undef)).run P w).andThen _=_;rw[Sem.run_pure',AH,A7,ih,AH,Ac];rfl
  |_=>grind [allD]
 |.cell _ _::rs,env,ds,h=>by simp[allD,rvA] at h
theorem Qgq{f:FuncId}{fn:Func}{args:List D}{x:D}{n:Nat}{rs:List Ad}(hf:P.funcs[f]? =some fn)(hb:fn.body=some c)(hn:fn.ntmps=n)(hrs:fn.results=rs.toArray)(hle:Al args.length n=true)
 (h:AWP P c (EndD rs x) ⟨n,parE 0 args,[]⟩):Pure P f args x:=by
 have hlen:args.length<=n:=Aq hle;intro B σ S H w cargs hB hS hl hr;refine calls_of_wp hf hb ?_;have hG:=hB
 have hA:SmA ⟨w,B.G,fun _=>False,S⟩ (fun _=>none) S ⟨n,parE 0 args,[]⟩ {tmps:=cargs.toArray++AZ (fn.ntmps -cargs.toArray.size) undef,defers:=[]} w:=by
  refine⟨⟨rfl,rfl,rfl,AU _,fun _ _ _=>rfl,fun _ h=>h,fun b hb=>⟨(hS.sUp b hb).1,.inl hb⟩,fun k b hk=>by simp at hk,fun k k' b hk=>by simp at hk,fun k C hC=>by simp at hC⟩,rfl,?_,fun t=>?_⟩
  ·grind
  ·rcases Qlt args 0 t with⟨d,_,h2,h3⟩|h
   ·simp only
    rw[h3];have ht:t<cargs.length:=by grind
    have:(cargs.toArray++AZ (fn.ntmps -cargs.toArray.size) undef).getD t undef=cargs[t]:=by
     rw[AC,Array.getElem?_append_left (by omega)];simp[ht]
    rw[this];exact .d _ _ (hr t d _ (by omega) (A1 ht))
   ·simp only
    rw[h];exact .d _ _ (.any _)
 have hB':Gd ⟨w,B.G,fun _=>False,S⟩:=hB.again hS S;refine wp_mono (h _ hB' _ _ _ _ hA) ?_;rintro e a w' ⟨s',σ',S',hq,hA'⟩
 have fin:resD s'.env rs=some x->a.defers=[]/\ ∃v,(results fn a.tmps).run P w'= .ok v w'/\ ∃v',Ao v= .returned v'/\AK w.heap.size w w'/\RelD (fun b=>S b∨w.heap.size<=b/\b<w'.heap.size) w' x v':=by
  intro hx;have hbel:AK w.heap.size w w':=⟨hA'.sm.os,hA'.sm.tape,hA'.sm.output,hA'.sm.size,fun k hk=>hA'.sm.keep k hk fun h=>h⟩
  have hup: ∀d v,RelD S' w' d v->RelD (fun b=>S b∨w.heap.size<=b/\b<w'.heap.size) w' d v:=fun d v h=>h.mono (fun b hb=>by
   obtain⟨h1,h2⟩:=hA'.sm.sUp b hb
   grind) fun _ _=>rfl
  refine⟨hA'.defers,?_⟩
  have gen: ∀ds,allD (rs.map (rvA s'.env))=some ds->(fn.results.mapM (rvS a.tmps)).run P w'= .ok (rs.map (rvV a.tmps)).toArray w':=fun ds hds=>by
   rw[hrs,Array.mapM_eq_mapM_toList,Sem.run_map,Qh2 a.tmps w' rs s'.env ds hds];rfl
  have rel: ∀ds,allD (rs.map (rvA s'.env))=some ds-> ∀(i:Nat) d v,ds[i]? =some d->(rs.map (rvV a.tmps))[i]? =some v->RelD S' w' d v:=by
   intro ds hds i d v hd hv;have he:=Qf6 hds;have h2:=congrArg (fun l=>l[i]?) he;simp only[A6,hd] at h2 hv;cases hri:rs[i]? with
   |none=>grind
   |some r=>
    rw[hri] at hv h2;cases r with
    |tmp t=>
     simp only[AT,AE,rvA,rvV] at hv h2;subst hv;have:=hA'.env t;rw[h2] at this;cases this;omega
    |cell _ _=>simp[rvA] at h2
  have hlen': ∀ds,allD (rs.map (rvA s'.env))=some ds->ds.length=(rs.map (rvV a.tmps)).length:=fun ds hds=>by
   have:=congrArg Bd (Qf6 hds)
   grind
  rw[QeX]
  by_cases h1:rs.length=1
  ·match rs,h1 with
   |[.tmp t],_=>
    simp only[resD] at hx;cases hlk:look s'.env t with
    |d y=>
     rw[hlk] at hx;obtain rfl:=A0 hx;have hds:allD ([ResultVar.tmp t].map (rvA s'.env))=some [y]:=by simp[hlk,allD,rvA]
     refine⟨a.tmps.getD t undef,?_,_,rfl,hbel,hup _ _ (rel _ hds 0 y _ rfl rfl)⟩;rw[A7,gen _ hds];rfl
    |_=>grind
   |[.cell _ _],_=>simp[resD,allD,rvA] at hx
  ·have hx':(allD (rs.map (rvA s'.env))).map D.tup=some x:=by
    unfold resD at hx
    grind
   cases hds:allD (rs.map (rvA s'.env)) with
   |none=>grind
   |some ds=>
    rw[hds] at hx';obtain rfl:=A0 hx';refine⟨.tuple (rs.map (rvV a.tmps)).toArray,?_,_,rfl,hbel,.tup ds _ (hlen' ds hds) fun i d v hd hv=>hup _ _ (rel _ hds i d v hd hv)⟩;rw[A7,gen _ hds];simp[h1]
 cases e with
 |normal=>exact fin hq
 |ret=>exact fin hq
 |_=>exact hq.elim
theorem Ev.trans{σ1 σ2:Sg}{S S1 S2:Nat->Prop}{H H1 H2:List Blk}{w1 w2:A5}(a:Ev σ S H w σ1 S1 H1 w1)(b:Ev σ1 S1 H1 w1 σ2 S2 H2 w2):Ev σ S H w σ2 S2 H2 w2:=
 ⟨fun x hx=>b.s x (a.s x hx),fun x hx=>(b.same x (a.s x hx)).trans (a.same x hx),fun k g cells hk=>by
   obtain⟨g1,c1,e1,e2,e3⟩:=a.row k g cells hk;obtain⟨g2,c2,e4,e5,e6⟩:=b.row k g1 c1 e1
   grind,
  fun k g sz T rows hk=>by
   obtain⟨g1,c1,e1,e2,e3⟩:=a.arr k g sz T rows hk;obtain⟨g2,c2,e4,e5,e6⟩:=b.arr k g1 sz T c1 e1
   grind,
  fun k g l hk=>by
   obtain⟨g1,c1,e1,e2,e3⟩:=a.mp k g l hk;obtain⟨g2,c2,e4,e5,e6⟩:=b.mp k g1 c1 e1
   grind⟩
def Eff(P:AA)(o:AD)(env:List (Nat×AV))(H:List Blk)(x:AV)(H':List Blk):Prop:=
 ∀B σ S a w,Gd B->Sm B σ S H w->(∀u∈o.op.operands,Rel σ S H w (aval env u) (a.eval u))->
  ∀(K:BS->A5->Prop) (Q:Ax->BS->A5->Prop),(∀v w' σ' S',Sm B σ' S' H' w'->Rel σ' S' H' w' x v->Ev σ S H w σ' S' H' w'->K (a.put o.dst v) w')->o.wp P a w K Q
def EffE(P:AA)(o:AD)(env:List (Nat×AV))(H:List Blk)(R:AV->List Blk->Prop):Prop:=
 ∀B σ S a w,Gd B->Sm B σ S H w->(∀u∈o.op.operands,Rel σ S H w (aval env u) (a.eval u))->
  ∀(K:BS->A5->Prop) (Q:Ax->BS->A5->Prop),(∀x H',R x H'-> ∀v w' σ' S',Sm B σ' S' H' w'->Rel σ' S' H' w' x v->Ev σ S H w σ' S' H' w'->K (a.put o.dst v) w')->o.wp P a w K Q
def Eff.e{P:AA}{env:List (Nat×AV)}{H:List Blk}(h:Eff P o env H x H'):EffE P o env H fun y K=>y=x/\K=H':=
 fun B σ S a w hB hS hop K Q kk=>h B σ S a w hB hS hop K Q (kk _ _ ⟨rfl,rfl⟩)
theorem SmA.next'{S:Nat->Prop}{n:Nat}{env:List (Nat×AV)}{H:List Blk}{dst:Option Tmp}{v:A4}(h:SmA B σ S ⟨n,env,H⟩ a w)(hd:dstOk n dst=true)
 (hS:Sm B σ' S' H' w') (hR:Rel σ' S' H' w' x v) (hev:Ev σ S H w σ' S' H' w'):SmA B σ' S' ⟨n,putE env dst x,H'⟩ (a.put dst v) w':=by
 refine⟨hS,by cases dst<;>exact h.defers,?_,fun t=>?_⟩
 ·cases dst
  ·exact h.size
  ·simp only[BA,Ai];exact h.size
 ·show Rel _ _ _ _ (look (putE env dst x) t) _
  cases hdd:dst with
  |none=>exact(h.env t).mono hev
  |some d=>
   rw[hdd] at hd;have hlt:d<a.tmps.size:=by rw[h.size];simpa[dstOk] using hd
   by_cases hdt:d=t
   ·subst hdt
    have:(a.put (some d) v).tmps.getD d undef=v:=by
     simp only[BA]
     simp_all
    rw[this];show Rel _ _ _ _ (look ((d,x)::env) d) _
    grind [Qdl]
   ·have:(a.put (some d) v).tmps.getD t undef=a.tmps.getD t undef:=by
     simp only[BA]
     simp_all
    rw[this];show Rel _ _ _ _ (look ((d,x)::env) t) _;rw[Qdr hdt];exact(h.env t).mono hev
def Qoh{P:AA}{ops:Array AD}{l:List AD}{n:Nat}{env:List (Nat×AV)}{H:List Blk}(hl:Eff P o env H x H')(hd:dstOk n o.dst=true)(hg:gdOk ops n o=true)
 (hw:awanted ops env o=some true) (h:ASeq P ops Q l ⟨n,putE env o.dst x,H'⟩):ASeq P ops Q (o::l) ⟨n,env,H⟩:=by
 intro B hB σ S a w hA;unfold wpList;rw[if_pos (Qf7 hA hw (QeH hg))];exact .inl (hl B σ S a w hB hA.sm (fun u _=>Qeg fun t _=>hA.env t) _ _ fun v w' σ' S' h1 h2 h3=>h B hB σ' S' _ w' (hA.next' hd h1 h2 h3))
def QlU{P:AA}{ops:Array AD}{l:List AD}{n:Nat}{env:List (Nat×AV)}{H:List Blk}{R:AV->List Blk->Prop}(hl:EffE P o env H R)(hd:dstOk n o.dst=true)(hg:gdOk ops n o=true)
 (hw:awanted ops env o=some true) (h: ∀x H',R x H'->ASeq P ops Q l ⟨n,putE env o.dst x,H'⟩):ASeq P ops Q (o::l) ⟨n,env,H⟩:=by
 intro B hB σ S a w hA;unfold wpList;rw[if_pos (Qf7 hA hw (QeH hg))];exact .inl (hl B σ S a w hB hA.sm (fun u _=>Qeg fun t _=>hA.env t) _ _ fun x H' hx v w' σ' S' h1 h2 h3=>h x H' hx B hB σ' S' _ w' (hA.next' hd h1 h2 h3))
def QhH{P:AA}{ops:Array AD}{l:List AD}{n:Nat}{env:List (Nat×AV)}{H:List Blk}{d:Tmp}{op:Op}{ty:A8}{pos:String}{after:Array BK}{gd:Option (Nat×Bool)}
 (hl:Eff P ⟨some d,op,ty,pos,after,gd⟩ env H x H') (hw:awanted ops env ⟨some d,op,ty,pos,after,gd⟩=some true:=by rfl) (hd:Af d n=true:=by rfl) (hg:gdOk ops n ⟨some d,op,ty,pos,after,gd⟩=true:=by rfl)
 (k:ASeq P ops Q l ⟨n,(d,x)::env,H'⟩):ASeq P ops Q (⟨some d,op,ty,pos,after,gd⟩::l) ⟨n,env,H⟩:=Qoh hl hd hg hw k
def QiW{P:AA}{ops:Array AD}{l:List AD}{n:Nat}{env:List (Nat×AV)}{H:List Blk}{op:Op}{ty:A8}{pos:String}{after:Array BK}{gd:Option (Nat×Bool)}
 (hl:Eff P ⟨none,op,ty,pos,after,gd⟩ env H x H') (hw:awanted ops env ⟨none,op,ty,pos,after,gd⟩=some true:=by rfl) (hg:gdOk ops n ⟨none,op,ty,pos,after,gd⟩=true:=by rfl)
 (k:ASeq P ops Q l ⟨n,env,H'⟩):ASeq P ops Q (⟨none,op,ty,pos,after,gd⟩::l) ⟨n,env,H⟩:=Qoh hl rfl hg hw k
theorem Qig{P:AA}{a:BZ}{v c:A4}(hc:w.cell? a=some c)(hf:w.frozen? a=false)(ho:v.oneCell'=true):(store a v).run P w= .ok () (w.setCell a v):=by grind [run_store]
theorem QkT{P:AA}{B:Bs}{S:Nat->Prop}{k g b:Nat}: ∀(l:List AV) (vs:List A4) {σ:Sg} {H:List Blk} {w:A5} {cells:List AV} {o:Nat} (i:Nat),Sm B σ S H w->σ k=some b->H[k]? =some (.row g cells)->vs.length=l.length->
 (∀(j:Nat) x,l[j]? =some x-> ∃v,vs[j]? =some v/\Rel σ S H w x v/\v.oneCell'=true)->o+i+l.length<=cells.length->
 ∃w',(storeCells ⟨b,o,none⟩ vs i).run P w= .ok () w'/\Sm B σ S (H.set k (.row g (setAt cells (o+i) l))) w'/\Ev σ S H w σ S (H.set k (.row g (setAt cells (o+i) l))) w'
 |[],[],σ,H,w,cells,o,i,hS,_,hk,_,_,_=>by
  have hset:H.set k (.row g cells)=H:=by
   apply List.ext_getElem?
   grind
  exact⟨w,rfl,by grind [setAt],by grind [setAt,Ev.refl]⟩
 |[],v::vs,_,_,_,_,_,_,_,_,_,hl,_,_=>by simp at hl
 |x::l,[],_,_,_,_,_,_,_,_,_,hl,_,_=>by simp at hl
 |x::l,v::vs,σ,H,w,cells,o,i,hS,hb,hk,hl,hr,hlen=>by
  obtain⟨v',hv',hx,ho⟩:=hr 0 x rfl;simp at hv';subst hv';have hlt:o+i<cells.length:=by grind
  have hkl:k<H.length:=(A2.1 hk).1;rcases hS.blk k _ hk with⟨b',cs,T,hb',hc,hrel⟩|⟨hb',_⟩;rotate_left
  ·grind
  rw[hb] at hb';obtain rfl:=A0 hb';obtain⟨c,hcc,_⟩:=hrel (o+i) _ (A1 hlt);have hcell:w.cell? ⟨b,o+i,none⟩=some c:=by grind [cell_of_row]
  have hfr:w.frozen? ⟨b,o+i,none⟩=false:=frozen_of_row w b (o+i) cs T hc;obtain⟨h1,h2⟩:=hS.setRow hb hk hx hlt
  obtain⟨w',h3,h4,h5⟩:=QkT l vs (cells:=cells.set (o+i) x) (o:=o) (i+1) h1 hb (AG hkl) (by grind)
   (fun j y hy=>by
     obtain⟨u,hu,hru,hou⟩:=hr (j+1) y (by grind)
     exact⟨u,by grind,hru.mono h2,hou⟩) (by grind)
  refine⟨w',?_,?_,?_⟩
  ·unfold storeCells
   rw[A7];have:(⟨b,o,none⟩:BZ).add i=⟨b,o+i,none⟩:=QdQ b o i;rw[this,Qig hcell hfr ho,AH];exact h3
  ·grind [BY,setAt]
  ·simp only[BY] at h5
   have:=h2.trans h5
   grind [setAt]
def AV.one:AV->Bool
 |.d x=>x.cell
 |.agg _| .tup _| .gh _ _=>false
 |_=>true
theorem AV.one_rel{S:Nat->Prop}{H:List Blk}{v:A4}(h:Rel σ S H w x v)(ho:x.one=true):v.oneCell'=true:=by
 cases h with
 |d d v h=>exact D.cell_one h ho
 |agg=>cases ho
 |tup=>cases ho
 |gh=>cases ho
 |fn=>rfl
 |_=>assumption
theorem QlA{P:AA}{F:TyF}{v:AF}{g o:Nat}{cells l:List AV}{ty:A8}{pos:String}{after:Array BK}{gd:Option (Nat×Bool)}{env:List (Nat×AV)}{H:List Blk}
 (hT:tyf P T=some F) (hu:aval env u= .ptr k g o) (hk:H[k]? =some (.row g cells)) (hv:(aval env v).cells=some l) (hone:l.all AV.one=true) (hsz:l.length=F.size) (hlen:o+l.length<=cells.length):
 Eff P ⟨none,.store T u v,ty,pos,after,gd⟩ env H (.d (.v undef)) (H.set k (.row g (setAt cells o l))):=by
 intro B σ S a w hB hS hop K Q kk;have h1:=hop u (by simp[A3]);rw[hu] at h1;generalize hx:a.eval u=x at h1;cases h1 with
 |ptr _ _ _ _ _ g' cells' hk' hg hh=>
  rw[hk] at hk';obtain⟨rfl,rfl⟩:g=g'/\cells=cells':=by grind
  obtain⟨b,hb,rfl⟩:=hh rfl;obtain⟨hs1,hs2⟩:=AV.cells_rel (hop v (by simp[A3])) hv
  obtain⟨w',h3,h4,h5⟩:=QkT (P:=P) l (a.eval v).cells.toList (o:=o) 0 hS hb hk (by omega) (fun j y hy=>by
   grind [AV.one_rel]) (by omega)
  have hrun:(execOp a.eval ⟨none,.store T u v,ty,pos,after,gd⟩).run P w= .ok .skip w':=by
   grind [execOp,BR,AN,storeVar,A7,Ac,AH,QdM]
  unfold BX;rw[hrun];exact kk undef w' σ S (by omega) (.d _ _ (.v _)) (by omega)
theorem Qgd{P:AA}{F:TyF}{v:AF}{g:Nat}{rows:List (List D)}{x:D}{ty:A8}{pos:String}{after:Array BK}{gd:Option (Nat×Bool)}{env:List (Nat×AV)}{H:List Blk}
 (hT:tyf P T=some F) (hu:aval env u= .ept k g i j) (hk:H[k]? =some (.arr g sz T0 rows)) (hr:rows[i]? =some r) (hj:j<r.length) (hv:aval env v= .d x) (hone:x.cell=true) (hsz:F.size=1):
 Eff P ⟨none,.store T u v,ty,pos,after,gd⟩ env H (.d (.v undef)) (H.set k (.arr g sz T0 (rows.set i (r.set j x)))):=by
 intro B σ S a w hB hS hop K Q kk;have h1:=hop u (by simp[A3]);have h2:=hop v (by simp[A3]);rw[hu] at h1;rw[hv] at h2;generalize hx:a.eval u=y at h1;cases h2 with
 |d _ _ h2=>
  have ho:=D.cell_one h2 hone;cases h1 with
  |ept _ _ _ _ _ _ g' sz' T' rows' hk' hg hh=>
   rw[hk] at hk';obtain⟨rfl,rfl,rfl,rfl⟩:g=g'/\sz=sz'/\T0=T'/\rows=rows':=by grind
   obtain⟨b,hb,rfl⟩:=hh rfl;obtain⟨_,hbk⟩:=hS.blk k _ hk;rcases hbk with⟨b',cs,hb',hc,hrel⟩|⟨hb',_⟩;rotate_left
   ·grind
   rw[hb] at hb';obtain rfl:=A0 hb';obtain⟨c,hcc,_⟩:=hrel i j r _ hr (A1 hj);have hcell:w.cell? ⟨b,i*sz+j,none⟩=some c:=by grind [cell_of_row]
   have hfr:w.frozen? ⟨b,i*sz+j,none⟩=false:=frozen_of_row w b _ cs T0 hc;obtain⟨h4,h5⟩:=hS.setArr hb hk hr hj h2
   have hrun:(execOp a.eval ⟨none,.store T u v,ty,pos,after,gd⟩).run P w= .ok .skip (w.setCell ⟨b,i*sz+j,none⟩ (a.eval v)):=by
    simp_all[execOp,BR,AN,storeVar,QdM,Qe8,storeCells,QdQ,Qig]
   unfold BX;rw[hrun];exact kk undef _ σ S h4 (.d _ _ (.v _)) h5
end Aw
end
section
open Go.RowKit
namespace Pm
open Pl (dec dch)
def follows_mixed:AI.follows .mixedOrders=true:=by kernel_rfl
def optStr:Option Str->A4
 |some s=> .tuple #[.string ⟨s.toArray⟩,.bool true]
 |none=> .tuple #[.string ⟨#[]⟩,.bool false]
end Pm
end
section
open Go.RowKit
namespace Pm
open Pl (inR)
def l6In(n a b:Int)(w:A5):Calls AI 104 #[.int .i64 n,.int .i64 a,.int .i64 b] w fun e w'=>e= .returned (.bool (inR n a b))/\w=w':=by
 by_cases h1:a<=n
 ·by_cases h2:n<=b
  ·have hf:=hid (show inR n a b=true by simp[inR,h1,h2])
   go_enter BB,B1
   go_wp2
   go_ret
   exact⟨Qds hf.out.symm,rfl⟩
  ·have hf:=hid (show inR n a b=false by simp[inR,h2])
   have h3:b<n:=by omega
   clear h2
   go_enter BB,B1
   go_wp2
   go_ret
   exact⟨Qds (by rw[hf.out,decide_eq_false (by omega)]),rfl⟩
 ·have hf:=hid (show inR n a b=false by simp[inR,h1])
  have h3:n<a:=by omega
  clear h1
  go_enter BB,B1
  go_wp2
  go_ret
  exact⟨Qds hf.out.symm,rfl⟩
end Pm
end
section
open Go.RowKit
namespace Pm
open Pl (dec dch)
theorem spSumOf(s:Str)(w:A5)(hs:s.length<=big):
 Calls AI 232 #[.string ⟨s.toArray⟩] w fun e w'=>e= .returned (.int .i64 ((Pl.sumOf s:Nat):Int))/\w=w':=by
 unfold big at hs
 go_enter Tryz.func232,Tryz.ntmps232
 go_wp2
 go_loop [3,4,5] (fun av bv iv=> ∃k a b:Nat,k<=s.length/\iv= .int .i64 k/\av= .int .i64 a/\bv= .int .i64 b/\Hid ((a,b)=Pl.sum2 (s.take k))/\a<9973/\b<9973) (fun _ _ iv=>s.length -(intOf iv).toNat)
 case atStart=>exact⟨0,1,0,by omega,rfl,rfl,rfl,hid rfl,by omega,by omega⟩
 case round=>
  obtain⟨k,a,b,hk,rfl,rfl,rfl,Hp,ha,hb⟩:=hrel
  by_cases hlt:k<s.length
  ·have hstep:Hid (Pl.sum2 (s.take (k+1))=Pl.sumStep (a,b) s[k]):=hid (by rw[List.take_succ_eq_append_getElem hlt,Pl.QkQ,<-Hp.out])
   have hltI:(k:Int)<s.length:=by omega
   obtain⟨c,hc,hc256,hck⟩:=QrF s k hlt;rw[<-hc] at hstep;have Hc:=hid hc;clear hc
   go_wp2
   go_round
   case rel=>
    refine⟨k+1,(a+c.toNat+1)%9973,(b+(a+c.toNat+1)%9973)%9973,by omega,by go_num,?_,?_,hid (by rw[hstep.out];rfl),Am _ (by omega),Am _ (by omega)⟩
    ·go_num
    ·go_num
   case measure=>simp[intOf];omega
  ·have hk':k=s.length:=by omega
   subst hk';rw[List.take_length] at Hp;have hf:Hid (Pl.sumOf s=a*9973+b):=hid (by unfold Pl.sumOf;rw[<-Hp.out])
   go_wp2
   go_ret
   exact⟨QpR (by rw[hf.out];omega),rfl⟩
end Pm
end
section
open Go.RowKit
namespace Aw
variable{E:TyF}{T:A8}{k sz:Nat}{w:A5}{σ:Sg}{B:Bs}{c:Bool}{x:AF}
variable{P:AA}
section
variable{dst:Option Tmp}{ty:A8}{pos:String}{after:Array BK}{gd:Option (Nat×Bool)}{env:List (Nat×AV)}{H:List Blk}
theorem Qn1(z:Array A4)(n sz i j:Nat)(hz:z.size=sz)(hi:i<n)(hj:j<sz):(madeCells z (n*sz))[i*sz+j]? =z[j]? :=by
 have hlt:i*sz+j<n*sz:=by
  have h2:(i+1)*sz<=n*sz:=Av sz (by omega)
  grind
 grind [An,BG,BE,madeCells]
theorem QhO{e:A8}{F:TyF}{u v:AF}{k1 k2:IntKind}{n:Nat}(hT:tyf P T=some F)(he:F.elem=some e)(hE:tyf P e=some E)(hu:aval env u= .d (.v (.int k1 (n:Int))))(hv:aval env v= .d (.v (.int k2 (n:Int))))
 (hz:E.zero.length=E.size) (hb:E.bytes*n<=281474976710656) (hm:n<=140737488355328):
 Loc P ⟨dst,.makeSlice T u v,ty,pos,after,gd⟩ env H (.osl H.length 0 0 n) (some (.arr 0 E.size e (AJ n (E.zero.map D.v)))):=
 Qq6 (by simp) (fun r hr=>by grind) fun σ S H' a w hop=>by
  have h1:=AV.conc_rel (hop u (by simp[A3])) (y:= .int k1 (n:Int)) (by rw[hu];rfl);have h2:=AV.conc_rel (hop v (by simp[A3])) (y:= .int k2 (n:Int)) (by rw[hv];rfl);obtain⟨d,i,z,_,hi,hzz,hs,hby,hzl,_⟩:=QdL hE;have hzs:z.cells.size=E.size:=by grind
  have hr:=run_make (P:=P) w T e i z (Qdy hT he) hi hzz k1 k2 n n (by omega) (Bb _) (by grind) (by omega);simp only[B4] at hr;refine⟨madeCells z.cells (n*i.size),?_,by rw[size_madeCells,hs],by unfold maxLen;omega,fun a b r d ha hb=>?_⟩
  ·simp only[execOp,h1,h2,A7,hr];rfl
  ·have hal:a<n:=by grind
   rw[List.getElem?_replicate,if_pos hal] at ha;obtain rfl:=A0 ha;rw[A6] at hb;cases hzb:E.zero[b]? with
   |none=>grind
   |some c=>
    rw[hzb] at hb;obtain rfl:=A0 hb;have hbl:b<E.size:=by grind
    refine⟨c,?_,.v _⟩
    grind [Qn1]
def chunk(sz:Nat):Nat->List AV->Option (List (List D))
 |0,[]=>some []
 |0,_::_=>none
 |n+1,l=>match allD (l.take sz),chunk sz n (l.drop sz) with
  |some r,some rs=>if r.length=sz then some (r::rs) else none
  |_,_=>none
theorem QgX{sz:Nat}: ∀{n:Nat} {l:List AV} {rows:List (List D)},chunk sz n l=some rows->rows.length=n/\(∀r∈rows,r.length=sz)/\ ∀(i j:Nat) r d,rows[i]? =some r->r[j]? =some d->l[i*sz+j]? =some (.d d)
 |0,[],rows,h=>by grind [chunk]
 |0,_::_,rows,h=>by simp[chunk] at h
 |n+1,l,rows,h=>by
  simp only[chunk] at h;cases h1:allD (l.take sz) with
  |none=>grind
  |some r=>
   cases h2:chunk sz n (l.drop sz) with
   |none=>grind
   |some rs=>
    rw[h1,h2] at h;simp only at h;split at h;rotate_left
    ·cases h
    rename_i hrs;obtain rfl:=A0 h;obtain⟨h3,h4,h5⟩:=QgX h2;refine⟨by simp[h3],fun r' hr'=>?_,fun i j r' d hi hj=>?_⟩
    ·grind
    ·cases i with
     |zero=>
      simp at hi;subst hi;have he:=Qf6 h1;have hjl:j<sz:=by grind
      have:(l.take sz)[j]? =some (.d d):=by grind
      grind
     |succ i=>
      grind
theorem Qgk{e:A8}{F:TyF}{n:Nat}{parts:Array (Nat×AF)}{res:List AV}(hT:tyf P T=some F)(he:F.elem=some e)(hE:tyf P e=some E)
 (hz:E.zero.length=E.size) (hr:fillA (fun i=>some (i*E.size,E.size)) env (AJ n (E.zero.map fun v=>AV.d (.v v))).flatten parts.toList=some res)
 (hm:n*E.size<=16777216) (hn:n<=16777216) (σ:Sg) (S:Nat->Prop) (H':List Blk) (a:BS) (w:A5) (hop: ∀u∈(⟨dst,.buildSlice T n parts,ty,pos,after,gd⟩:AD).op.operands,Rel σ S H' w (aval env u) (a.eval u)):
 ∃cs,(execOp a.eval ⟨dst,.buildSlice T n parts,ty,pos,after,gd⟩).run P w= .ok (.value (.slice (some ⟨w.heap.size,0,none⟩) n n)) (w.alloc (.cells cs e))/\cs.size=n*E.size/\n<=maxLen/\
  ∀(j:Nat) x,res[j]? =some x-> ∃v,cs[j]? =some v/\Rel σ S H' w x v:=by
 obtain⟨d,i,z,hd,hi,hzz,hs,hby,hzl,_⟩:=QdL hE;have hzs:z.cells.size=E.size:=by grind
 have hflen: ∀m,(AJ m (E.zero.map fun v=>AV.d (.v v))).flatten.length=m*E.size:=fun m=>by
  simp_all
 have hfget: ∀(m j:Nat) x,(AJ m (E.zero.map fun v=>AV.d (.v v))).flatten[j]? =some x-> ∃v,(madeCells z.cells (m*E.size))[j]? =some v/\x= .d (.v v):=by
  intro m j x hx;have hjl:j<m*E.size:=by grind
  have hpos:0<E.size:=by
   grind
  have hq:j=(j/E.size)*E.size+j%E.size:=by rw[An];exact(BH j E.size).symm
  have hmod:=Am j hpos;have hdiv:j/E.size<m:=AY (by grind)
  have key: ∀(m q:Nat),q<m-> ∀t,t<E.size->(AJ m (E.zero.map fun v=>AV.d (.v v))).flatten[q*E.size+t]? =(E.zero.map fun v=>AV.d (.v v))[t]? :=by
   intro m;induction m with
   |zero=>omega
   |succ m ih=>
    intro q hq t ht;rw[List.replicate_succ,List.flatten_cons];cases q with
    |zero=>grind
    |succ q=>
     rw[A9 (by grind)];have:(q+1)*E.size+t -(E.zero.map fun v=>AV.d (D.v v)).length=q*E.size+t:=by grind
     grind
  rw[hq,key m _ hdiv _ hmod,A6] at hx;cases hzb:E.zero[j%E.size]? with
  |none=>grind
  |some c=>
   rw[hzb] at hx;obtain rfl:=A0 hx;refine⟨c,?_,rfl⟩;rw[hq,Qn1 z.cells m E.size _ _ hzs hdiv hmod]
   grind
 obtain⟨cs',h1,h2,h3⟩:=QnJ (env:=env) (σ:=σ) (S:=S) (H':=H') (a:=a) (w:=w) (pl:=fun i=>some (i*E.size,E.size)) parts.toList _ (madeCells z.cells (n*E.size)) res
  (fun p hp=>hop p.2 (by simp only[A3];grind)) hr (by rw[hflen,size_madeCells]) (fun j x hx=>by
    obtain⟨v,hv,rfl⟩:=hfget n j x hx
    exact⟨v,hv,.d _ _ (.v _)⟩)
 have hlen:res.length=n*E.size:=by
  have: ∀(ps:List (Nat×AF)) (cells r:List AV),fillA (fun i=>some (i*E.size,E.size)) env cells ps=some r->r.length=cells.length:=by
   intro ps;induction ps with
   |nil=>intro cells r h;simp[fillA] at h;rw[h]
   |cons p ps ih=>
    intro cells r h;simp only[fillA] at h;cases hcl:(aval env p.2).cells with
    |none=>grind
    |some l=>
     rw[hcl] at h;simp only at h;cases hb:(B5 l.length E.size&&Al (p.1*E.size+l.length) cells.length) with
     |false=>grind
     |true=>
      rw[hb] at h;rw[ih _ _ h,QkY]
  grind
 refine⟨cs',?_,by omega,by unfold maxLen;omega,h3⟩
 ·have hi':i.size=E.size:=hs
  simp only[execOp,Instr.buildSlice,A7,run_underlying (Qdy hT he),AH,QdM hE];rw[if_neg (by omega)]
  by_cases h0:n*E.size=0
  ·rw[if_pos h0]
   simp only[A7,Ac,AH];have hm0:madeCells z.cells (n*E.size)=((Be (n*E.size)).map fun x=>(#[]:Array A4)[x%(#[]:Array A4).size]!):=by rw[h0];simp[madeCells,Array.range_zero']
   rw[<-hm0];have h1':B3 (fun i=>some (i*E.size,E.size)) (madeCells z.cells (n*E.size)) (parts.map fun x=>(x.1,a.eval x.2)).toList=some cs':=by simp_all
   rw[h1'];simp[newRow]
  ·rw[if_neg h0]
   have hzr:(zeroValue e).run P w= .ok z w:=by simp[zeroValue,typeInfo,hi,hzz]
   simp only[A7,hzr,Ac,AH];have h1':B3 (fun i=>some (i*E.size,E.size)) ((Be (n*E.size)).map fun x=>z.cells[x%z.cells.size]!) (parts.map fun x=>(x.1,a.eval x.2)).toList=some cs':=by rw[<-h1];simp[madeCells]
   rw[h1'];simp[newRow]
theorem Qgl{e:A8}{F:TyF}{n:Nat}{parts:Array (Nat×AF)}{res:List AV}{rows:List (List D)}(hT:tyf P T=some F)(he:F.elem=some e)(hE:tyf P e=some E)
 (hz:E.zero.length=E.size) (hr:fillA (fun i=>some (i*E.size,E.size)) env (AJ n (E.zero.map fun v=>AV.d (.v v))).flatten parts.toList=some res) (hc:chunk E.size n res=some rows)
 (hm:n*E.size<=16777216) (hn:n<=16777216) (σ:Sg) (S:Nat->Prop) (H':List Blk) (a:BS) (w:A5) (hop: ∀u∈(⟨dst,.buildSlice T n parts,ty,pos,after,gd⟩:AD).op.operands,Rel σ S H' w (aval env u) (a.eval u)):
 ∃cs,(execOp a.eval ⟨dst,.buildSlice T n parts,ty,pos,after,gd⟩).run P w= .ok (.value (.slice (some ⟨w.heap.size,0,none⟩) n n)) (w.alloc (.cells cs e))/\cs.size=n*E.size/\n<=maxLen/\
  ∀(i j:Nat) r d,rows[i]? =some r->r[j]? =some d-> ∃v,cs[i*E.size+j]? =some v/\RelD S w d v:=by
 obtain⟨hrl,hrs,hrg⟩:=QgX hc;obtain⟨cs,h1,h2,h3,h4⟩:=Qgk (dst:=dst) (ty:=ty) (pos:=pos) (after:=after) (gd:=gd) hT he hE hz hr hm hn σ S H' a w hop;refine⟨cs,h1,h2,h3,fun q j r d hq hj=>?_⟩;obtain⟨v,hv,hrel⟩:=h4 _ _ (hrg q j r d hq hj);cases hrel with
 |d _ _ h=>grind
theorem Qje{e:A8}{F:TyF}{n:Nat}{parts:Array (Nat×AF)}{res:List AV}{rows:List (List D)}(hT:tyf P T=some F)(he:F.elem=some e)(hE:tyf P e=some E)
 (hz:E.zero.length=E.size) (hr:fillA (fun i=>some (i*E.size,E.size)) env (AJ n (E.zero.map fun v=>AV.d (.v v))).flatten parts.toList=some res) (hc:chunk E.size n res=some rows)
 (hm:n*E.size<=16777216) (hn:n<=16777216):Loc P ⟨dst,.buildSlice T n parts,ty,pos,after,gd⟩ env H (.osl H.length 0 0 n) (some (.arr 0 E.size e rows)):=by
 obtain⟨hrl,hrs,hrg⟩:=QgX hc;exact Qq6 hrl hrs (Qgl hT he hE hz hr hc hm hn)
end
def Qih(w:A5)(t ty e:A8)(i:TypeInfo)(ht:P.underlying t=some (.slice e))(hi:P.info? e=some i)(b:Option BZ)(n cap:Nat)(hn:n<=cap)(ax:Option BZ)(c:Nat):
 (Ap #[t,t] ty #[.slice b n cap,.slice ax 0 c]).run P w= .ok (.slice b n cap) w:=by
 cases ax<;>cases b<;>simp[Ap,run_underlying ht,sizeOf,typeInfo,hi,Builtin.lenOf,Builtin.firstCells,loadCells,loadCellsFrom,storeCells,hn]
theorem Sm.bump{S:Nat->Prop}{H:List Blk}{g:Nat}{rows:List (List D)}(h:Sm B σ S H w)(hC:H[k]? =some (.arr g sz T rows)):
 Sm B σ S (H.set k (.arr (g+1) sz T rows)) w/\Ev σ S H w σ S (H.set k (.arr (g+1) sz T rows)) w:=by
 have hkl:k<H.length:=(A2.1 hC).1
 have e:Ev σ S H w σ S (H.set k (.arr (g+1) sz T rows)) w:=by
  refine⟨fun _ h=>h,fun _ _=>rfl,fun j g' cells hD=>?_,fun j g' sz' T' rows' hD=>?_,fun j g' l hD=>?_⟩
  ·grind
  ·grind
  grind
 refine⟨⟨h.os,h.tape,h.output,h.size,h.keep,h.sLo,h.sUp,fun k' b hk=>h.σUp k' b (by grind),fun k1 k2 b h1 h2=>h.inj k1 k2 b (by grind) (by grind),fun j D hD=>?_⟩,e⟩
 by_cases hj:j=k
 ·subst hj
  rw[AG hkl] at hD;obtain rfl:=A0 hD;exact h.blk j _ hC
 ·rw[List.getElem?_set_ne (fun e=>hj e.symm)] at hD
  exact(h.blk j D hD).mono e rfl fun b _=>rfl
theorem RelD.sl_cells{S:Nat->Prop}{n:Nat}{rows:List (List D)}{v:A4}(h:RelD S w (.sl c n rows) v)(hcell: ∀r∈rows,∀d∈r,d.cell=true):
 ∃ax cap,v= .slice ax rows.length cap/\(0<rows.length-> ∃a news,ax=some a/\Flat n rows (RelD S w) news/\(∀(j:Nat) u,news[j]? =some u->w.cell? (a.add j)=some u)/\ ∀u∈news,u.oneCell'=true):=by
 cases h with
 |slnil c n a cap=>simp
 |sl c n l b o cap g hS hn hcap hc hr=>
  refine⟨some ⟨b,o,none⟩,cap,rfl,fun hpos=>⟨⟨b,o,none⟩,(AB (rows.length*n)).map fun t=>g (t/n) (t%n),rfl,⟨by simp,hn,fun i j r d hi hj=>?_⟩,fun j u hu=>?_,fun u hu=>?_⟩⟩
  ·have hil:i<rows.length:=(A2.1 hi).1
   have hjl:j<n:=by grind
   have hlt:i*n+j<rows.length*n:=by
    have h2:(i+1)*n<=rows.length*n:=Av n (by omega)
    grind
   refine⟨g i j,?_,hr i j r d hi hj⟩;rw[A6,Az hlt];have h1:(i*n+j)/n=i:=by rw[An,Nat.mul_add_div (by omega),Nat.div_eq_of_lt hjl];omega
   have h2:(i*n+j)%n=j:=by rw[An,BG,BE hjl]
   grind
  ·have key: ∀t,t<rows.length*n-> ∃r d,rows[t/n]? =some r/\r[t%n]? =some d:=fun t ht=>by
    have hpos:0<n:=by
     grind
    have hi:t/n<rows.length:=AY (by grind);have hj:t%n<(rows[t/n]).length:=by rw[hn _ (AP hi)];exact Am _ hpos
    simp_all
   rw[A6] at hu
   have hjl:j<rows.length*n:=by
    grind
   rw[Az hjl] at hu;simp only[AT,AE] at hu;subst hu;obtain⟨r,d,h1,h2⟩:=key j hjl;have:=hc _ _ r d h1 h2;rw[QdQ,<-this]
   congr 2
   have:=BH j n
   grind
  ·obtain⟨t,ht,rfl⟩:=List.mem_map.1 hu
   have htl:=As.1 ht
   have hpos':0<n:=by
    grind
   have hi:t/n<rows.length:=AY (by grind);have hj:t%n<(rows[t/n]).length:=by rw[hn _ (AP hi)];exact Am _ hpos'
   exact D.cell_one (hr _ _ _ _ (A1 hi) (A1 hj)) (hcell _ (AP hi) _ (AP hj))
theorem OSl.cells{S:Nat->Prop}{H:List Blk}{g off len:Nat}{rows:List (List D)}{v:A4}(hS:Sm B σ S H w)(hk:H[k]? =some (.arr g sz T rows))(h:OSl σ w k sz rows.length off len v)
 (hcell: ∀r∈rows,∀d∈r,d.cell=true):
 ∃ax cap,v= .slice ax len cap/\(0<len-> ∃a news,ax=some a/\Flat sz ((rows.drop off).take len) (RelD S w) news/\(∀(j:Nat) u,news[j]? =some u->w.cell? (a.add j)=some u)/\ ∀u∈news,u.oneCell'=true):=by
 obtain⟨hb,hv⟩:=h;obtain⟨hlen,hbk⟩:=hS.blk k _ hk;rcases hv with⟨b,cap,cs,T',hσ,hl,hcm,rfl,hc,hs⟩|⟨hσ,rfl,rfl⟩;rotate_left
 ·grind
 rcases hbk with⟨b',cs',hσ',hc',hrel⟩|⟨hσ',_⟩;rotate_left
 ·grind
 rw[hσ] at hσ';obtain rfl:=A0 hσ';have hln:((rows.drop off).take len).length=len:=by grind
 have hmem: ∀(i:Nat) r,((rows.drop off).take len)[i]? =some r->rows[off+i]? =some r:=fun i r hi=>by
  grind
 have key: ∀(i j:Nat) r d,((rows.drop off).take len)[i]? =some r->r[j]? =some d-> ∃u,cs'[off*sz+i*sz+j]? =some u/\RelD S w d u:=by
  grind
 have hfin:RelD (fun x=>S x∨x=b) w (.sl false sz ((rows.drop off).take len)) (.slice (some ⟨b,off*sz,none⟩) ((rows.drop off).take len).length cap):=by
  refine .sl false sz _ b (off*sz) cap (fun i j=>(cs'[off*sz+i*sz+j]?).getD undef) (.inr rfl) (fun r hr'=>?_) (fun h=>by cases h) (fun i j r d hi hj=>?_) fun i j r d hi hj=>?_
  ·grind
  ·obtain⟨u,hu,_⟩:=key i j r d hi hj
   rw[cell_of_row w b _ cs' T (0,0) hc',hu];rfl
  ·obtain⟨u,hu,hr'⟩:=key i j r d hi hj
   rw[hu];exact hr'.mono (fun _ h=> .inl h) fun _ _=>rfl
 rw[hln] at hfin;obtain⟨ax,cap',h1,h2⟩:=hfin.sl_cells (fun r hr d hd=>hcell r (List.mem_of_mem_drop (List.mem_of_mem_take hr)) d hd);rw[hln] at h1 h2;refine⟨ax,cap',h1,fun hpos=>?_⟩;obtain⟨a,news,h3,h4,h5,h6⟩:=h2 hpos;injection h1 with e1 e2 e3;subst h3;have e1':=A0 e1;subst e1';refine⟨_,news,rfl,⟨h4.1,h4.2.1,fun i j r d hi hj=>?_⟩,h5,h6⟩;obtain⟨u,hu,_⟩:=h4.2.2 i j r d hi hj;refine⟨u,hu,?_⟩;obtain⟨u',hu',hr'⟩:=key i j r d hi hj;have h7:=h5 _ u hu;rw[QdQ,cell_of_row w b _ cs' T (0,0) hc'] at h7
 grind
theorem QiI{e:A8}{F:TyF}{s:AF}{g len:Nat}{rows newrows:List (List D)}{dst:Option Tmp}{ty:A8}{pos:String}{after:Array BK}{gd:Option (Nat×Bool)}{env:List (Nat×AV)}{H:List Blk}
 (hT:tyf P T=some F) (he:F.elem=some e) (hE:tyf P e=some E) (hz:E.zero.length=E.size) (hpos:0<E.size)
 (hs:aval env s= .osl k g 0 len) (hk:H[k]? =some (.arr g E.size e rows)) (hlen:len=rows.length)
 (hx: ∀B σ S w v,Sm B σ S H w->Rel σ S H w (aval env x) v-> ∃ax cap,v= .slice ax newrows.length cap/\(0<newrows.length-> ∃a news,ax=some a/\Flat E.size newrows (RelD S w) news/\(∀(j:Nat) u,news[j]? =some u->w.cell? (a.add j)=some u)/\ ∀u∈news,u.oneCell'=true))
 (hb:(rows.length+newrows.length)*E.bytes<=140737488355328) (hm:rows.length+newrows.length<=140737488355328):
 Eff P ⟨dst,.call ⟨.builtin .append, #[s,x], #[T,T]⟩,ty,pos,after,gd⟩ env H (.osl k (g+1) 0 (rows.length+newrows.length)) (H.set k (.arr (g+1) E.size e (rows++newrows))):=by
 intro B σ S a w hB hS hop K Q kk;have hkl:k<H.length:=(A2.1 hk).1;have h1:=hop s (by simp[A3,AS]);have h2:=hop x (by simp[A3,AS]);rw[hs] at h1;subst hlen;generalize hv:a.eval s=v at h1;obtain⟨ax,c,hxv,hnews⟩:=hx B σ S w _ hS h2;obtain⟨d,i,z,hd,hi,hzz,hsz,hby,hzl,_⟩:=QdL hE;have hzs:z.cells.size=E.size:=by grind
 have hu:=Qdy hT he
 have hexec: ∀v' w',(Ap #[T,T] ty #[v,.slice ax newrows.length c]).run P w= .ok v' w'->(execOp a.eval ⟨dst,.call ⟨.builtin .append, #[s,x], #[T,T]⟩,ty,pos,after,gd⟩).run P w= .ok (.value v') w':=fun v' w' hr=>by
  simp only[execOp,resolve,invoke,builtin,A7,Ac,AH,List.map_toArray,BQ,List.map_nil,hv,hxv,hr]
 cases h1 with
 |osl _ _ _ _ _ _ g' sz' T' rows' hk' hg hh=>
  rw[hk] at hk';obtain⟨rfl,rfl,rfl,rfl⟩:g=g'/\E.size=sz'/\e=T'/\rows=rows':=by grind
  have hos:=hh rfl;rcases Nat.eq_zero_or_pos newrows.length with h0|hnpos
  ·have hnil:newrows=[]:=AX h0
   subst hnil;obtain⟨h3,h4⟩:=hS.bump hk
   have hr: ∃b cap,v= .slice b rows.length cap/\rows.length<=cap:=by
    rcases hos.2 with⟨b,cap,cs,T',hσ,hl,hcm,rfl,hc,hs⟩|⟨hσ,hl,rfl⟩
    ·grind
    grind
   obtain⟨b,cap,hvv,hcap⟩:=hr;have hrun:=Qih (P:=P) w T ty e i hu hi b rows.length cap hcap ax c;rw[<-hvv] at hrun;refine Qgg (hexec _ _ hrun) (kk _ w σ S (by grind) ?_ (by grind));simp only[List.length_nil,BU,List.append_nil];refine .osl k (g+1) 0 rows.length _ (by omega) (g+1) E.size e rows (AG hkl) (AU _) fun _=>hos
  ·obtain⟨aa,news,rfl,hfl,hcells,hone⟩:=hnews hnpos
   obtain⟨v',w',σ',hr,h3,h4,h5⟩:=hS.append (P:=P) (ty:=ty) (c:=c) hk hos hpos hu hi hzz hsz hzs hcells hone hfl (by grind) hm;refine Qgg (hexec _ _ hr) (kk _ w' σ' S h3 ?_ h4);refine .osl k (g+1) 0 _ _ ?_ (g+1) E.size e (rows++newrows) (AG hkl) (AU _) fun _=>by grind
   rcases h5.2 with⟨b,cap,cs,T',_,_,_,rfl,_⟩|⟨_,_,rfl⟩<;>rfl
def QpJ{env:List (Nat×AV)}{H:List Blk}{n:Nat}{rows:List (List D)}(hx:aval env x= .d (.sl c n rows))(hcell: ∀r∈rows,∀d∈r,d.cell=true):
 ∀B σ S w v,Sm B σ S H w->Rel σ S H w (aval env x) v-> ∃ax cap,v= .slice ax rows.length cap/\(0<rows.length-> ∃a news,ax=some a/\Flat n rows (RelD S w) news/\(∀(j:Nat) u,news[j]? =some u->w.cell? (a.add j)=some u)/\ ∀u∈news,u.oneCell'=true):=
 fun B σ S w v _ h=>by
  rw[hx] at h;cases h with
  |d _ _ h=>exact h.sl_cells hcell
theorem QpK{env:List (Nat×AV)}{H:List Blk}{g len:Nat}{rows:List (List D)}(hx:aval env x= .osl k g 0 len)(hk:H[k]? =some (.arr g sz T rows))(hlen:len=rows.length)(hcell: ∀r∈rows,∀d∈r,d.cell=true):
 ∀B σ S w v,Sm B σ S H w->Rel σ S H w (aval env x) v-> ∃ax cap,v= .slice ax rows.length cap/\(0<rows.length-> ∃a news,ax=some a/\Flat sz rows (RelD S w) news/\(∀(j:Nat) u,news[j]? =some u->w.cell? (a.add j)=some u)/\ ∀u∈news,u.oneCell'=true):=
 fun B σ S w v hS h=>by
  subst hlen;rw[hx] at h;cases h with
  |osl _ _ _ _ _ _ g' sz' T' rows' hk' hg hh=>
   rw[hk] at hk';obtain⟨rfl,rfl,rfl,rfl⟩:g=g'/\sz=sz'/\T=T'/\rows=rows':=by grind
   have:=OSl.cells hS hk (hh rfl) hcell
   grind
theorem QeR(t sz:Nat)(T:A8){c:Code}{Q:Ax->St->Prop}{n:Nat}{env:List (Nat×AV)}{H:List Blk}{P:AA}(ht:look env t= .d (.v (.slice none 0 0)):=by rfl)
 (h:AWP P c Q ⟨n,(t,.osl H.length 0 0 0)::env,H++[.arr 0 sz T []]⟩):AWP P c Q ⟨n,env,H⟩:=by
 refine Qgf ?_ h;intro B σ S a w hA;obtain⟨h1,h2,h3⟩:=hA.sm.virt sz T;refine⟨_,S,h1,hA.defers,hA.size,fun u=>?_⟩
 by_cases hu:t=u
 ·subst hu
  show Rel _ _ _ _ (look ((t,_)::env) t) _;rw[Qdl];have:=AV.conc_rel (hA.env t) (y:= .slice none 0 0) (by show(look env t).conc=_;rw[ht];rfl)
  grind
 ·show Rel _ _ _ _ (look ((t,_)::env) u) _
  rw[Qdr hu];exact(hA.env u).mono h2
