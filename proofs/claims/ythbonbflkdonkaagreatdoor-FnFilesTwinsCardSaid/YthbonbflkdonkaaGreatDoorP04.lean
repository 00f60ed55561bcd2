/- Of ftw_card; no condition. -/
import Derived.Test.YthbonbflkdonkaaGreatDoorP01
import Derived.Laws.OwnMore
import Derived.Deep.Draws
import Derived.Laws.Rows
import Derived.Laws.Concat
import Derived.IntWalk
import Derived.Test.YthbonbflkdonkaaGreatDoorProg
import Derived.Lib.LaidTab
import Derived.Lib.ItoaNum
import Derived.ArgAppend
import Derived.WalkSpells
import Derived.WalkLawsBesides
import Derived.Shelf.Strings.Builder1
import Derived.Shelf.Strings.Builder2
import Derived.Shelf.Strings.OnBuilder
import Derived.Shelf.Small.Bits
import Derived.Shelf.Small.Strs
import Derived.Shelf.Small.Wraps
import Derived.Shelf.Strings.BuilderF
import Derived.Shelf.Strings.BuilderK
import Derived.Shelf.Strconv.Atoi
import Derived.Shelf.Strconv.Itoa0
import Derived.Shelf.Strconv.Itoa1
import Derived.Shelf.LaysM
import Derived.Shelf.Strconv.Itoa2
import Derived.Shelf.Strconv.Itoa3
import Derived.Shelf.Strconv.AtoiErrFast
import Derived.Shelf.Strconv.ParseIntEmpty
import Derived.Shelf.Strconv.AtoiFail
import Derived.Shelf.Strconv.Clone
import Derived.Shelf.Strconv.SyntaxError
import Derived.Shelf.LaysC
import Derived.Shelf.Strconv.ToError
import Derived.Shelf.Strconv.Lower
import Derived.Shelf.Strconv.ParseUint10
import Derived.Shelf.Strconv.ParseUint10Empty
import Derived.Shelf.Strconv.ParseUint10Any
import Derived.Shelf.Strconv.ParseInt10
import Derived.Shelf.Strconv.AtoiLong
import Derived.Shelf.Strconv.AtoiInnerAll
import Derived.Shelf.Strconv.RangeError
import Derived.Shelf.Strconv.ToErrorRange
import Derived.Shelf.Strconv.AtoiAll
import Derived.Shelf.Strings.Search1
import Derived.Shelf.Strings.Search2
import Derived.Shelf.Strings.Search3
import Derived.Shelf.Strings.Cut
import Derived.Shelf.Strings.Count
import Derived.Shelf.Strings.Shaped
import Derived.Shelf.GgClosure.StringsIndexFunc
import Derived.Ground.GgwProg
import Derived.Shelf.GgClosure.StringsIndexFuncTop
import Derived.Shelf.GgClosure.StringsRunes
import Derived.Shelf.Strings.Prefix
import Derived.Shelf.Strings.Split
import Derived.Shelf.Bits.Mul64
import Derived.Shelf.Strings.Repeat
import Derived.Shelf.Unicode.DecodeSlow
import Derived.Shelf.Unicode.DecodeAny
import Derived.Ground.Names2Prog
import Derived.Shelf.Slices.SearchI
import Derived.Ground.SlgnProg
import Derived.Shelf.SlicesE.Clone
import Derived.Shelf.SlSortCmp.WholeK
import Derived.Deep.LoopGhost
set_option linter.all false
open Array renaming getD_eq_getD_getElem?->A8,replicate->AT,getElem?_replicate->Ab,size_setIfInBounds->Ad
open ByteArray renaming ext->Bh
open Go renaming Value->A4,World->A5,Program->A7,Oper->AB,TypeId->AD,Operand->AG,ResultVar->AW,Exit->Ao,Edge->CB,Act->CG,Addr->CU
open Go.Act renaming put->BF
open Go.Addr renaming add->CH
open Go.Builtin renaming len_->BE
open Go.Call renaming operands->Ac
open Go.Ending renaming returned->Ag
open Go.Instr renaming sureAddr->AK,loadAt->BD,fieldAt->Bu,indexAt->Bv,extract->Bw,storeAt->Bx,fill->CT
open Go.Lib renaming TabIs->Ae
open Go.Op renaming operands->A2
open Go.Oper renaming wp->CD
open Go.Program renaming globalNamed->Am
open Go.Proofs.Lays renaming n106->CP,n100->CQ,n105->CR
open Go.Proofs.LaysGw renaming n15->CI
open Go.Proofs.SlLaysF0 renaming n6->Ah
open Go.Proofs.Tryz renaming prog->AF,underlying185->Ap,underlying272->Aq,underlying273->Ar,underlying245->As,underlying248->Au,underlying293->Av,underlying235->Ax,underlying311->Ay,underlying208->Az,zeroValue185->B1,zeroValue272->B2,zeroValue273->B3,underlying39->B4,zeroValue245->B5,zeroValue248->B6,zeroValue293->B7,zeroValue235->B8,zeroValue311->B9,zeroValue208->BA,underlying0->BH,underlying3->BI,underlying4->BJ,underlying5->BK,underlying9->BL,zeroValue39->BM,zeroValue0->BP,zeroValue3->BQ,zeroValue4->BR,zeroValue5->BS,zeroValue9->BT,sizeOf185->BX,sizeOf272->BY,sizeOf273->BZ,sizeOf245->Ba,sizeOf248->Bb,sizeOf293->Bc,sizeOf235->Bd,sizeOf311->Be,sizeOf208->Bf,isAgg185->Bj,isAgg272->Bk,isAgg273->Bl,sizeOf39->Bm,isAgg245->Bn,isAgg248->Bo,isAgg293->Bp,isAgg235->Bq,isAgg311->Br,isAgg208->Bt,func230->C0,func260->C1,func261->C2,func284->C3,func285->C4,sizeOf0->C5,sizeOf3->C6,sizeOf4->C7,sizeOf5->C8,sizeOf9->C9,isAgg39->CA,isAgg0->CJ,isAgg3->CK,isAgg4->CL,isAgg5->CM,isAgg9->CN
open Go.Region renaming binds->AL,ready->AU,wanted->An
open Go.Result renaming andThen_ok->AR
open Go.RowKit renaming Below->AH
open Go.RowKit.Below renaming refl->CS
open Go.Sem renaming run_bind->AE,run_pure->CE
open Go.Shelf renaming Ren->AP
open Go.Value renaming cells->Aa,ownBlock->BW
open Go.World renaming cell?->BO,var?->BV
open List renaming getElem?_eq_getElem->A1,getElem?_eq_some_iff->A3,getElem?_map->A6,range->A9,getElem?_append_right->AA,mem_of_getElem?->AI,getD_eq_getElem?_getD->AJ,getElem?_append_left->AM,map_congr_left->AN,getElem?_cons_zero->AO,getElem?_set_self->AQ,mem_cons_self->AX,mem_flatten->Af,mem_cons_of_mem->Aj,range_add->Ak,getElem?_drop->B0,append_assoc->BB,flatMap_cons->BC,all_eq_true->BN,mem_range->Bg,flatten->CC,set_set->CF,length->CO
open Nat renaming le_refl->AY,blt->AZ,le_of_ble_eq_true->Ai,ble->Al,beq->BU,zero_add->By,le_trans->Bz
open Option renaming map_some->AS,bind_some->BG
open Option.some renaming inj->A0,injEq->AC
open Prod.mk renaming injEq->Bi
namespace Go.Proofs.YthbonbflkdonkaaGreatDoor
noncomputable section
open Go.RowKit
namespace Pm
variable{P:A7}{A:Option CU}{B B' o:Nat}{k:IntKind}{xs:List A4}{Q:Ao->CG->A5->Prop}{a:CG}{rest:List AB}{ops:Array AB}
def vstr(s:List UInt8):A4:= .string ⟨s.toArray⟩
theorem Qsp(a b:List UInt8):((⟨a.toArray⟩:ByteArray)++(⟨b.toArray⟩:ByteArray))=⟨(a++b).toArray⟩:=by
 apply Bh;simp
theorem Qh9(s:List UInt8)(a b:Nat):(⟨s.toArray⟩:ByteArray).extract a b=⟨((s.take b).drop a).toArray⟩:=by
 apply Bh;rw[ByteArray.data_extract]
 grind
def Qsl(s:List UInt8)(k:Nat)(h:k<s.length): ∃c:UInt8,c=s[k]/\c.toNat<256/\ ∀h':k<(⟨s.toArray⟩:ByteArray).size,(⟨s.toArray⟩:ByteArray)[k]'h'=c:=
 ⟨s[k],rfl,UInt8.toNat_lt _,fun h'=>by
   show s.toArray[k]'(by omega)=s[k]
   simp⟩
theorem str_add(a b:List UInt8)(h:a.length+b.length<=9223372036854775807)(w:A5):(Op.stringOp .add (⟨a.toArray⟩:ByteArray) (⟨b.toArray⟩:ByteArray)).run P w= .ok (.string ⟨(a++b).toArray⟩) w:=by
 have hs:(⟨a.toArray⟩:ByteArray).size+(⟨b.toArray⟩:ByteArray).size<=9223372036854775807:=by
  show a.toArray.size+b.toArray.size<=_;omega
 grind [run_string_add_sum,Qsp]
theorem Qgz(n:Int)(h0: -9223372036854775808<=n)(h1:n<=9223372036854775807):IntKind.i64.wrap n=n:=by rw[IntKind.wrap_i64];omega
def wrap_u8(n:Int)(h0:0<=n)(h1:n<=255):IntKind.u8.wrap n=n:=by rw[IntKind.wrap_u8];omega
class Rep (α:Type) where
 size:Nat
 cells:A5->Nat->List A4->α->Prop
 len: ∀{w:A5} {B:Nat} {cs:List A4} {a:α},cells w B cs a->cs.length=size
 keep: ∀{w w':A5} {B B':Nat} {cs:List A4} {a:α},cells w B cs a->B<=B'->(∀p:CU,p.block<B->w'.cell? p=w.cell? p)->cells w' B' cs a
def InI(n:Int):Prop:= -9223372036854775808<=n/\n<=9223372036854775807
def big:Nat:=140737488355328
instance:Rep Int where
 size:=1
 cells _ _ cs n:=cs=[.int .i64 n]/\InI n
 len h:=by grind
 keep h _ _:=h
instance:Rep Bool where
 size:=1
 cells _ _ cs b:=cs=[.bool b]
 len h:=by grind
 keep h _ _:=h
instance instStr:Rep (List UInt8) where
 size:=1
 cells _ _ cs s:=cs=[vstr s]/\s.length<=big
 len h:=by grind
 keep h _ _:=h
instance instPair{α β:Type} [Rep α] [Rep β]:Rep (α×β) where
 size:=Rep.size α+Rep.size β
 cells w B cs x:= ∃c d,cs=c++d/\Rep.cells w B c x.1/\Rep.cells w B d x.2
 len h:=by grind [Rep.len]
 keep h hB hk:=by grind [Rep.keep]
def At{α:Type} [Rep α](w:A5)(B:Nat)(A:Option CU)(l:List α):Prop:=
 0<l.length-> ∃b off,A=some ⟨b,off,none⟩/\b<B/\ ∀(i:Nat) (x:α),l[i]? =some x-> ∃cs,Rep.cells w B cs x/\ ∀(j:Nat) (v:A4),cs[j]? =some v->w.cell? ⟨b,off+i*Rep.size α+j,none⟩=some v
theorem At.keep{α:Type} [Rep α]{w w':A5}{l:List α}(h:At w B A l)(hB:B<=B')(hk: ∀p:CU,p.block<B->w'.cell? p=w.cell? p):At w' B' A l:=by
 intro hl;obtain⟨b,off,h1,h2,h3⟩:=h hl;refine⟨b,off,h1,by omega,fun i x hx=>?_⟩;obtain⟨cs,h4,h5⟩:=h3 i x hx;exact⟨cs,Rep.keep h4 hB hk,fun j v hv=>(hk _ h2).trans (h5 j v hv)⟩
theorem At.nil{α:Type} [Rep α]{w:A5}:At w B A ([]:List α):=fun h=>absurd h (by simp)
instance(priority:=low) instList{α:Type} [Rep α]:Rep (List α) where
 size:=1
 cells w B cs l:= ∃A c,cs=[.slice A l.length c]/\l.length<=big/\At w B A l
 len h:=by grind
 keep h hB hk:=by obtain⟨A,c,h1,h2,h3⟩:=h;exact⟨A,c,h1,h2,h3.keep hB hk⟩
def At.below{α:Type} [Rep α]{w w':A5}{l:List α}(h:At w B A l)(hb:AH B w w'):At w' B A l:=h.keep (AY _) fun _ hp=>hb.cell hp
def At.mono{α:Type} [Rep α]{w:A5}{l:List α}(h:At w B A l)(hB:B<=B'):At w B' A l:=h.keep hB fun _ _=>rfl
theorem At.elem{α:Type} [Rep α]{w:A5}{l:List α}(h:At w B A l){k:Nat}(hk:k<l.length):
 ∃b off cs,A=some ⟨b,off,none⟩/\b<B/\Rep.cells w B cs l[k]/\ ∀(j:Nat) (v:A4),cs[j]? =some v->w.cell? ⟨b,off+k*Rep.size α+j,none⟩=some v:=by
 obtain⟨b,off,h1,h2,h3⟩:=h (by omega);obtain⟨cs,h4,h5⟩:=h3 k _ (A1 hk);exact⟨b,off,cs,h1,h2,h4,h5⟩
abbrev Str:=List UInt8
abbrev Wait:=Int×Str
abbrev Disk:=List Str×List Wait×Bool
def Qlm{w:A5}{cs:List A4}{s:Str}(h:Rep.cells w B cs s):cs=[vstr s]/\s.length<=big:=h
def bal{w w1:A5}(h:AH w.heap.size w w1)(o:Obj):AH w.heap.size w (w1.alloc o):=h.alloc h.size o
def bnew(w:A5)(o:Obj):AH w.heap.size w (w.alloc o):=bal (CS _ _) o
def btr{w w1 w2:A5}(h:AH w.heap.size w w1)(k:AH w1.heap.size w1 w2):AH w.heap.size w w2:=h.trans (k.mono h.size)
def bset{w w1:A5}(h:AH w.heap.size w w1){b:Nat}(hb:w.heap.size<=b)(i:Nat)(v:A4):AH w.heap.size w (w1.setCell ⟨b,i,none⟩ v):=h.setCell hb v
def bdr{w w1:A5}(h:AH w.heap.size w w1):AH w.heap.size w w1.drew:=h.drew
def hid{p:Prop}(h:p):Hid p:=h
def At.up{α:Type} [Rep α]{w w':A5}{l:List α}(h:At w w.heap.size A l)(hb:AH w.heap.size w w'):At w' w'.heap.size A l:=(h.below hb).mono hb.size
def Qq2{a b:Int}(h:a=b):Ag (.int k a)= .returned (.int k b):=by rw[h]
def Qd1{a b:Bool}(h:a=b):Ag (.bool a)= .returned (.bool b):=by rw[h]
def QkJ{w:A5}{b:Nat}{v:A4}(h:w.cell? ⟨b,o,none⟩=some v):b<w.heap.size:=by
 rcases Nat.lt_or_ge b w.heap.size with hlt|hge
 ·exact hlt
 ·simp[BO,Array.getElem?_eq_none hge] at h
def Qh7{w w':A5}{b:Nat}{v:A4}(h:w.cell? ⟨b,o,none⟩=some v)(hb:AH w.heap.size w w'):w'.cell? ⟨b,o,none⟩=some v:=(hb.cell (p:=⟨b,o,none⟩) (QkJ h)).trans h
theorem Qqr{w w':A5}{name:String}{zs:List Int}(h:Ae P w name k zs)(hb:AH w.heap.size w w'):Ae P w' name k zs:=by
 unfold Ae BV at*;cases hg:P.globalNamed name with
 |none=>grind
 |some g=>
  rw[hg] at h;simp only[BG] at h⊢
  have hlt:g<w.heap.size:=by
   grind
  rw[hb.block g hlt];exact h
structure Lt(w:A5):Prop where
 tab:Ae AF w "internal/strconv.uint64pow10" .u64 Lib.pow10Tab
 maxl: ∃m,w.cell? ⟨0,0,none⟩=some (.int .i64 m)
 syn: ∃te pe,w.cell? ⟨1,0,none⟩=some (.iface te pe)
 ran: ∃te pe,w.cell? ⟨2,0,none⟩=some (.iface te pe)
def Lt.below{w w':A5}(h:Lt w)(hb:AH w.heap.size w w'):Lt w':=
 ⟨Qqr h.tab hb,let⟨m,e⟩:=h.maxl;⟨m,Qh7 e hb⟩,let⟨t,p,e⟩:=h.syn;⟨t,p,Qh7 e hb⟩,let⟨t,p,e⟩:=h.ran;⟨t,p,Qh7 e hb⟩⟩
def Row(w:A5)(b:Nat)(cur:Array A4):Prop:= ∃T,w.heap[b]? =some (.cells cur T (0,0))
section
variable{w w':A5}{b:Nat}{cur:Array A4}
theorem Row.lt(h:Row w b cur):b<w.heap.size:=by
 obtain⟨T,h⟩:=h
 grind
theorem Row.cell(h:Row w b cur)(i:Nat):w.cell? ⟨b,i,none⟩=cur[i]? :=by obtain⟨T,h⟩:=h;simp[BO,h]
theorem Row.free(h:Row w b cur)(i:Nat):w.frozen? ⟨b,i,none⟩=false:=by obtain⟨T,h⟩:=h;simp[World.frozen?,h]
theorem Row.keep(h:Row w b cur)(hk:w'.heap[b]? =w.heap[b]?):Row w' b cur:=by obtain⟨T,h⟩:=h;exact⟨T,hk.trans h⟩
def Row.get(h:Row w b cur)(i:Nat){v:A4}(hv:cur[i]? =some v):w.cell? ⟨b,i,none⟩=some v:=(h.cell i).trans hv
def Row.below(h:Row w b cur)(hb:AH w.heap.size w w'):Row w' b cur:=h.keep (hb.block _ h.lt)
def Row.alloc(h:Row w b cur)(o:Obj):Row (w.alloc o) b cur:=h.below (bnew w o)
def Row.far(h:Row w b cur){b':Nat}(hb:b≠b')(i:Nat)(v:A4):Row (w.setCell ⟨b',i,none⟩ v) b cur:=h.keep (Below.heap_setCell w ⟨b',i,none⟩ v b hb)
theorem Row.set(h:Row w b cur)(i:Nat)(v:A4):Row (w.setCell ⟨b,i,none⟩ v) b (cur.setIfInBounds i v):=by
 obtain⟨T,h⟩:=h;exact⟨T,by grind [World.setCell]⟩
def Row.new(w:A5)(cur:Array A4)(T:AD):Row (w.alloc (.cells cur T)) w.heap.size cur:=⟨T,heap_alloc_new w _⟩
end
class Ow (α:Type) extends Rep α where
 own:A5->List A4->α->List Nat->Prop
 olen: ∀{w:A5} {cs:List A4} {a:α} {fp:List Nat},own w cs a fp->cs.length=size
 frame: ∀{w w':A5} {cs:List A4} {a:α} {fp:List Nat},own w cs a fp->(∀b∈fp,w'.heap[b]? =w.heap[b]?)->own w' cs a fp
 reads: ∀{w:A5} {cs:List A4} {a:α} {fp:List Nat} {B:Nat},own w cs a fp->(∀b∈fp,b<B)->cells w B cs a
 lt: ∀{w:A5} {cs:List A4} {a:α} {fp:List Nat},own w cs a fp-> ∀b∈fp,b<w.heap.size
instance:Ow Int where
 own _ cs n fp:=(cs=[.int .i64 n]/\InI n)/\fp=[]
 olen h:=by rw[h.1.1];rfl
 frame h _:=h
 reads h _:=h.1
 lt h:=by grind
instance:Ow Bool where
 own _ cs b fp:=cs=[.bool b]/\fp=[]
 olen h:=by rw[h.1];rfl
 frame h _:=h
 reads h _:=h.1
 lt h:=by grind
instance:Ow (List UInt8) where
 own _ cs s fp:=(cs=[vstr s]/\s.length<=big)/\fp=[]
 olen h:=by rw[h.1.1];rfl
 frame h _:=h
 reads h _:=h.1
 lt h:=by grind
instance{α β:Type} [Ow α] [Ow β]:Ow (α×β) where
 own w cs x fp:= ∃c d f g,cs=c++d/\fp=f++g/\Ow.own w c x.1 f/\Ow.own w d x.2 g
 olen h:=by obtain⟨c,d,f,g,rfl,rfl,h1,h2⟩:=h;rw[List.length_append,Ow.olen h1,Ow.olen h2];rfl
 frame h hk:=by
  grind [Ow.frame]
 reads h hk:=by
  obtain⟨c,d,f,g,rfl,rfl,h1,h2⟩:=h;exact⟨c,d,rfl,Ow.reads h1 fun b hb=>hk b (List.mem_append_left _ hb),Ow.reads h2 fun b hb=>hk b (List.mem_append_right _ hb)⟩
 lt h:=by
  obtain⟨c,d,f,g,rfl,rfl,h1,h2⟩:=h;intro b hb;rcases List.mem_append.1 hb with hb|hb
  ·exact Ow.lt h1 b hb
  ·exact Ow.lt h2 b hb
def Els{α:Type} [Ow α](w:A5)(cur:Array A4)(l:List α)(fps:List (List Nat)):Prop:=
 fps.length=l.length/\ ∀(i:Nat) (x:α),l[i]? =some x-> ∃cs f,fps[i]? =some f/\Ow.own w cs x f/\ ∀(j:Nat) (v:A4),cs[j]? =some v->cur[i*Rep.size α+j]? =some v
section
variable{α:Type} [Ow α]{w w':A5}{cur cur':Array A4}{l:List α}{fps:List (List Nat)}
theorem Els.frame(h:Els w cur l fps)(hk: ∀b∈fps.flatten,w'.heap[b]? =w.heap[b]?):Els w' cur l fps:=
 ⟨h.1,fun i x hx=>by
   obtain⟨cs,f,h1,h2,h3⟩:=h.2 i x hx
   exact⟨cs,f,h1,Ow.frame h2 fun b hb=>hk b (Af.2 ⟨f,AI h1,hb⟩),h3⟩⟩
end
instance(priority:=low){α:Type} [Ow α]:Ow (List α) where
 own w cs l fp:=(l=[]/\fp=[]/\ ∃A c,cs=[.slice A 0 c])∨
  ∃b c cur fps,cs=[.slice (some ⟨b,0,none⟩) l.length c]/\l.length<=big/\l.length<=c/\Row w b cur/\l.length*Rep.size α<=cur.size/\Els w cur l fps/\fp=b::fps.flatten
 olen h:=by
  rcases h with⟨_,_,_,_,rfl⟩|⟨_,_,_,_,rfl,_⟩<;>rfl
 frame h hk:=by
  rcases h with h|⟨b,c,cur,fps,h1,h2,h3,h4,h5,h6,rfl⟩
  ·grind
  ·exact .inr ⟨b,c,cur,fps,h1,h2,h3,h4.keep (hk b AX),h5,h6.frame fun x hx=>hk x (Aj _ hx),rfl⟩
 reads h hk:=by
  rcases h with⟨rfl,_,A,c,rfl⟩|⟨b,c,cur,fps,rfl,h2,h3,h4,h5,h6,rfl⟩
  ·exact⟨A,c,rfl,by simp,At.nil⟩
  ·refine⟨_,c,rfl,h2,fun _=>⟨b,0,rfl,hk b AX,fun i x hx=>?_⟩⟩
   obtain⟨cs,f,g1,g2,g3⟩:=h6.2 i x hx;exact⟨cs,Ow.reads g2 fun y hy=>hk y (Aj _ (Af.2 ⟨f,AI g1,hy⟩)),fun j v hv=>by rw[By,h4.cell];grind⟩
 lt {w cs l fp} h:=by
  rcases h with⟨_,rfl,_⟩|⟨b,c,cur,fps,h1,h2,h3,h4,h5,h6,rfl⟩
  ·simp
  ·intro x hx
   rcases List.mem_cons.1 hx with rfl|hx
   ·exact h4.lt
   ·obtain⟨f,hf,hx⟩:=Af.1 hx
    obtain⟨i,hi,rfl⟩:=List.getElem_of_mem hf;have hi':i<l.length:=by rw[<-h6.1];exact hi
    obtain⟨cs,f,g1,g2,_⟩:=h6.2 i _ (A1 hi');rw[A1 hi] at g1;injection g1 with g1;rw[g1] at hx;exact Ow.lt g2 x hx
section
variable{fp fp':List Nat}{w w1 w2:A5}
end
section
variable{α:Type} [Ow α]{w w':A5}{cur cur':Array A4}{l:List α}{fps:List (List Nat)}
end
theorem owns_at{w:A5}{base:Nat}{e:AD}{v:A4}{l:List Str}(h:w.ownsRow base e 1 v l.length (l.map vstr))(hb: ∀s∈l,s.length<=big)(hl:l.length<=big):
 ∃A c,v= .slice A l.length c/\At w w.heap.size A l:=by
 obtain⟨h1,⟨hv,hn⟩|⟨g,cap,cur,hv,hg,hh,hn,hm,hs,ht⟩⟩:=h
 ·grind [At.nil]
 ·refine⟨_,cap,hv,fun _=>⟨g,0,rfl,?_,fun i x hx=>⟨[vstr x],⟨rfl,hb x (AI hx)⟩,fun j u hj=>?_⟩⟩⟩
  ·grind
  ·have hi:i<l.length:=(A3.1 hx).1
   match j,hj with
   |0,hj=>
    simp only[AO,AC] at hj;have hc:w.cell? ⟨g,i,none⟩=cur[i]? :=by simp[BO,hh]
    have:(cur.toList.take (l.length*1))[i]? =some (vstr x):=by grind
    rw[List.getElem?_take_of_lt (by omega)] at this;simp only[Rep.size,Nat.mul_one,By,Nat.add_zero]
    grind
theorem Qte{w:A5}{base:Nat}{e:AD}{size n n' c:Nat}(h:w.ownsRow base e size (.slice A n' c) n xs):n<=c:=by
 obtain⟨h1,⟨hv,hn⟩|⟨g,cap,cur,hv,hg,hh,hn,hm⟩⟩:=h
 ·omega
 grind
def QmY{w w':A5}{base:Nat}{e:AD}{size n:Nat}{v:A4}(hown:w.ownsRow base e size v n xs)(hb:base<=w.heap.size)(hg:w.grownBy w' v.ownBlock):AH base w w':=
 (CS _ _).grown hg hb fun k hk=>by
   obtain⟨_,⟨rfl,_⟩|⟨g,cap,cur,rfl,hbg,_⟩⟩:=hown
   ·simp[BW] at hk
   ·simp[BW] at hk;omega
theorem QoP{w:A5}{o:AB}(hgd:o.guard=none)(s x:AG)(t:AD)
 (ho:o.op= .call {callee:= .builtin .append,args:= #[s,x],argTypes:= #[t,t]})
 (base:Nat) (e:AD) (z:A4) (size bytes:Nat) (ht:P.underlying t=some (.slice e)) (hinfo:(P.info? e).map (fun i=>(i.zero,i.size,i.bytes))=some (some z,size,bytes)) (hzs:z.cells.size=size) (hsz:0<size)
 (v:A4) (n:Nat) (xs:List A4) (hs:a.eval s=v) (hown:w.ownsRow base e size v n xs)
 (b c:Nat) (news:List A4) (hx:a.eval x= .slice (some ⟨b,0,none⟩) 1 c) (hl:news.length=size) (hnews: ∀j u,news[j]? =some u->w.cell? ⟨b,j,none⟩=some u) (h1: ∀u∈news,u.oneCell'=true)
 (hbytes:(n+1)*bytes<=140737488355328) (hby:0<bytes) (hbase:base<=w.heap.size)
 (h: ∀v' w',w'.ownsRow base e size v' (n+1) (xs++news)->AH base w w'->base<=w'.heap.size->wpList P ops Q rest (a.put o.dst v') w'):wpList P ops Q (o::rest) a w:=by
 obtain⟨i,hi,hz,hs1,hs2⟩:=info_parts hinfo;refine wpList_append_own w hgd s x t ho base e i z size bytes ht hi hz hs1 hs2 hzs hsz v n xs hs hown ⟨b,0,none⟩ 1 c news hx (by omega) (fun j u hj=>?_) h1 ?_ hbytes hbase fun v' w' h2 h3 _=>?_
 ·have:=hnews j u hj
  by_cases h0:j=0
  ·subst h0;simpa[CH] using this
  ·simpa[CH,h0] using this
 ·unfold maxLen
  have:(n+1)*1<=(n+1)*bytes:=Nat.mul_le_mul_left _ hby;omega
 ·exact h v' w' h2 (QmY hown hbase h3) (Bz hbase h3.size)
def infoS:(AF.info? 9).map (fun i=>(i.zero,i.size,i.bytes))=some (some (.string ⟨#[]⟩),1,16):=by kernel_rfl
theorem Qju{w:A5}{o:AB}(hgd:o.guard=none)(s x:AG)
 (ho:o.op= .call {callee:= .builtin .append,args:= #[s,x],argTypes:= #[23,23]})
 (base:Nat) (v:A4) (l:List Str) (hs:a.eval s=v) (hown:w.ownsRow base 9 1 v l.length (l.map vstr))
 (b c:Nat) (y:Str) (hx:a.eval x= .slice (some ⟨b,0,none⟩) 1 c) (hc:w.cell? ⟨b,0,none⟩=some (.string ⟨y.toArray⟩)) (hbytes:l.length<8000000000000) (hbase:base<=w.heap.size)
 (h: ∀v' w',w'.ownsRow base 9 1 v' (l++[y]).length ((l++[y]).map vstr)->AH base w w'->base<=w'.heap.size->wpList AF ops Q rest (a.put o.dst v') w'):wpList AF ops Q (o::rest) a w:=by
 refine QoP hgd s x _ ho base _ _ 1 16 Tryz.underlying23 infoS rfl (by omega) v _ _ hs hown b c [vstr y] hx rfl (fun j u hj=>?_) (fun u hu=>?_) (by omega) (by omega) hbase fun v' w' h1 h2 h3=>h v' w' (by simpa using h1) h2 h3
 ·match j,hj with
  |0,hj=>
   simp only[AO,AC] at hj;rw[<-hj];exact hc
 ·simp only[List.mem_singleton] at hu
  subst hu;rfl
theorem Quc{w:A5}{l:List Str}(h:At w B A l)(hl:0<l.length): ∃b off,A=some ⟨b,off,none⟩/\b<B/\ ∀(j:Nat) (u:A4),(l.map vstr)[j]? =some u->w.cell? ⟨b,off+j,none⟩=some u:=by
 obtain⟨b,off,rfl,hb,hc⟩:=h hl;refine⟨b,off,rfl,hb,fun j u hj=>?_⟩;rw[A6] at hj;cases hx:l[j]? with
 |none=>grind
 |some x=>
  rw[hx] at hj;simp only[AS,AC] at hj;subst hj;obtain⟨cs,h1,h2⟩:=hc j x hx;obtain⟨rfl,_⟩:=Qlm h1;have:=h2 0 _ rfl;simpa[Rep.size,vstr] using this
theorem Qj6{w w':A5}{base:Nat}{e:AD}{size n:Nat}{v:A4}(h:w.ownsRow base e size v n xs)(hb:AH w.heap.size w w'):w'.ownsRow base e size v n xs:=by
 obtain⟨h1,⟨hv,hn⟩|⟨g,cap,cur,hv,hg,hh,hr⟩⟩:=h
 ·exact⟨h1,.inl ⟨hv,hn⟩⟩
 ·refine⟨h1,.inr ⟨g,cap,cur,hv,hg,?_,hr⟩⟩
  have hlt:g<w.heap.size:=by
   grind
  rw[hb.block g hlt];exact hh
def Qut(t e:AD)(z:A4)(size bytes:Nat)(ht:P.underlying t=some (.slice e))(hinfo:(P.info? e).map (fun i=>(i.zero,i.size,i.bytes))=some (some z,size,bytes))
 (n:Nat) (hbytes:bytes*n<=281474976710656) (h63:n<=9223372036854775807) (w:A5):
 (Instr.makeSlice t (.int .i64 (n:Int)) (.int .i64 (n:Int))).run P w= .ok (.slice (some ⟨w.heap.size,0,none⟩) n n) (w.alloc (.cells (madeCells z.cells (n*size)) e)):=by
 obtain⟨i,hi,hzz⟩:=Option.map_eq_some_iff.1 hinfo;simp only[Bi] at hzz;obtain⟨hz,hs,hb⟩:=hzz
 have hb':(i.bytes:Int)*(n:Int)<=281474976710656:=by
  rw[hb];have h:((bytes*n:Nat):Int)<=281474976710656:=by omega
  rwa [Int.natCast_mul] at h
 have hr:=run_make (P:=P) w t e i z ht hi hz .i64 .i64 n n (by omega) (Int.le_refl _) hb' (by omega);simp only[Int.toNat_natCast,hs] at hr;exact hr
end Pm
end
end Go.Proofs.YthbonbflkdonkaaGreatDoor
namespace Go.Proofs
open Go.Shelf
def Tryz.lays106_ren:AP:=⟨fun|106=>148|213=>209|265=>245|n=>n,fun|9=>9|3=>3|n=>n,fun|n=>n⟩
def Tryz.lays106:CP AF Tryz.lays106_ren:=by repeat' first|kernel_rfl|decide|(intros;kernel_rfl)|constructor
def Tryz.strings_Compare:=Any.strings_Compare Tryz.lays106
def Tryz.laysGw15_ren:AP:=⟨fun|15=>206|20=>244|n=>n,fun|9=>9|23=>242|3=>3|4=>4|0=>0|21=>21|n=>n,fun|n=>n⟩
def Tryz.laysGw15:CI AF Tryz.laysGw15_ren:=by repeat' first|kernel_rfl|decide|(intros;kernel_rfl)|constructor
def Tryz.strings_IndexFunc_runes:=Any.strings_IndexFunc_runes Tryz.laysGw15
def Tryz.lays100_ren:AP:=⟨fun|100=>43|207=>93|n=>n,fun|9=>9|4=>4|3=>3|n=>n,fun|n=>n⟩
def Tryz.lays100:CQ AF Tryz.lays100_ren:=by repeat' first|kernel_rfl|decide|(intros;kernel_rfl)|constructor
def Tryz.strings_HasSuffix:=Any.strings_HasSuffix Tryz.lays100
def Tryz.lays105_ren:AP:=⟨fun|105=>92|212=>153|99=>154|165=>155|166=>44|170=>156|169=>45|263=>213|264=>214|206=>201|240=>94|241=>215|276=>157|277=>249|n=>n,fun|9=>9|3=>3|4=>4|20=>20|0=>0|46=>185|109=>202|5=>5|72=>98|76=>105|51=>245|146=>246|53=>248|148=>249|70=>96|37=>22|75=>104|127=>158|164=>206|80=>107|n=>n,fun|n=>n⟩
def Tryz.lays105:CR AF Tryz.lays105_ren:=by repeat' first|kernel_rfl|decide|(intros;kernel_rfl)|constructor
def Tryz.Builder_Extra_105:Builder.Extra AF Tryz.lays105_ren:=by repeat' first|kernel_rfl|decide|(intros;kernel_rfl)|constructor
def Tryz.strings_Repeat:=Any.strings_Repeat Tryz.lays105 Tryz.Builder_Extra_105
def Tryz.laysSortFunc_Found_ren:AP:=⟨fun|6=>187|15=>230|14=>229|28=>260|29=>261|20=>252|21=>253|22=>254|23=>255|24=>256|25=>257|26=>258|27=>259|46=>283|47=>284|48=>285|49=>286|50=>287|57=>296|n=>n,fun|22=>48|24=>61|25=>231|3=>3|39=>185|0=>0|53=>245|55=>248|4=>4|46=>273|45=>272|50=>39|5=>5|9=>9|66=>293|70=>235|76=>311|77=>208|n=>n,fun|n=>n⟩
def Tryz.laysSortFunc_Found:Ah AF Tryz.laysSortFunc_Found_ren:={
 mixed:=by kernel_rfl
 f6:=⟨Tryz.f187.name,by decide,Tryz.func187.trans (congrArg some (by kernel_rfl))⟩
 f14:=⟨Tryz.f229.name,by decide,Tryz.func229.trans (congrArg some (by kernel_rfl))⟩
 f15:=C0.trans (congrArg some (by kernel_rfl))
 f20:=⟨Tryz.f252.name,by decide,Tryz.func252.trans (congrArg some (by kernel_rfl))⟩
 f21:=⟨Tryz.f253.name,by decide,Tryz.func253.trans (congrArg some (by kernel_rfl))⟩
 f22:=⟨Tryz.f254.name,by decide,Tryz.func254.trans (congrArg some (by kernel_rfl))⟩
 f23:=⟨Tryz.f255.name,by decide,Tryz.func255.trans (congrArg some (by kernel_rfl))⟩
 f24:=⟨Tryz.f256.name,by decide,Tryz.func256.trans (congrArg some (by kernel_rfl))⟩
 f25:=⟨Tryz.f257.name,by decide,Tryz.func257.trans (congrArg some (by kernel_rfl))⟩
 f26:=⟨Tryz.f258.name,by decide,Tryz.func258.trans (congrArg some (by kernel_rfl))⟩
 f27:=⟨Tryz.f259.name,by decide,Tryz.func259.trans (congrArg some (by kernel_rfl))⟩
 f28:=C1.trans (congrArg some (by kernel_rfl))
 f29:=C2.trans (congrArg some (by kernel_rfl))
 f46:=⟨Tryz.f283.name,by decide,Tryz.func283.trans (congrArg some (by kernel_rfl))⟩
 f47:=C3.trans (congrArg some (by kernel_rfl))
 f48:=C4.trans (congrArg some (by kernel_rfl))
 f49:=⟨Tryz.f286.name,by decide,Tryz.func286.trans (congrArg some (by kernel_rfl))⟩
 f50:=⟨Tryz.f287.name,by decide,Tryz.func287.trans (congrArg some (by kernel_rfl))⟩
 f57:=⟨Tryz.f296.name,by decide,Tryz.func296.trans (congrArg some (by kernel_rfl))⟩
 t0:=BH
 a0:=CJ
 z0:=C5
 v0:=BP
 t3:=BI
 a3:=CK
 z3:=C6
 v3:=BQ
 t4:=BJ
 a4:=CL
 z4:=C7
 v4:=BR
 t5:=BK
 a5:=CM
 z5:=C8
 v5:=BS
 t9:=BL
 a9:=CN
 z9:=C9
 v9:=BT
 t22:=Tryz.underlying48
 a22:=Tryz.isAgg48
 z22:=Tryz.sizeOf48
 v22:=Tryz.zeroValue48
 t25:=Tryz.underlying231
 a25:=Tryz.isAgg231
 z25:=Tryz.sizeOf231
 v25:=Tryz.zeroValue231
 t39:=Ap
 a39:=Bj
 z39:=BX
 v39:=B1
 t45:=Aq
 a45:=Bk
 z45:=BY
 v45:=B2
 t46:=Ar
 a46:=Bl
 z46:=BZ
 v46:=B3
 t50:=B4
 a50:=CA
 z50:=Bm
 v50:=BM
 t53:=As
 a53:=Bn
 z53:=Ba
 v53:=B5
 t55:=Au
 a55:=Bo
 z55:=Bb
 v55:=B6
 t66:=Av
 a66:=Bp
 z66:=Bc
 v66:=B7
 t70:=Ax
 a70:=Bq
 z70:=Bd
 v70:=B8
 t76:=Ay
 a76:=Br
 z76:=Be
 v76:=B9
 t77:=Az
 a77:=Bt
 z77:=Bf
 v77:=BA}
def Tryz.laysSortFunc_Thing_ren:AP:=⟨fun|6=>189|15=>230|14=>231|28=>260|29=>261|20=>262|21=>263|22=>264|23=>265|24=>266|25=>267|26=>268|27=>269|46=>288|47=>284|48=>285|49=>289|50=>290|57=>297|n=>n,fun|22=>49|24=>53|25=>233|3=>3|39=>185|0=>0|53=>245|55=>248|4=>4|46=>273|45=>272|50=>39|5=>5|9=>9|66=>293|70=>235|76=>311|77=>208|n=>n,fun|n=>n⟩
def Tryz.laysSortFunc_Thing:Ah AF Tryz.laysSortFunc_Thing_ren:={
 mixed:=by kernel_rfl
 f6:=⟨Tryz.f189.name,by decide,Tryz.func189.trans (congrArg some (by kernel_rfl))⟩
 f14:=⟨Tryz.f231.name,by decide,Tryz.func231.trans (congrArg some (by kernel_rfl))⟩
 f15:=C0.trans (congrArg some (by kernel_rfl))
 f20:=⟨Tryz.f262.name,by decide,Tryz.func262.trans (congrArg some (by kernel_rfl))⟩
 f21:=⟨Tryz.f263.name,by decide,Tryz.func263.trans (congrArg some (by kernel_rfl))⟩
 f22:=⟨Tryz.f264.name,by decide,Tryz.func264.trans (congrArg some (by kernel_rfl))⟩
 f23:=⟨Tryz.f265.name,by decide,Tryz.func265.trans (congrArg some (by kernel_rfl))⟩
 f24:=⟨Tryz.f266.name,by decide,Tryz.func266.trans (congrArg some (by kernel_rfl))⟩
 f25:=⟨Tryz.f267.name,by decide,Tryz.func267.trans (congrArg some (by kernel_rfl))⟩
 f26:=⟨Tryz.f268.name,by decide,Tryz.func268.trans (congrArg some (by kernel_rfl))⟩
 f27:=⟨Tryz.f269.name,by decide,Tryz.func269.trans (congrArg some (by kernel_rfl))⟩
 f28:=C1.trans (congrArg some (by kernel_rfl))
 f29:=C2.trans (congrArg some (by kernel_rfl))
 f46:=⟨Tryz.f288.name,by decide,Tryz.func288.trans (congrArg some (by kernel_rfl))⟩
 f47:=C3.trans (congrArg some (by kernel_rfl))
 f48:=C4.trans (congrArg some (by kernel_rfl))
 f49:=⟨Tryz.f289.name,by decide,Tryz.func289.trans (congrArg some (by kernel_rfl))⟩
 f50:=⟨Tryz.f290.name,by decide,Tryz.func290.trans (congrArg some (by kernel_rfl))⟩
 f57:=⟨Tryz.f297.name,by decide,Tryz.func297.trans (congrArg some (by kernel_rfl))⟩
 t0:=BH
 a0:=CJ
 z0:=C5
 v0:=BP
 t3:=BI
 a3:=CK
 z3:=C6
 v3:=BQ
 t4:=BJ
 a4:=CL
 z4:=C7
 v4:=BR
 t5:=BK
 a5:=CM
 z5:=C8
 v5:=BS
 t9:=BL
 a9:=CN
 z9:=C9
 v9:=BT
 t22:=Tryz.underlying49
 a22:=Tryz.isAgg49
 z22:=Tryz.sizeOf49
 v22:=Tryz.zeroValue49
 t25:=Tryz.underlying233
 a25:=Tryz.isAgg233
 z25:=Tryz.sizeOf233
 v25:=Tryz.zeroValue233
 t39:=Ap
 a39:=Bj
 z39:=BX
 v39:=B1
 t45:=Aq
 a45:=Bk
 z45:=BY
 v45:=B2
 t46:=Ar
 a46:=Bl
 z46:=BZ
 v46:=B3
 t50:=B4
 a50:=CA
 z50:=Bm
 v50:=BM
 t53:=As
 a53:=Bn
 z53:=Ba
 v53:=B5
 t55:=Au
 a55:=Bo
 z55:=Bb
 v55:=B6
 t66:=Av
 a66:=Bp
 z66:=Bc
 v66:=B7
 t70:=Ax
 a70:=Bq
 z70:=Bd
 v70:=B8
 t76:=Ay
 a76:=Br
 z76:=Be
 v76:=B9
 t77:=Az
 a77:=Bt
 z77:=Bf
 v77:=BA}
end Go.Proofs
namespace Go.Proofs.YthbonbflkdonkaaGreatDoor
open Go.RowKit
namespace Aw
variable{w w':A5}{σ σ':Sg}{B:Bs}{t i j sz k f q off:Nat}{u:AG}{a:CG}{b:Bool}{o:AB}{E:Nat->Bool}{C:Blk}{H0 H':List Blk}{y:A4}{x:AV}{T T0:AD}{r ds:List D}{κ:IntKind}{S':Nat->Prop}{c:Code}
def nG:Nat:=(max (max 5 0) (max 1 2))+1
structure Gd(B:Bs):Prop where
 g:B.G=nG
 own: ∀b,B.own b->nG<=b
 lt:Pm.Lt B.w0
theorem Lt.size(h:Pm.Lt w):nG<=w.heap.size:=by
 obtain⟨m,h1⟩:=h.maxl;obtain⟨_,_,h2⟩:=h.syn;obtain⟨_,_,h3⟩:=h.ran;have h1:=Pm.QkJ h1;have h2:=Pm.QkJ h2;have h3:=Pm.QkJ h3
 have h4:5<w.heap.size:=by
  have ht:=h.tab;unfold Ae BV at ht;rw[show Am AF "internal/strconv.uint64pow10" =some 5 from by kernel_rfl] at ht
  grind
 grind [nG]
theorem Lt.low(h:Pm.Lt w)(hb: ∀b,b<nG->w'.heap[b]? =w.heap[b]?):Pm.Lt w':=by
 refine⟨?_,?_,?_,?_⟩
 ·have ht:=h.tab
  unfold Ae BV at*;rw[show Am AF "internal/strconv.uint64pow10" =some 5 from by kernel_rfl] at*
  grind [nG]
 ·obtain⟨m,e⟩:=h.maxl;grind [QfZ,nG]
 ·obtain⟨t,p,e⟩:=h.syn;grind [QfZ,nG]
 ·obtain⟨t,p,e⟩:=h.ran;grind [QfZ,nG]
def Gd.ltOf(h:Gd B){S:Nat->Prop}{H:List Blk}(hS:Sm B σ S H w):Pm.Lt w:=
 Lt.low h.lt fun b hb=>hS.keep b (by have:=Lt.size h.lt;omega) fun ho=>by have:=h.own b ho;omega
def Gd.again(h:Gd B){S:Nat->Prop}{H:List Blk}(hS:Sm B σ S H w)(S':Nat->Prop):Gd ⟨w,B.G,fun _=>False,S'⟩:=
 ⟨h.g,fun _ hb=>hb.elim,h.ltOf hS⟩
structure St where
 n:Nat
 env:List (Nat×AV)
 H:List Blk
def look:List (Nat×AV)->Nat->AV
 |[],_=> .d .any
 |(t,x)::r,u=>bif BU t u then x else look r u
theorem Qdw(t:Nat)(x:AV)(r:List (Nat×AV)):look ((t,x)::r) t=x:=by simp[look]
theorem Qd2{u:Nat}(h:t≠u)(x:AV)(r:List (Nat×AV)):look ((t,x)::r) u=look r u:=by
 have:BU t u=false:=by
  cases hb:BU t u
  ·rfl
  simp_all
 simp[look,this]
def D.ofV:A4->D
 |.agg cs=> .agg (cs.toList.map .v)
 |x=> .v x
theorem D.ofV_rel(S:Nat->Prop)(w:A5)(v:A4):RelD S w (D.ofV v) v:=by
 cases v<;>first|exact .v _|skip
 rename_i cs
 have:=RelD.agg (S:=S) (w:=w) (cs.toList.map .v) cs.toList (by simp) (fun i d x hd hx=>by
  rw[A6,hx] at hd;obtain rfl:=A0 hd
  exact .v _)
 exact this
def aval(env:List (Nat×AV)):AG->AV
 |.tmp t=>look env t
 |.const v=> .d (D.ofV v)
 |.global g=> .d (.v (.pointer (some ⟨g,0,none⟩)))
 |.func f=> .fn (.func f) []
structure SmA(B:Bs)(σ:Sg)(S:Nat->Prop)(s:St)(a:CG)(w:A5):Prop where
 sm:Sm B σ S s.H w
 defers:a.defers=[]
 size:a.tmps.size=s.n
 env: ∀t,Rel σ S s.H w (look s.env t) (a.tmps.getD t undef)
def Qeo{S:Nat->Prop}{H:List Blk}{env:List (Nat×AV)}
 (h: ∀t,u= .tmp t->Rel σ S H w (look env t) (a.tmps.getD t undef)):Rel σ S H w (aval env u) (a.eval u):=by
 cases u with
 |tmp t=>exact h t rfl
 |const v=>exact .d _ _ (D.ofV_rel _ _ _)
 |global g=>exact .d _ _ (.v _)
 |func f=>exact .fn _ [] [] rfl fun i d x hd=>by simp at hd
def Agree(H H':List Blk):Prop:= ∀(k:Nat) (C:Blk),H[k]? =some C->H'[k]? =some C∨H'[k]? =some Blk.none
def setNb(H:List Blk)(κ:Nat):Option Blk->List Blk
 |some C=>H.set κ C
 |none=>H
def Loc(P:A7)(o:AB)(env:List (Nat×AV))(H:List Blk)(x:AV)(nb:Option Blk):Prop:=
 ∀B σ S H' a w,Gd B->Sm B σ S H' w->(∀u∈o.op.operands,Rel σ S H' w (aval env u) (a.eval u))->Agree H H'->(∀C,nb=some C->H'[H.length]? =some Blk.none)->
  ∀(K:CG->A5->Prop) (Q:Ao->CG->A5->Prop),
   (∀v w' σ' S',Sm B σ' S' (setNb H' H.length nb) w'->Rel σ' S' (setNb H' H.length nb) w' x v->Ev σ S H' w σ' S' (setNb H' H.length nb) w'->K (a.put o.dst v) w')->o.wp P a w K Q
def dstOk(n:Nat):Option Tmp->Bool
 |some d=>AZ d n
 |none=>true
def putE(env:List (Nat×AV)):Option Tmp->AV->List (Nat×AV)
 |some d,x=>(d,x)::env
 |none,_=>env
def yl:A4->Option Bool
 |.bool b=>some b
 |_=>none
def awanted(ops:Array AB)(env:List (Nat×AV))(o:AB):Option Bool:=
 match o.guard with
 |none=>some true
 |some (j,want)=>
  match(ops[j]?).bind (·.dst) with
  |some d=>match look env d with
   |.d (.v x)=>some (yl x==some want)
   |_=>none
  |none=>none
theorem QhA{ops:Array AB}{env:List (Nat×AV)}{S:Nat->Prop}{H:List Blk}(hw:awanted ops env o=some b)
 (h: ∀j want d,o.guard=some (j,want)->(ops[j]?).bind (·.dst)=some d->d<a.tmps.size/\Rel σ S H w (look env d) (a.tmps.getD d undef)):An o (yielded ops a.tmps)=b:=by
 unfold awanted at hw;unfold An;cases hg:o.guard with
 |none=>grind
 |some p=>
  obtain⟨j,want⟩:=p;rw[hg] at hw;simp only at hw⊢;cases hd:(ops[j]?).bind (·.dst) with
  |none=>grind
  |some d=>
   rw[hd] at hw;obtain⟨hlt,hr⟩:=h j want d hg hd;simp only at hw;cases hl:look env d with
   |d y=>
    rw[hl] at hw hr;cases y with
    |v x=>
     obtain rfl:=A0 hw;cases hr with
     |d _ _ hr=>
      cases hr
      have hget:a.tmps[d]? =some (a.tmps.getD d undef):=by
       simp_all
      have:yielded ops a.tmps j=yl (a.tmps.getD d undef):=by
       unfold yielded;rw[hd];simp only[BG,hget];cases a.tmps.getD d undef<;>rfl
      rw[this]
    |_=>cases hw
   |_=>grind
def Step1(P:A7)(ops:Array AB)(o:AB)(s:St)(x:AV)(nb:Option Blk):Prop:=
 dstOk s.n o.dst=true/\((awanted ops s.env o=some false/\x= .d (.v undef)/\nb=none)∨(awanted ops s.env o=some true/\Loc P o s.env s.H x nb))
def St.next(s:St)(o:AB)(x:AV)(nb:Option Blk):St:=⟨s.n,putE s.env o.dst x,s.H++nb.toList⟩
def ADraw(P:A7)(ops:Array AB)(K:St->Prop):List AB->St->Prop
 |[],s=>K s
 |o::l,s=> ∃x nb,Step1 P ops o s x nb/\ADraw P ops K l (s.next o x nb)
def backB(ops:Array AB):Bool:=(A9 ops.size).all fun i=>((ops[i]?).map (·.after.all fun e=>decide (e.on<i)|| !Region.binds .any e)).getD true
theorem ready_all{ops:Array AB}{listed:Array Bool}(hb:backB ops=true)(hsz:listed.size=ops.size)(hr:AU .any ops listed=[]): ∀i,i<ops.size->listed.getD i false=true:=by
 intro i;induction i using Nat.strongRecOn with
 |_ i ih=>
  intro hi;rcases Bool.eq_false_or_eq_true (listed.getD i false) with h|h
  ·exact h
  exfalso
  have hm:i∈AU .any ops listed:=by
   rw[mem_ready];obtain⟨o,ho⟩: ∃o,ops[i]? =some o:=⟨_,Array.getElem?_eq_getElem hi⟩
   have hl:listed.getD i true=false:=by
    grind
   refine⟨hl,o,ho,fun e he hbd=>?_⟩;have hb':=BN.1 hb i (Bg.2 hi)
   grind [Array.all_eq_true_iff_forall_mem]
  grind
theorem Qke{P:A7}{id:Nat}{ops:Array AB}{Q:Ao->CG->A5->Prop}(hm:P.follows .mixedOrders=true)(hb:backB ops=true)
 (J:(Nat->Bool)->CG->A5->Prop) (h0:J (fun _=>false) a {w with drawn:=w.drawn+1})
 (hop: ∀(E:Nat->Bool) i o,ops[i]? =some o-> ∀a w,J E a w->E i=false->(∀j,ops.size<=j->E j=false)->(∀j o',E j=true->ops[j]? =some o'-> ∀e∈o'.after,AL .any e=true->E e.on=true)->
   (∀e∈o.after,AL .any e=true->E e.on=true)-> ∀K,(∀a' w',J (fun j=>E j||decide (j=i)) a' w'->K a' w')->wpOp P ops Q i K a w)
 (hend: ∀E a w,J E a w->(∀i,i<ops.size->E i=true)->(∀j,ops.size<=j->E j=false)->Q .normal a w):(Code.region id ops true).wp P Q a w:=by
 refine wp_region_any hm ?_
 have hE: ∀(listed:Array Bool) j,listed.size=ops.size->ops.size<=j->listed.getD j false=false:=fun listed j hs hj=>by
  grind
 have key: ∀(fuel:Nat) (listed:Array Bool) (a:CG) (w:A5),listed.size=ops.size->(ops.size<=fuel+(listed.toList.countP (fun b=>b)))->J (fun j=>listed.getD j false) a w->
  (∀j o',listed.getD j false=true->ops[j]? =some o'-> ∀e∈o'.after,AL .any e=true->listed.getD e.on false=true)->wpAny P .any ops Q fuel listed a w:=by
  intro fuel;induction fuel with
  |zero=>
   intro listed a w hsz hf hJ hcl
   have hall: ∀i,i<ops.size->listed.getD i false=true:=by
    have hc:listed.toList.countP (fun b=>b)=listed.toList.length:=by
     grind
    rw[List.countP_eq_length] at hc;intro i hi;have hi':i<listed.toList.length:=by grind
    have:=hc _ (List.getElem_mem hi')
    simp_all
   have hr:AU .any ops listed=[]:=by
    cases hr:AU .any ops listed with
    |nil=>rfl
    |cons i r=>
     exfalso;have hi:i∈AU .any ops listed:=by grind
     grind [mem_ready]
   exact⟨hr,hend _ a w hJ hall (fun j hj=>hE listed j hsz hj)⟩
  |succ fuel ih=>
   intro listed a w hsz hf hJ hcl;refine⟨fun hr=>hend _ a w hJ (fun i hi=>ready_all hb hsz hr i hi) (fun j hj=>hE listed j hsz hj),fun i hi=>?_⟩;rw[mem_ready] at hi;obtain⟨h1,o,ho,hdep⟩:=hi;have hlt:i<ops.size:=(Array.getElem?_eq_some_iff.1 ho).1
   have hli:listed[i]'(by omega)=false:=by
    simp_all
   have hlf:listed.getD i false=false:=by
    grind
   have hset: ∀j,(listed.setIfInBounds i true).getD j false=(listed.getD j false||decide (j=i)):=fun j=>by
    by_cases hji:j=i
    ·simp_all
    ·rw[A8,Array.getElem?_setIfInBounds_ne (fun e=>hji e.symm),<-A8];grind
   refine hop _ i o ho a w hJ hlf (fun j hj=>hE listed j hsz hj) hcl (fun e he hbd=>hdep e he hbd) _ fun a' w' hJ'=>?_
   refine ih _ _ _ (by grind) ?_ (by grind) (fun j o' hj ho' e he hbd=>?_)
   ·grind
   grind
 refine key ops.size (AT ops.size false) a _ (by simp) (by omega) ?_ (fun j o' hj=>?_)
 ·have:(fun j=>(AT ops.size false).getD j false)=fun _=>false:=funext fun j=>by
   rw[A8,Ab];grind
  grind
 ·exfalso
  rw[A8,Ab] at hj
  grind
def mask(acc:List Nat):List CB->Nat
 |[]=>0
 |e::r=>(bif AL .any e then 2^e.on|||acc.getD e.on 0 else 0)|||mask acc r
def befs:List AB->List Nat->List Nat
 |[],acc=>acc
 |o::l,acc=>befs l (acc++[mask acc o.after.toList])
def names(ops:List AB)(o:AB):List Nat:=
 o.dst.toList++(o.op.operands.toList.filterMap fun| .tmp t=>some t|_=>none)++
 (match o.guard with
  |some (g,_)=>((ops[g]?).bind (·.dst)).toList
  |none=>[])
def tmpOk(ops:List AB):Bool:=
 let b:=befs ops []
 ops.zipIdx.all fun(o,i)=>(names ops o).all fun t=>ops.zipIdx.all fun(p,j)=> !(p.dst==some t)||j==i||(bif AZ j i then(b.getD i 0).testBit j else(b.getD j 0).testBit i)
def drawOk(ops:Array AB):Bool:=backB ops&&tmpOk ops.toList
def Closed(ops:List AB)(E:Nat->Bool):Prop:= ∀(j:Nat) o,E j=true->ops[j]? =some o-> ∀e∈o.after,AL .any e=true->E e.on=true
theorem QqY{acc:List Nat}(hacc: ∀(i j:Nat),E i=true->(acc.getD i 0).testBit j=true->E j=true):
 ∀(l:List CB),(∀e∈l,AL .any e=true->E e.on=true)-> ∀j,(mask acc l).testBit j=true->E j=true
 :=by intro l;induction l<;>grind [mask]
theorem Qmc{E:Nat->Bool}: ∀(l pre:List AB) (acc:List Nat),acc.length=pre.length->Closed (pre++l) E->(∀(i j:Nat),i<pre.length->E i=true->(acc.getD i 0).testBit j=true->E j=true)->
 ∀(i j:Nat),E i=true->((befs l acc).getD i 0).testBit j=true->E j=true
 |[],pre,acc,hl,_,h,i,j,hi,hj=>by
  grind [befs]
 |o::l,pre,acc,hl,hc,h,i,j,hi,hj=>by
  simp only[befs] at hj
  have hacc: ∀(i j:Nat),E i=true->(acc.getD i 0).testBit j=true->E j=true:=fun i j hi hj=>by
   grind
  refine Qmc l (pre++[o]) (acc++[mask acc o.after.toList]) (by simp[hl]) (by grind) (fun i j hlt hi hj=>?_) i j hi hj
  by_cases hlt':i<pre.length
  ·rw[AJ,AM (by omega),<-AJ] at hj
   grind
  ·have hie:i=pre.length:=by grind
   subst hie;rw[AJ,AA (by omega)] at hj;simp only[hl,Nat.sub_self,AO,Option.getD_some] at hj;refine QqY hacc _ (fun e he hb=>?_) j hj;exact hc _ o hi (by grind) e (Array.mem_toList_iff.1 he) hb
theorem Qik{ops:List AB}(hc:Closed ops E)(hi:E i=true)(hj:((befs ops []).getD i 0).testBit j=true):E j=true:=
 Qmc ops [] [] rfl (by grind) (fun i j h=>by simp at h) i j hi hj
theorem QdS{ops:List AB}(hc:Closed ops E)(ho:ops[i]? =some o)(hi: ∀e∈o.after,AL .any e=true->E e.on=true)
 (hj:((befs ops []).getD i 0).testBit j=true) (hne:j≠i):E j=true:=by
 have hc':Closed ops (fun k=>E k||decide (k=i)):=fun k o' hk ho' e he hb=>by
  rcases Bool.or_eq_true_iff.1 hk with h|h
  ·show(E e.on||_)=true
   rw[hc k o' h ho' e he hb];rfl
  grind
 grind [Qik]
structure Chain(P:A7)(ops:Array AB)(l:List AB)(st:Nat->St)(xv:Nat->AV)(nb:Nat->Option Blk):Prop where
 step: ∀(i:Nat) o,l[i]? =some o->Step1 P ops o (st i) (xv i) (nb i)/\st (i+1)=(st i).next o (xv i) (nb i)
def maskB(b:Bool):Option Blk->List Blk
 |some C=>[bif b then C else .none]
 |none=>[]
theorem Qpg(x:Option Blk):maskB true x=x.toList:=by cases x<;>rfl
def QqZ(b:Bool)(x:Option Blk):(maskB b x).length=x.toList.length:=by cases x<;>rfl
section
variable{P:A7}{ops:Array AB}{l:List AB}{st:Nat->St}{xv:Nat->AV}{nb:Nat->Option Blk}
def HE(H0:List Blk)(nb:Nat->Option Blk)(n:Nat)(E:Nat->Bool):List Blk:=H0++(A9 n).flatMap fun i=>maskB (E i) (nb i)
def Chain.heap(h:Chain P ops l st xv nb): ∀i,i<=l.length->(st i).H=(st 0).H++(A9 i).flatMap fun j=>(nb j).toList
 |0,_=>by simp
 |i+1,hi=>by
  have ho:l[i]? =some l[i]:=A1 (by omega);rw[(h.step i _ ho).2];show(st i).H++(nb i).toList=_;rw[Chain.heap h i (by omega),List.range_succ,List.flatMap_append,BB];simp
def Chain.n(h:Chain P ops l st xv nb): ∀i,i<=l.length->(st i).n=(st 0).n
 |0,_=>rfl
 |i+1,hi=>by
  have ho:l[i]? =some l[i]:=A1 (by omega);rw[(h.step i _ ho).2];exact Chain.n h i (by omega)
theorem HE_none(H0:List Blk)(nb:Nat->Option Blk)(n:Nat)(E:Nat->Bool):(HE H0 nb n E).length=H0.length+((A9 n).flatMap fun j=>(nb j).toList).length:=by simp_all[HE,QqZ]
theorem QoN(H0:List Blk)(nb:Nat->Option Blk)(n i:Nat)(E:Nat->Bool)(hi:i<n):
 HE H0 nb n E=HE H0 nb i E++(maskB (E i) (nb i)++((A9 (n -i -1)).map (· +(i+1))).flatMap fun j=>maskB (E j) (nb j)):=by
 unfold HE
 have:A9 n=A9 i++(i::(A9 (n -i -1)).map (· +(i+1))):=by
  have h1:n=i+(1+(n -i -1)):=by omega
  conv=>lhs;rw[h1,Ak,Ak]
  grind [Function.comp_def]
 grind
theorem QoO{n:Nat}(hi:i<n)(hE:E i=false)(hC:nb i=some C):
 (HE H0 nb n E)[(HE H0 nb i E).length]? =some Blk.none/\(HE H0 nb n E).set (HE H0 nb i E).length C=HE H0 nb n (fun j=>E j||decide (j=i)):=by
 have hs:=QoN H0 nb n i E hi;have hs':=QoN H0 nb n i (fun j=>E j||decide (j=i)) hi
 have e1:HE H0 nb i (fun j=>E j||decide (j=i))=HE H0 nb i E:=by
  unfold HE
  congr 1
  apply congrArg CC;apply AN;intro j hj;have:=Bg.1 hj;simp[show j≠i by omega]
 have e2:(((A9 (n -i -1)).map (· +(i+1))).flatMap fun j=>maskB (E j||decide (j=i)) (nb j))=((A9 (n -i -1)).map (· +(i+1))).flatMap fun j=>maskB (E j) (nb j):=by
  grind [AN]
 grind [maskB]
theorem QpZ{n:Nat}(hC:nb i=none):HE H0 nb n E=HE H0 nb n (fun j=>E j||decide (j=i)):=by
 unfold HE
 congr 1
 apply congrArg CC;apply AN;intro j hj
 by_cases hji:j=i
 ·subst hji;rw[hC];rfl
 grind
theorem HE_all{n:Nat}(h: ∀i,i<n->E i=true):HE H0 nb n E=H0++(A9 n).flatMap fun j=>(nb j).toList:=by grind [HE,AN,Qpg]
theorem Quq{n:Nat}(hi:i<=n):Agree (H0++(A9 i).flatMap fun j=>(nb j).toList) (HE H0 nb n E):=by
 have key: ∀(l:List Nat) (L:List Blk) (k:Nat) (C:Blk),(l.flatMap fun j=>(nb j).toList)[k]? =some C->
  ((l.flatMap fun j=>maskB (E j) (nb j))++L)[k]? =some C∨((l.flatMap fun j=>maskB (E j) (nb j))++L)[k]? =some Blk.none:=by
  intro l;induction l with
  |nil=>grind
  |cons j l ih=>
   intro L k C h;rw[BC] at h;rw[BC,BB];cases hn:nb j with
   |none=>grind [maskB]
   |some D=>
    grind [maskB]
 intro k C hC;unfold HE
 by_cases hk:k<H0.length
 ·grind
 ·rw[AA (by omega)] at hC
  rw[AA (by omega)]
  have hsp:A9 n=A9 i++(A9 (n -i)).map (i+ ·):=by
   rw[<-Ak];grind
  grind
theorem Chain.slot(h:Chain P ops l st xv nb): ∀i,i<=l.length-> ∀t,
 (∃j o,j<i/\l[j]? =some o/\o.dst=some t/\(∀j' o',j'<i->l[j']? =some o'->o'.dst=some t->j'<=j)/\look (st i).env t=xv j)∨
 ((∀j o,j<i->l[j]? =some o->o.dst≠some t)/\look (st i).env t=look (st 0).env t)
 |0,_,t=> .inr ⟨fun j o hj=>by omega,rfl⟩
 |i+1,hi,t=>by
  have ho:l[i]? =some l[i]:=A1 (by omega);have hst:=(h.step i _ ho).2
  by_cases hd:l[i].dst=some t
  ·refine .inl ⟨i,_,by omega,ho,hd,fun j' o' hj' _ _=>by omega,?_⟩
   rw[hst];show look (putE (st i).env l[i].dst (xv i)) t=_;rw[hd];exact Qdw _ _ _
  ·have hlk:look (st (i+1)).env t=look (st i).env t:=by
    rw[hst];show look (putE (st i).env l[i].dst (xv i)) t=_;cases hd':l[i].dst with
    |none=>rfl
    |some d=>exact Qd2 (fun e=>hd (by grind)) _ _
   rcases Chain.slot h i (by omega) t with⟨j,o,h1,h2,h3,h4,h5⟩|⟨h1,h2⟩
   ·grind
   grind
end
def Lift(B:Bs)(Q:Ao->St->Prop):Ao->CG->A5->Prop:=fun e a w=> ∃s σ S,Q e s/\SmA B σ S s a w
def AWP(P:A7)(c:Code)(Q:Ao->St->Prop)(s:St):Prop:= ∀B,Gd B-> ∀σ S a w,SmA B σ S s a w->c.wp P (Lift B Q) a w
theorem Qee{ops:List AB}(h:tmpOk ops=true){p:AB}(ho:ops[i]? =some o)(hp:ops[j]? =some p)(ht:t∈names ops o)(hd:p.dst=some t)(hne:j≠i):
 (j<i->((befs ops []).getD i 0).testBit j=true)/\(i<j->((befs ops []).getD j 0).testBit i=true):=by
 unfold tmpOk at h;simp only[BN] at h;have hm: ∀(k:Nat) (q:AB),ops[k]? =some q->(q,k)∈ops.zipIdx:=fun k q hq=>List.mk_mem_zipIdx_iff_getElem?.2 hq
 have:=h (o,i) (hm i o ho) t ht (p,j) (hm j p hp);simp only[hd,beq_self_eq_true,Bool.not_true,Bool.false_or,Bool.or_eq_true,beq_iff_eq,hne,false_or] at this;constructor
 ·intro hlt
  simp_all
 ·intro hlt
  have hb:AZ j i=false:=by
   cases hb:AZ j i
   ·rfl
   ·have:j<i:=by simp_all
    omega
  grind
variable{P:A7}
def Qgs{K:CG->A5->Prop}{Q:Ao->CG->A5->Prop}
 (h:(execOp a.eval o).run P w= .ok (.value y) w') (k:K (a.put o.dst y) w'):o.wp P a w K Q:=by
 unfold CD;rw[h];exact k
def QP{env:List (Nat×AV)}{H:List Blk}
 (h: ∀(σ:Sg) (S:Nat->Prop) (H':List Blk) (a:CG) (w:A5),(∀k C,H'[k]? =some C->BlkOk σ S H' w k C)->(∀u∈o.op.operands,Rel σ S H' w (aval env u) (a.eval u))->Agree H H'->
   ∃v,(execOp a.eval o).run P w= .ok (.value v) w/\Rel σ S H' w x v):Loc P o env H x none:=by
 intro B σ S H' a w _ hS hop hag _ K Q k;obtain⟨v,h1,h2⟩:=h σ S H' a w hS.blk hop hag;exact Qgs h1 (k v w σ S hS h2 (Ev.refl _ _ _ _))
def Qrf{env:List (Nat×AV)}{H:List Blk}{cells:List AV}
 (h: ∀(σ:Sg) (S:Nat->Prop) (H':List Blk) (a:CG) (w:A5),(∀u∈o.op.operands,Rel σ S H' w (aval env u) (a.eval u))->
   ∃cs T,(execOp a.eval o).run P w= .ok (.value (.pointer (some ⟨w.heap.size,0,none⟩))) (w.alloc (.cells cs T))/\ ∀(j:Nat) x,cells[j]? =some x-> ∃v,cs[j]? =some v/\Rel σ S H' w x v):
 Loc P o env H (.ptr H.length 0 0) (some (.row 0 cells)):=by
 intro B σ S H' a w _ hS hop hag hk K Q k;have hκ:=hk _ rfl;obtain⟨cs,T,h1,h2⟩:=h σ S H' a w hop;obtain⟨h3,h4⟩:=hS.fillRow (T:=T) hκ h2;have hl:H.length<H'.length:=(A3.1 hκ).1;refine Qgs h1 (k _ _ _ _ h3 (.ptr _ 0 0 _ rfl 0 cells (AQ hl) (AY _) fun _=>⟨_,Qdk _ _ _,rfl⟩) h4)
theorem Qri{env:List (Nat×AV)}{H:List Blk}{len:Nat}{rows:List (List D)}(hlen:rows.length=len)(hsz: ∀r∈rows,r.length=sz)
 (h: ∀(σ:Sg) (S:Nat->Prop) (H':List Blk) (a:CG) (w:A5),(∀u∈o.op.operands,Rel σ S H' w (aval env u) (a.eval u))->
   ∃cs,(execOp a.eval o).run P w= .ok (.value (.slice (some ⟨w.heap.size,0,none⟩) len len)) (w.alloc (.cells cs T))/\cs.size=len*sz/\len<=maxLen/\
    ∀(i j:Nat) r d,rows[i]? =some r->r[j]? =some d-> ∃v,cs[i*sz+j]? =some v/\RelD S w d v):
 Loc P o env H (.osl H.length 0 0 len) (some (.arr 0 sz T rows)):=by
 intro B σ S H' a w _ hS hop hag hk K Q k;have hκ:=hk _ rfl;obtain⟨cs,h1,hcs,hm,h2⟩:=h σ S H' a w hop;obtain⟨h3,h4⟩:=hS.fillArr (g:=0) (T:=T) hκ hsz h2;have hl:H.length<H'.length:=(A3.1 hκ).1;refine Qgs h1 (k _ _ _ _ h3 (.osl _ 0 0 len _ rfl 0 sz T rows (AQ hl) (AY _) fun _=>⟨by omega,.inl ⟨w.heap.size,len,cs,T,Qdk _ _ _,AY _,hm,by simp,Qej _ _,by grind⟩⟩) h4)
def D.vals:List D->Option (List A4)
 |[]=>some []
 |.v x::r=>(D.vals r).map (x:: ·)
 |_=>none
def AV.conc:AV->Option A4
 |.d (.v x)=>some x
 |.d (.agg l)=>(D.vals l).map fun vs=> .agg vs.toArray
 |.fn f []=>some (.func f #[] #[])
 |_=>none
theorem D.vals_rel{S:Nat->Prop}{w:A5}: ∀{l:List D} {vs cs:List A4},D.vals l=some vs->l.length=cs.length->(∀(i:Nat) d x,l[i]? =some d->cs[i]? =some x->RelD S w d x)->cs=vs
 |[],vs,cs,h,hl,_=>by
  grind [D.vals]
 |d::r,vs,[],h,hl,_=>by simp at hl
 |d::r,vs,c::cs,h,hl,hr=>by
  cases d with
  |v x=>
   simp only[D.vals] at h;cases hv:D.vals r with
   |none=>grind
   |some vs'=>
    rw[hv] at h;obtain rfl:=A0 h;have h0:=hr 0 _ c rfl rfl;cases h0;have h3:=D.vals_rel (cs:=cs) hv (by grind) fun i d x hd hx=>hr (i+1) d x (by grind) (by grind)
    rw[h3]
  |_=>simp[D.vals] at h
theorem AV.conc_rel{S:Nat->Prop}{H:List Blk}{v:A4}(h:Rel σ S H w x v)(hc:x.conc=some y):v=y:=by
 cases h with
 |d d v h=>
  cases h with
  |v x=>grind [AV.conc]
  |agg l cs hl hr=>
   simp only[AV.conc] at hc;cases hv:D.vals l with
   |none=>grind
   |some vs=>
    rw[hv] at hc;obtain rfl:=A0 hc;rw[D.vals_rel hv hl hr]
  |_=>simp[AV.conc] at hc
 |fn f l cs hl hr=>
  cases l with
  |nil=>
   grind [AV.conc]
  |cons=>simp[AV.conc] at hc
 |_=>simp[AV.conc] at hc
section
variable{dst:Option Tmp}{ty:AD}{pos:String}{after:Array CB}{gd:Option (Nat×Bool)}{env:List (Nat×AV)}{H:List Blk}
theorem QnX:Loc P ⟨dst,.move u,ty,pos,after,gd⟩ env H (aval env u) none:=
 QP fun σ S H' a w _ hop _=>⟨a.eval u,rfl,hop u (by simp[A2])⟩
theorem Qpm:Loc P ⟨dst,.assign u,ty,pos,after,gd⟩ env H (aval env u) none:=
 QP fun σ S H' a w _ hop _=>⟨a.eval u,rfl,hop u (by simp[A2])⟩
theorem Qtm{c x y:AG}{X Y:AV}(hc:aval env c= .d (.v (.bool b)))(hx:aval env x=X)(hy:aval env y=Y):
 Loc P ⟨dst,.pick c x y,ty,pos,after,gd⟩ env H (bif b then X else Y) none:=
 QP fun σ S H' a w _ hop _=>by
  have h:=hop c (by simp[A2]);rw[hc] at h;have hb:a.eval c= .bool b:=AV.conc_rel h rfl;refine⟨if b then a.eval x else a.eval y,by simp[execOp,hb,asBool],?_⟩
  grind [A2]
theorem loc_un{op:UnOp}{x:AG}{X z:A4}(hx:(aval env x).conc=some X)
 (h: ∀(R:Result A4->Prop) w,R (.ok z w)->R ((Op.unary op X).run P w)):
 Loc P ⟨dst,.unOp op T x,ty,pos,after,gd⟩ env H (.d (.v z)) none:=
 QP fun σ S H' a w _ hop _=>by
  have h1:=AV.conc_rel (hop x (by simp[A2])) hx;refine⟨z,?_,.d _ _ (.v _)⟩;have:=h (fun r=>r= .ok z w) w rfl;simp only[execOp,h1]
  simp_all
theorem loc_not{x:AG}(hx:aval env x= .d (.v (.bool b))):Loc P ⟨dst,.unOp .not T x,ty,pos,after,gd⟩ env H (.d (.v (.bool !b))) none:=
 loc_un (X:= .bool b) (by rw[hx];rfl) fun R w h=>h
structure TyF where
 agg:Bool
 size:Nat
 bytes:Nat
 zero:List A4
 elem:Option AD
 fields:List (Nat×Nat)
 places:Option (List (Nat×Nat))
 str:Bool
def tyf(P:A7)(T:AD):Option TyF:=
 match P.underlying T,P.info? T with
 |some d,some i=>match i.zero with
  |some z=>some
   {agg:=match d with| .struct _| .array _ _=>true|_=>false
    size:=i.size,bytes:=i.bytes,zero:=z.cells.toList
    elem:=match d with| .slice e=>some e|_=>none
    fields:=match d with| .struct fs=>fs.toList.map fun f=>(f.offset,((P.info? f.type).map (·.size)).getD 0)|_=>[]
    places:=match d with| .struct fs=>fs.toList.mapM fun f=>(P.info? f.type).map fun i=>(f.offset,i.size)|_=>none
    str:=match d with| .string=>true|_=>false}
  |none=>none
 |_,_=>none
theorem QdX{F:TyF}(h:tyf P T=some F): ∃d i z,P.underlying T=some d/\P.info? T=some i/\i.zero=some z/\i.size=F.size/\i.bytes=F.bytes/\z.cells.toList=F.zero/\
 (match d with| .struct _| .array _ _=>true|_=>false)=F.agg/\(match d with| .slice e=>some e|_=>none)=F.elem/\
 (match d with| .struct fs=>fs.toList.map fun f=>(f.offset,((P.info? f.type).map (·.size)).getD 0)|_=>[])=F.fields/\
 (match d with| .struct fs=>fs.toList.mapM fun f=>(P.info? f.type).map fun i=>(f.offset,i.size)|_=>none)=F.places/\
 (match d with| .string=>true|_=>false)=F.str:=by grind [tyf]
theorem QdB{e:AD}{F:TyF}(h:tyf P T=some F)(he:F.elem=some e):P.underlying T=some (.slice e):=by grind [QdX]
theorem QfH{F:TyF}(h:tyf P T=some F)(he:F.str=true):P.underlying T=some .string:=by grind [QdX]
def Qlg{F:TyF}(h:tyf P T=some F)(w:A5):(isAgg T).run P w= .ok F.agg w:=by
 obtain⟨d,i,z,hd,_,_,_,_,_,ha,_⟩:=QdX h;unfold isAgg;rw[AE,run_underlying hd];rw[<-ha];cases d<;>rfl
theorem QdY{F:TyF}(h:tyf P T=some F)(w:A5):(sizeOf T).run P w= .ok F.size w:=by
 obtain⟨d,i,z,_,hi,_,hs,_⟩:=QdX h;simp[sizeOf,typeInfo,hi,hs]
def QsH{F:TyF}(h:tyf P T=some F)(w:A5): ∃z,(zeroValue T).run P w= .ok z w/\z.cells.toList=F.zero:=by
 obtain⟨d,i,z,_,hi,hz,_,_,hzz,_⟩:=QdX h;exact⟨z,by simp[zeroValue,typeInfo,hi,hz],hzz⟩
theorem Qea(b o j:Nat):(⟨b,o,none⟩:CU).add j=⟨b,o+j,none⟩:=by unfold CH;grind
theorem Qfw{F:TyF}(hT:tyf P T=some F){b o:Nat}{vs:List A4}(hvs: ∀(j:Nat) v,vs[j]? =some v->w.cell? ⟨b,o+j,none⟩=some v):
 (F.agg=true->vs.length=F.size->(loadVar T ⟨b,o,none⟩).run P w= .ok (.agg vs.toArray) w)/\(F.agg=false-> ∀v,vs[0]? =some v->(loadVar T ⟨b,o,none⟩).run P w= .ok v w):=by
 constructor
 ·intro ha hl
  have hc:=run_loadCells_list (P:=P) w ⟨b,o,none⟩ vs fun j v hv=>by rw[Qea];grind
  rw[hl] at hc;simp[loadVar,Qlg hT,QdY hT,ha,hc]
 ·intro ha v hv
  have:=hvs 0 v hv;simp at this;simp[loadVar,Qlg hT,ha,this]
def allD:List AV->Option (List D)
 |[]=>some []
 |.d x::r=>(allD r).map (x:: ·)
 |_=>none
theorem QfF: ∀{l:List AV} {ds:List D},allD l=some ds->l=ds.map AV.d
 |[],ds,h=>by grind [allD]
 |x::r,ds,h=>by
  cases x with
  |d y=>
   simp only[allD] at h;cases hr:allD r with
   |none=>grind
   |some ds'=>rw[hr] at h;obtain rfl:=A0 h;rw[QfF hr];rfl
  |_=>simp[allD] at h
def AV.mk(l:List AV):AV:=match allD l with|some ds=> .d (.agg ds)|none=> .agg l
theorem AV.mk_rel{S:Nat->Prop}{l:List AV}{cs:List A4}(hl:l.length=cs.length)(h: ∀(i:Nat) d x,l[i]? =some d->cs[i]? =some x->Rel σ S H w d x):Rel σ S H w (AV.mk l) (.agg cs.toArray):=by
 unfold AV.mk;cases hd:allD l with
 |none=>exact .agg l cs hl h
 |some ds=>
  have he:=QfF hd;subst he;refine .d _ _ (.agg ds cs (by grind) fun i d x hi hx=>?_);have:=h i (.d d) x (by grind) hx;cases this;omega
def ldA(F:TyF)(cells:List AV):Option AV:=bif F.agg then(bif Al F.size cells.length then some (AV.mk (cells.take F.size)) else none) else cells.head?
def ldD(F:TyF)(cells:List D):Option D:=bif F.agg then(bif Al F.size cells.length then some (.agg (cells.take F.size)) else none) else cells.head?
theorem QmS{F:TyF}(hT:tyf P T=some F){S:Nat->Prop}{b o:Nat}{cells:List D}{x:D}(hx:ldD F cells=some x)
 (hc: ∀(j:Nat) d,cells[j]? =some d-> ∃v,w.cell? ⟨b,o+j,none⟩=some v/\RelD S w d v): ∃v,(loadVar T ⟨b,o,none⟩).run P w= .ok v w/\RelD S w x v:=by
 have hg: ∀n,n<=cells.length-> ∃vs:List A4,vs.length=n/\ ∀(j:Nat) v,vs[j]? =some v->w.cell? ⟨b,o+j,none⟩=some v/\ ∃d,cells[j]? =some d/\RelD S w d v:=by
  intro n;induction n with
  |zero=>simp
  |succ n ih=>
   intro hn;obtain⟨vs,hl,h⟩:=ih (by omega);obtain⟨v,hv,hr⟩:=hc n _ (A1 (by omega));refine⟨vs++[v],by simp[hl],fun j u hu=>?_⟩
   by_cases hj:j<vs.length
   ·rw[AM hj] at hu;exact h j u hu
   ·have:j=n:=by have:=(A3.1 hu).1;simp at this;omega
    subst this;rw[AA (by omega)] at hu;simp[hl] at hu;subst hu;exact⟨hv,_,A1 (by omega),hr⟩
 unfold ldD at hx;cases ha:F.agg with
 |true=>
  rw[ha] at hx;simp only[cond_true] at hx;cases hb:Al F.size cells.length with
  |false=>rw[hb] at hx;cases hx
  |true=>
   rw[hb] at hx;obtain rfl:=A0 hx;obtain⟨vs,hl,hvs⟩:=hg F.size (by simpa using hb);refine⟨_,(Qfw hT fun j v hv=>(hvs j v hv).1).1 ha hl,.agg _ vs (by simp_all) fun i d x hd hxx=>?_⟩
   grind
 |false=>
  rw[ha] at hx;simp only[cond_false] at hx;cases cells with
  |nil=>cases hx
  |cons d r=>
   simp at hx;subst hx;obtain⟨vs,hl,hvs⟩:=hg 1 (by simp)
   match vs,hl with
   |[v],_=>
    obtain⟨_,d',hd',hr⟩:=hvs 0 v rfl;simp at hd';subst hd';exact⟨v,(Qfw hT fun j v hv=>(hvs j v hv).1).2 ha v rfl,hr⟩
theorem Qrm{F:TyF}(hT:tyf P T=some F){S:Nat->Prop}{b o:Nat}{cells:List AV}(hx:ldA F cells=some x)
 (hc: ∀(j:Nat) d,cells[j]? =some d-> ∃v,w.cell? ⟨b,o+j,none⟩=some v/\Rel σ S H w d v): ∃v,(loadVar T ⟨b,o,none⟩).run P w= .ok v w/\Rel σ S H w x v:=by
 have hg: ∀n,n<=cells.length-> ∃vs:List A4,vs.length=n/\ ∀(j:Nat) v,vs[j]? =some v->w.cell? ⟨b,o+j,none⟩=some v/\ ∃d,cells[j]? =some d/\Rel σ S H w d v:=by
  intro n;induction n with
  |zero=>simp
  |succ n ih=>
   intro hn;obtain⟨vs,hl,h⟩:=ih (by omega);obtain⟨v,hv,hr⟩:=hc n _ (A1 (by omega));refine⟨vs++[v],by simp[hl],fun j u hu=>?_⟩
   by_cases hj:j<vs.length
   ·rw[AM hj] at hu;exact h j u hu
   ·have:j=n:=by have:=(A3.1 hu).1;simp at this;omega
    subst this;rw[AA (by omega)] at hu;simp[hl] at hu;subst hu;exact⟨hv,_,A1 (by omega),hr⟩
 unfold ldA at hx;cases ha:F.agg with
 |true=>
  rw[ha] at hx;simp only[cond_true] at hx;cases hb:Al F.size cells.length with
  |false=>rw[hb] at hx;cases hx
  |true=>
   rw[hb] at hx;obtain rfl:=A0 hx;obtain⟨vs,hl,hvs⟩:=hg F.size (by simpa using hb);refine⟨_,(Qfw hT fun j v hv=>(hvs j v hv).1).1 ha hl,AV.mk_rel (by simp_all) fun i d x hd hxx=>?_⟩
   grind
 |false=>
  rw[ha] at hx;simp only[cond_false] at hx;cases cells with
  |nil=>cases hx
  |cons d r=>
   simp at hx;subst hx;obtain⟨vs,hl,hvs⟩:=hg 1 (by simp)
   match vs,hl with
   |[v],_=>
    obtain⟨_,d',hd',hr⟩:=hvs 0 v rfl;simp at hd';subst hd';exact⟨v,(Qfw hT fun j v hv=>(hvs j v hv).1).2 ha v rfl,hr⟩
theorem QmL{F:TyF}{cells:List D}{x:D}(hT:tyf P T=some F)(hu:aval env u= .d (.pd cells))(hx:ldD F cells=some x):
 Loc P ⟨dst,.load T u,ty,pos,after,gd⟩ env H (.d x) none:=
 QP fun σ S H' a w _ hop _=>by
  have h:=hop u (by simp[A2]);rw[hu] at h;generalize hv:a.eval u=v at h;cases h with
  |d _ _ h=>
   cases h with
   |pd l b o g hS hc hr=>
    obtain⟨y,h1,h2⟩:=QmS hT hx fun j d hd=>⟨g j,hc j d hd,hr j d hd⟩
    exact⟨y,by simp[execOp,BD,AK,hv,h1],.d _ _ h2⟩
theorem Qde{F:TyF}{g o:Nat}{cells:List AV}(hT:tyf P T=some F)(hu:aval env u= .ptr k g o)(hk:H[k]? =some (.row g cells))
 (hx:ldA F (cells.drop o)=some x):Loc P ⟨dst,.load T u,ty,pos,after,gd⟩ env H x none:=
 QP fun σ S H' a w hB hop hag=>by
  have h:=hop u (by simp[A2]);rw[hu] at h;generalize hv:a.eval u=v at h;cases h with
  |ptr _ _ _ _ _ g' cells' hk' hg hh=>
   have hke:H'[k]? =some (.row g cells):=by
    rcases hag k _ hk with h|h
    ·exact h
    ·rw[hk'] at h;cases h
   rw[hk'] at hke;obtain⟨rfl,rfl⟩:g'=g/\cells'=cells:=by injection (A0 hke) with h1 h2;exact⟨h1,h2⟩
   obtain⟨b,hb,rfl⟩:=hh rfl;rcases hB k _ hk' with⟨b',cs,T',hb',hc,hr⟩|⟨hb',_⟩;rotate_left
   ·grind
   rw[hb] at hb';obtain rfl:=A0 hb'
   obtain⟨y,h1,h2⟩:=Qrm (b:=b) (o:=o) hT hx fun j d hd=>by
    rw[B0] at hd;obtain⟨u,hu,hr'⟩:=hr _ d hd;exact⟨u,by grind [cell_of_row],hr'⟩
   exact⟨y,by simp[execOp,BD,AK,hv,h1],h2⟩
theorem Qdg{F:TyF}{g:Nat}{rows:List (List D)}{x:D}(hT:tyf P T=some F)(hu:aval env u= .ept k g i j)(hk:H[k]? =some (.arr g sz T0 rows))
 (hr:rows[i]? =some r) (hx:ldD F (r.drop j)=some x):Loc P ⟨dst,.load T u,ty,pos,after,gd⟩ env H (.d x) none:=
 QP fun σ S H' a w hB hop hag=>by
  have h:=hop u (by simp[A2]);rw[hu] at h;generalize hv:a.eval u=v at h;cases h with
  |ept _ _ _ _ _ _ g' sz' T' rows' hk' hg hh=>
   have hke:H'[k]? =some (.arr g sz T0 rows):=by
    rcases hag k _ hk with h|h
    ·exact h
    ·rw[hk'] at h;cases h
   rw[hk'] at hke;obtain⟨rfl,rfl,rfl,rfl⟩:g'=g/\sz'=sz/\T'=T0/\rows'=rows:=by injection (A0 hke) with h1 h2 h3 h4;exact⟨h1,h2,h3,h4⟩
   obtain⟨b,hb,rfl⟩:=hh rfl;obtain⟨_,hbk⟩:=hB k _ hk';rcases hbk with⟨b',cs,hb',hc,hrel⟩|⟨hb',_⟩;rotate_left
   ·grind
   rw[hb] at hb';obtain rfl:=A0 hb'
   obtain⟨y,h1,h2⟩:=QmS (b:=b) (o:=i*sz'+j) hT hx fun q d hd=>by
    rw[B0] at hd;obtain⟨u,hu,hr'⟩:=hrel i _ r d hr hd;exact⟨u,by grind [cell_of_row],hr'⟩
   exact⟨y,by simp[execOp,BD,AK,hv,h1],.d _ _ h2⟩
theorem Qg2{F:TyF}(hT:tyf P T=some F){o n:Nat}(hf:F.fields[f]? =some (o,n))(hn:0<n)(b q:Nat)(w:A5):
 (Bu T (.pointer (some ⟨b,q,none⟩)) f).run P w= .ok (.pointer (some ⟨b,q+o,none⟩)) w:=by
 obtain⟨d,i,z,hd,hi,hz,_,_,_,_,_,hfs,_⟩:=QdX hT;cases d with
 |struct fs=>
  simp only at hfs;rw[<-hfs,A6] at hf;cases hx:fs.toList[f]? with
  |none=>grind
  |some fld=>
   rw[hx] at hf;simp only[AS,AC,Bi] at hf;obtain⟨rfl,hs⟩:=hf;have hx':fs[f]? =some fld:=by grind
   cases hfi:P.info? fld.type with
   |none=>grind
   |some fi=>
    rw[hfi] at hs;simp at hs;simp[Bu,run_underlying hd,hx',AK,fieldPlace,sizeOf,typeInfo,hfi,hs,Qea,show n≠0 by omega]
 |_=>grind
theorem QlG{F:TyF}{o n:Nat}{cells:List D}(hT:tyf P T=some F)(hu:aval env u= .d (.pd cells))(hf:F.fields[f]? =some (o,n))(hn:AZ 0 n=true):
 Loc P ⟨dst,.fieldAddr T u f,ty,pos,after,gd⟩ env H (.d (.pd (cells.drop o))) none:=
 QP fun σ S H' a w _ hop _=>by
  have h:=hop u (by simp[A2]);rw[hu] at h;generalize hv:a.eval u=v at h;cases h with
  |d _ _ h=>
   cases h with
   |pd l b q g hS hc hr=>
    refine⟨_,(by simp[execOp,hv,Qg2 hT hf (by simp_all)]:(execOp a.eval ⟨dst,.fieldAddr T u f,ty,pos,after,gd⟩).run P w= .ok (.value (.pointer (some ⟨b,q+o,none⟩))) w),.d _ _ (.pd _ b (q+o) (fun j=>g (o+j)) hS (fun j d hd=>?_) fun j d hd=>?_)⟩
    ·grind
    grind
theorem Qf3{F:TyF}{o n g:Nat}(hT:tyf P T=some F)(hu:aval env u= .ptr k g q){cells:List AV}(hk:H[k]? =some (.row g cells))(hf:F.fields[f]? =some (o,n))(hn:AZ 0 n=true):
 Loc P ⟨dst,.fieldAddr T u f,ty,pos,after,gd⟩ env H (.ptr k g (q+o)) none:=
 QP fun σ S H' a w _ hop hag=>by
  have h:=hop u (by simp[A2]);rw[hu] at h;generalize hv:a.eval u=v at h;cases h with
  |ptr _ _ _ _ _ g' cells' hk' hg hh=>
   have hke:H'[k]? =some (.row g cells):=by
    rcases hag k _ hk with h|h
    ·exact h
    ·rw[hk'] at h;cases h
   rw[hk'] at hke;obtain⟨rfl,rfl⟩:g'=g/\cells'=cells:=by injection (A0 hke) with h1 h2;exact⟨h1,h2⟩
   obtain⟨b,hb,rfl⟩:=hh rfl;refine⟨_,(by simp[execOp,hv,Qg2 hT hf (by simpa using hn)]:(execOp a.eval ⟨dst,.fieldAddr T u f,ty,pos,after,gd⟩).run P w= .ok (.value (.pointer (some ⟨b,q+o,none⟩))) w),.ptr _ _ _ _ rfl g' cells' hk' hg fun _=>⟨b,hb,rfl⟩⟩
theorem Qkw{F:TyF}{o n g:Nat}{rows:List (List D)}(hT:tyf P T=some F)(hu:aval env u= .ept k g i q)(hk:H[k]? =some (.arr g sz T0 rows))(hf:F.fields[f]? =some (o,n))(hn:AZ 0 n=true):
 Loc P ⟨dst,.fieldAddr T u f,ty,pos,after,gd⟩ env H (.ept k g i (q+o)) none:=
 QP fun σ S H' a w _ hop hag=>by
  have h:=hop u (by simp[A2]);rw[hu] at h;generalize hv:a.eval u=v at h;cases h with
  |ept _ _ _ _ _ _ g' sz' T' rows' hk' hg hh=>
   have hke:H'[k]? =some (.arr g sz T0 rows):=by
    rcases hag k _ hk with h|h
    ·exact h
    ·rw[hk'] at h;cases h
   rw[hk'] at hke;obtain⟨rfl,rfl,rfl,rfl⟩:g'=g/\sz'=sz/\T'=T0/\rows'=rows:=by injection (A0 hke) with h1 h2 h3 h4;exact⟨h1,h2,h3,h4⟩
   obtain⟨b,hb,rfl⟩:=hh rfl;refine⟨_,(by simp[execOp,hv,Qg2 hT hf (by simpa using hn)]:(execOp a.eval ⟨dst,.fieldAddr T u f,ty,pos,after,gd⟩).run P w= .ok (.value (.pointer (some ⟨b,i*sz'+q+o,none⟩))) w),.ept _ _ _ _ _ rfl g' sz' T' rows' hk' hg fun _=>⟨b,hb,by grind⟩⟩
theorem Qg1{e:AD}{F E:TyF}(hT:tyf P T=some F)(he:F.elem=some e)(hE:tyf P e=some E){i:Int}{b o len cap:Nat}(h0:0<=i)(h1:i<len)(w:A5):
 (Bv T (.slice (some ⟨b,o,none⟩) len cap) (.int κ i)).run P w= .ok (.pointer (some ⟨b,o+i.toNat*E.size,none⟩)) w:=by
 obtain⟨d,inf,z,hd,_,_,_,_,_,_,hel,_⟩:=QdX hT;rw[he] at hel;cases d with
 |slice e'=>
  simp at hel;subst hel;simp[Bv,asIntOf,run_underlying hd,h0,h1,QdY hE,Qea]
 |_=>grind
theorem Qdd{e:AD}{F E:TyF}{v:AG}{i:Int}{n:Nat}{c:Bool}{rows:List (List D)}(hT:tyf P T=some F)(he:F.elem=some e)(hE:tyf P e=some E)
 (hn:E.size=n) (hu:aval env u= .d (.sl c n rows)) (hv:aval env v= .d (.v (.int κ i))) (h0:0<=i) (hr:rows[i.toNat]? =some r):
 Loc P ⟨dst,.indexAddr T u v,ty,pos,after,gd⟩ env H (.d (.pd r)) none:=
 QP fun σ S H' a w _ hop _=>by
  subst hn;have h:=hop u (by simp[A2]);have h':=AV.conc_rel (hop v (by simp[A2])) (y:= .int κ i) (by rw[hv];rfl);rw[hu] at h;generalize hx:a.eval u=x at h;cases h with
  |d _ _ h=>
   cases h with
   |slnil=>simp at hr
   |sl _ _ _ b o cap g hS hlen hcap hc hrel=>
    have hlt:i.toNat<rows.length:=(A3.1 hr).1;refine⟨_,by simp only[execOp,hx,h',AE,Qg1 hT he hE (len:=rows.length) (cap:=cap) (b:=b) (o:=o) h0 (by omega) w];rfl,.d _ _ (.pd r b _ (fun j=>g i.toNat j) hS (fun j d hd=>?_) fun j d hd=>hrel _ j r d hr hd)⟩
    grind
theorem Qdv{e:AD}{F E:TyF}{v:AG}{i:Int}{g len:Nat}{rows:List (List D)}(hT:tyf P T=some F)(he:F.elem=some e)(hE:tyf P e=some E)
 (hn:E.size=sz) (hu:aval env u= .osl k g off len) (hk:H[k]? =some (.arr g sz T0 rows)) (hv:aval env v= .d (.v (.int κ i))) (h0:0<=i) (h1:i<len):
 Loc P ⟨dst,.indexAddr T u v,ty,pos,after,gd⟩ env H (.ept k g (off+i.toNat) 0) none:=
 QP fun σ S H' a w _ hop hag=>by
  subst hn;have h:=hop u (by simp[A2]);have h':=AV.conc_rel (hop v (by simp[A2])) (y:= .int κ i) (by rw[hv];rfl);rw[hu] at h;generalize hx:a.eval u=x at h;cases h with
  |osl _ _ _ _ _ _ g' sz' T' rows' hk' hg hh=>
   have hke:H'[k]? =some (.arr g E.size T0 rows):=by
    rcases hag k _ hk with h|h
    ·exact h
    grind
   rw[hk'] at hke;obtain⟨rfl,rfl,rfl,rfl⟩:g'=g/\sz'=E.size/\T'=T0/\rows'=rows:=by grind
   obtain⟨_,hh⟩:=hh rfl;rcases hh with⟨b,cap,cs,T',hb,hl,hm,rfl,hc,hs⟩|⟨hb,rfl,rfl⟩
   ·exact⟨_,by simp only[execOp,hx,h',AE,Qg1 hT he hE h0 h1 w];rfl,.ept _ _ _ _ _ rfl g' E.size _ rows' hk' hg fun _=>⟨b,hb,by grind⟩⟩
   ·omega
end
variable{P:A7}
def D.cells:D->Option (List D)
 |.agg l=>some l
 |.v x=>bif x.oneCell' then some [.v x] else none
 |.sl c n l=>some [.sl c n l]
 |.pd l=>some [.pd l]
 |.mp l=>some [.mp l]
 |_=>none
def AV.cells:AV->Option (List AV)
 |.d x=>x.cells.map (·.map AV.d)
 |.agg l=>some l
 |.tup _=>none
 |.gh _ _=>none
 |x=>some [x]
theorem QeC{v:A4}(h:v.oneCell'=true):v.cells= #[v]:=by cases v<;>simp_all[Value.oneCell',Aa]
theorem D.cells_rel{S:Nat->Prop}{x:D}{v:A4}{l:List D}(h:RelD S w x v)(hc:x.cells=some l):v.cells.size=l.length/\ ∀(j:Nat) d,l[j]? =some d-> ∃u,v.cells[j]? =some u/\RelD S w d u:=by
 have single: ∀{y:D} {u:A4},RelD S w y u->u.cells= #[u]->l=[y]->u.cells.size=l.length/\ ∀(j:Nat) d,l[j]? =some d-> ∃u',u.cells[j]? =some u'/\RelD S w d u':=by
  grind
 cases h with
 |any=>simp[D.cells] at hc
 |v _=>
  simp only[D.cells] at hc;cases ho:v.oneCell' with
  |false=>grind
  |true=>
   rw[ho] at hc;exact single (.v v) (QeC ho) (A0 hc).symm
 |agg l' cs hl hr=>
  obtain rfl:=A0 hc;refine⟨by simp[Aa,hl],fun j d hd=>?_⟩;have hj:j<cs.length:=by rw[<-hl];exact(A3.1 hd).1
  exact⟨cs[j],by simp[Aa,hj],hr j d _ hd (A1 hj)⟩
 |tup=>simp[D.cells] at hc
 |pd l' b o g hS hcc hr=>exact single (.pd l' b o g hS hcc hr) rfl (A0 hc).symm
 |slnil c n a cap=>exact single (.slnil c n a cap) rfl (A0 hc).symm
 |sl c n l' b o cap g hS hn hcap hcc hr=>exact single (.sl c n l' b o cap g hS hn hcap hcc hr) rfl (A0 hc).symm
 |mp l' b es clock hS hb hl hk hr=>exact single (.mp l' b es clock hS hb hl hk hr) rfl (A0 hc).symm
theorem AV.cells_rel{S:Nat->Prop}{H:List Blk}{v:A4}{l:List AV}(h:Rel σ S H w x v)(hc:x.cells=some l):v.cells.size=l.length/\ ∀(j:Nat) d,l[j]? =some d-> ∃u,v.cells[j]? =some u/\Rel σ S H w d u:=by
 have single:v.cells= #[v]->l=[x]->v.cells.size=l.length/\ ∀(j:Nat) d,l[j]? =some d-> ∃u',v.cells[j]? =some u'/\Rel σ S H w d u':=by
  grind
 have h':=h;cases h with
 |d x v h=>
  simp only[AV.cells] at hc;cases hx:x.cells with
  |none=>grind
  |some ds=>
   rw[hx] at hc;obtain rfl:=A0 hc;obtain⟨h1,h2⟩:=D.cells_rel h hx;refine⟨by grind,fun j d hd=>?_⟩;rw[A6] at hd;cases hj:ds[j]? with
   |none=>grind
   |some y=>
    rw[hj] at hd;obtain rfl:=A0 hd;obtain⟨u,hu,hr⟩:=h2 j y hj;exact⟨u,hu,.d _ _ hr⟩
 |agg l' cs hl hr=>
  obtain rfl:=A0 hc;refine⟨by simp[Aa,hl],fun j d hd=>?_⟩;have hj:j<cs.length:=by rw[<-hl];exact(A3.1 hd).1
  exact⟨cs[j],by simp[Aa,hj],hr j d _ hd (A1 hj)⟩
 |tup=>simp[AV.cells] at hc
 |gh=>simp[AV.cells] at hc
 |ptr k g o v ho=>exact single (QeC ho) (A0 hc).symm
 |ept k g i j v ho=>exact single (QeC ho) (A0 hc).symm
 |osl k g off len v ho=>exact single (QeC ho) (A0 hc).symm
 |rsl k g n v ho=>exact single (QeC ho) (A0 hc).symm
 |mp k g v ho=>exact single (QeC ho) (A0 hc).symm
 |fn f l' cs hl hr=>exact single rfl (A0 hc).symm
section
variable{dst:Option Tmp}{ty:AD}{pos:String}{after:Array CB}{gd:Option (Nat×Bool)}{env:List (Nat×AV)}{H:List Blk}
theorem loc_box{l:List AV}(hc:(aval env u).cells=some l):Loc P ⟨dst,.box T u,ty,pos,after,gd⟩ env H (.ptr H.length 0 0) (some (.row 0 l)):=
 Qrf fun σ S H' a w hop=>by
  obtain⟨_,h2⟩:=AV.cells_rel (hop u (by simp[A2])) hc;exact⟨(a.eval u).cells,T,by simp[execOp,Instr.box,newVar,newRow],h2⟩
theorem Qrj{F:TyF}(hT:tyf P T=some F):Loc P ⟨dst,.alloc T,ty,pos,after,gd⟩ env H (.ptr H.length 0 0) (some (.row 0 (F.zero.map fun v=> .d (.v v)))):=
 Qrf fun σ S H' a w _=>by
  obtain⟨z,h1,h2⟩:=QsH hT w;refine⟨z.cells,T,by simp[execOp,Instr.alloc,newVar,newRow,h1],fun j x hx=>?_⟩;rw[A6,<-h2] at hx;cases hj:z.cells.toList[j]? with
  |none=>grind
  |some v=>
   rw[hj] at hx;obtain rfl:=A0 hx;exact⟨v,by grind,.d _ _ (.v _)⟩
def setAt(cells:List AV)(o:Nat):List AV->List AV
 |[]=>cells
 |x::r=>setAt (cells.set o x) (o+1) r
def fillA(pl:Nat->Option (Nat×Nat))(env:List (Nat×AV)):List AV->List (Nat×AG)->Option (List AV)
 |cells,[]=>some cells
 |cells,(i,u)::r=>match pl i,(aval env u).cells with
  |some (o,n),some l=>bif BU l.length n&&Al (o+l.length) cells.length then fillA pl env (setAt cells o l) r else none
  |_,_=>none
theorem Qlt: ∀(l:List AV) (cells:List AV) (o:Nat),(setAt cells o l).length=cells.length
 :=by intro l;induction l<;>grind [setAt]
theorem Qq0{R:AV->A4->Prop}: ∀(l:List AV) (vs:List A4) (cells:List AV) (cs:Array A4) (o k:Nat),vs.length=l.length->(∀(j:Nat) x,l[j]? =some x-> ∃v,vs[j]? =some v/\R x v)->
 cells.length=cs.size->(∀(j:Nat) x,cells[j]? =some x-> ∃v,cs[j]? =some v/\R x v)->o+l.length<=cells.length->
 ((vs.zipIdx k).foldl (fun cs (c,j)=>cs.setIfInBounds (o -k+j) c) cs).size=cells.length/\
 ∀(j:Nat) x,(setAt cells o l)[j]? =some x->k<=o-> ∃v,((vs.zipIdx k).foldl (fun cs (c,j)=>cs.setIfInBounds (o -k+j) c) cs)[j]? =some v/\R x v:=by
 intro l;induction l with
 |nil=>
  intro vs cells cs o k hl _ hs hc _;have:vs=[]:=List.eq_nil_of_length_eq_zero (by omega);subst this;exact⟨hs.symm,fun j x hx _=>hc j x hx⟩
 |cons y r ih=>
  intro vs cells cs o k hl hv hs hc ho
  match vs,hl with
  |v::vs,hl=>
   obtain⟨v',hv',hr⟩:=hv 0 y rfl;simp at hv';subst hv'
   by_cases hk:k<=o
   ·have h2:o -k+k=o:=by omega
    have hstep:(((v::vs).zipIdx k).foldl (fun cs (c,j)=>cs.setIfInBounds (o -k+j) c) cs)=((vs.zipIdx (k+1)).foldl (fun cs (c,j)=>cs.setIfInBounds (o+1 -(k+1)+j) c) (cs.setIfInBounds o v)):=by
     simp_all
    rw[hstep];have hlen:o<cells.length:=by grind
    have:=ih vs (cells.set o y) (cs.setIfInBounds o v) (o+1) (k+1) (by grind) (fun j x hx=>by simpa using hv (j+1) x (by grind)) (by grind) (fun j x hx=>?_) (by grind)
    ·exact⟨by grind,fun j x hx _=>this.2 j x hx (by omega)⟩
    grind
   ·refine⟨?_,fun j x _ h=>absurd h hk⟩
    clear ih hv hr
    have: ∀(l:List (A4×Nat)) (cs:Array A4),(l.foldl (fun cs (c,j)=>cs.setIfInBounds (o -k+j) c) cs).size=cs.size:=by
     intro l;induction l with
     |nil=>grind
     |cons p l ih=>grind
    grind
theorem Qoj{pl:Nat->Option (Nat×Nat)}{S:Nat->Prop}:
 ∀(parts:List (Nat×AG)) (cells:List AV) (cs:Array A4) (res:List AV),(∀p∈parts,Rel σ S H' w (aval env p.2) (a.eval p.2))->fillA pl env cells parts=some res->cells.length=cs.size->
  (∀(j:Nat) x,cells[j]? =some x-> ∃v,cs[j]? =some v/\Rel σ S H' w x v)->
  ∃cs',CT pl cs (parts.map fun p=>(p.1,a.eval p.2))=some cs'/\cs'.size=res.length/\ ∀(j:Nat) x,res[j]? =some x-> ∃v,cs'[j]? =some v/\Rel σ S H' w x v:=by
 intro parts;induction parts with
 |nil=>
  intro cells cs res _ h hl hc;simp only[fillA,AC] at h;subst h;exact⟨cs,rfl,hl.symm,hc⟩
 |cons p r ih=>
  obtain⟨i,u⟩:=p;intro cells cs res hop h hl hc;simp only[fillA] at h;cases hf:pl i with
  |none=>grind
  |some on=>
   obtain⟨o,n⟩:=on;rw[hf] at h;cases hcl:(aval env u).cells with
   |none=>grind
   |some l=>
    rw[hcl] at h;simp only at h;cases hb:(BU l.length n&&Al (o+l.length) cells.length) with
    |false=>grind
    |true=>
     rw[hb] at h;simp only[cond_true] at h;obtain⟨hb1,hb2⟩:=Bool.and_eq_true_iff.1 hb;have hn:l.length=n:=Nat.eq_of_beq_eq_true hb1;have ho:o+l.length<=cells.length:=Ai hb2;obtain⟨h1,h2⟩:=AV.cells_rel (hop (i,u) AX) hcl;have hset:=Qq0 (R:=Rel σ S H' w) l (a.eval u).cells.toList cells cs o 0 (by omega) (fun j x hx=>by grind) hl hc ho
     grind [Qlt,CT,Array.toList_zipIdx]
theorem Qrh{F:TyF}{pl:List (Nat×Nat)}{parts:Array (Nat×AG)}{res:List AV}(hT:tyf P T=some F)(hpl:F.places=some pl)(hr:fillA (fun i=>pl[i]?) env (F.zero.map fun v=> .d (.v v)) parts.toList=some res):
 Loc P ⟨dst,.build T parts,ty,pos,after,gd⟩ env H (AV.mk res) none:=
 QP fun σ S H' a w _ hop _=>by
  obtain⟨d,inf,z,hd,hi,hz,_,_,hzz,_,_,_,hfs,_⟩:=QdX hT;rw[hpl] at hfs;cases d with
  |struct fs=>
   simp only at hfs
   obtain⟨cs',h1,h2,h3⟩:=Qoj (env:=env) (σ:=σ) (S:=S) (H':=H') (a:=a) (w:=w) (pl:=fun i=>pl[i]?) parts.toList _ z.cells res
    (fun p hp=>hop p.2 (by simp only[A2];grind)) hr (by grind) (fun j x hx=>by
      rw[A6,<-hzz] at hx;cases hj:z.cells.toList[j]? with
      |none=>grind
      |some v=>
       rw[hj] at hx;obtain rfl:=A0 hx
       exact⟨v,by grind,.d _ _ (.v _)⟩)
   refine⟨.agg cs',?_,?_⟩
   ·have hb:P.built T (parts.map fun(i,x)=>(i,a.eval x)).toList=some cs':=by
     unfold Program.built
     simp_all
    simp only[execOp,AE,run_build w T _ cs' hb];rfl
   ·have:=AV.mk_rel (σ:=σ) (S:=S) (H:=H') (w:=w) (l:=res) (cs:=cs'.toList) (by grind) (fun i d x hd hx=>by
     grind)
    omega
  |_=>cases hfs
end
variable{P:A7}
section
variable{dst:Option Tmp}{ty:AD}{pos:String}{after:Array CB}{gd:Option (Nat×Bool)}{env:List (Nat×AV)}{H:List Blk}
theorem Qkx{l:List D}{x:D}(hu:aval env u= .d (.tup l))(hx:l[i]? =some x):Loc P ⟨dst,.extract u i,ty,pos,after,gd⟩ env H (.d x) none:=
 QP fun σ S H' a w _ hop _=>by
  have h:=hop u (by simp[A2]);rw[hu] at h;generalize hv:a.eval u=v at h;cases h with
  |d _ _ h=>
   cases h with
   |tup _ cs hl hr=>
    have hi:i<cs.length:=by grind
    exact⟨cs[i],by simp[execOp,Bw,hv,hi],.d _ _ (hr i x _ hx (A1 hi))⟩
theorem QmQ{l:List AV}(hu:aval env u= .tup l)(hx:l[i]? =some x):Loc P ⟨dst,.extract u i,ty,pos,after,gd⟩ env H x none:=
 QP fun σ S H' a w _ hop _=>by
  have h:=hop u (by simp[A2]);rw[hu] at h;generalize hv:a.eval u=v at h;cases h with
  |tup _ cs hl hr=>
   have hi:i<cs.length:=by grind
   exact⟨cs[i],by simp[execOp,Bw,hv,hi],hr i x _ hx (A1 hi)⟩
theorem Qpl{e:AD}{F:TyF}{c:Bool}{n:Nat}{rows:List (List D)}(hT:tyf P T=some F)(he:F.elem=some e)(hu:aval env u= .d (.sl c n rows)):
 Loc P ⟨dst,.call ⟨.builtin .len, #[u], #[T]⟩,ty,pos,after,gd⟩ env H (.d (.v (.int .i64 rows.length))) none:=
 QP fun σ S H' a w _ hop _=>by
  have h:=hop u (by simp[A2,Ac]);rw[hu] at h;generalize hv:a.eval u=v at h;cases h with
  |d _ _ h=>cases h<;>exact⟨_,by simp[execOp,resolve,invoke,builtin,BE,hv,goInt,run_underlying (QdB hT he)];try rfl,.d _ _ (.v _)⟩
theorem QmO{e:AD}{F:TyF}{g len:Nat}{rows:List (List D)}(hT:tyf P T=some F)(he:F.elem=some e)(hu:aval env u= .osl k g off len)(hk:H[k]? =some (.arr g sz T0 rows)):
 Loc P ⟨dst,.call ⟨.builtin .len, #[u], #[T]⟩,ty,pos,after,gd⟩ env H (.d (.v (.int .i64 len))) none:=
 QP fun σ S H' a w _ hop hag=>by
  have h:=hop u (by simp[A2,Ac]);rw[hu] at h;generalize hv:a.eval u=v at h;cases h with
  |osl _ _ _ _ _ _ g' sz' T' rows' hk' hg hh=>
   have hke:H'[k]? =some (.arr g sz T0 rows):=by
    rcases hag k _ hk with h|h
    ·exact h
    grind
   rw[hk'] at hke;obtain⟨rfl,rfl,rfl,rfl⟩:g'=g/\sz'=sz/\T'=T0/\rows'=rows:=by grind
   obtain⟨_,hh⟩:=hh rfl;rcases hh with⟨b,cap,cs,T',hb,hl,hm,rfl,hc,hs⟩|⟨hb,rfl,rfl⟩<;>exact⟨_,by simp[execOp,resolve,invoke,builtin,BE,hv,goInt,run_underlying (QdB hT he)];try rfl,.d _ _ (.v _)⟩
theorem QmM{F:TyF}{s:ByteArray}(hT:tyf P T=some F)(he:F.str=true)(hu:aval env u= .d (.v (.string s))):
 Loc P ⟨dst,.call ⟨.builtin .len, #[u], #[T]⟩,ty,pos,after,gd⟩ env H (.d (.v (.int .i64 s.size))) none:=
 QP fun σ S H' a w _ hop _=>by
  have h:=AV.conc_rel (hop u (by simp[A2,Ac])) (y:= .string s) (by rw[hu];rfl);exact⟨_,by simp[execOp,resolve,invoke,builtin,BE,h,goInt,run_underlying (QfH hT he)];try rfl,.d _ _ (.v _)⟩
end
def Pure(P:A7)(f:FuncId)(args:List D)(x:D):Prop:=
 ∀(B:Bs) (σ:Sg) (S:Nat->Prop) (H:List Blk) (w:A5) (cargs:List A4),Gd B->Sm B σ S H w->args.length=cargs.length->(∀(i:Nat) d v,args[i]? =some d->cargs[i]? =some v->RelD S w d v)->
  Calls P f cargs.toArray w fun e w'=> ∃v,e= .returned v/\AH w.heap.size w w'/\RelD (fun b=>S b∨w.heap.size<=b/\b<w'.heap.size) w' x v
theorem Sm.below{S:Nat->Prop}{H:List Blk}(h:Sm B σ S H w)(hb:AH w.heap.size w w'):
 Sm B σ (fun b=>S b∨w.heap.size<=b/\b<w'.heap.size) H w'/\Ev σ S H w σ (fun b=>S b∨w.heap.size<=b/\b<w'.heap.size) H w':=by
 have hlt: ∀k C b,H[k]? =some C->σ k=some b->b<w.heap.size:=fun k C b hC hb=>(h.σUp k b (A3.1 hC).1 hb).1
 have e0:Ev σ S H w σ S H w':=Ev.more (fun b hS=>hb.block b (h.sUp b hS).1) (fun k C hC _=>⟨hC,rfl,fun b hbb=>hb.block b (hlt k C b hC hbb)⟩);have e:Ev σ S H w σ (fun b=>S b∨w.heap.size<=b/\b<w'.heap.size) H w':=⟨fun b hS=> .inl hS,e0.same,e0.row,e0.arr,e0.mp⟩
 refine⟨⟨hb.os.trans h.os,hb.tape.trans h.tape,hb.output.trans h.output,Bz h.size hb.size,fun b hlt hn=>(hb.block b (by have:=h.size;omega)).trans (h.keep b hlt hn),fun b hS=> .inl (h.sLo b hS),fun b hS=>?_,
  fun k b hk hbb=>?_,h.inj,fun k C hC=>(h.blk k C hC).mono e rfl fun b hbb=>hb.block b (hlt k C b hC hbb)⟩,e⟩
 ·rcases hS with hS|⟨h1,h2⟩
  ·obtain⟨h3,h4⟩:=h.sUp b hS
   exact⟨by have:=hb.size;omega,h4⟩
  ·exact⟨h2,.inr (.inr (by have:=h.size;omega))⟩
 ·obtain⟨h1,h2,h3⟩:=h.σUp k b hk hbb
  refine⟨by have:=hb.size;omega,fun hS=>?_,h3⟩
  grind
theorem Qm2{S:Nat->Prop}{H:List Blk}{env:List (Nat×AV)}{xs:List AG}(hd:allD (xs.map (aval env))=some ds)
 (h: ∀u∈xs,Rel σ S H w (aval env u) (a.eval u)):ds.length=(xs.map a.eval).length/\ ∀(i:Nat) d v,ds[i]? =some d->(xs.map a.eval)[i]? =some v->RelD S w d v:=by
 have he:=QfF hd;have hlen:ds.length=xs.length:=by have:=congrArg CO he;grind
 refine⟨by grind,fun i d v hi hv=>?_⟩;rw[A6] at hv;cases hx:xs[i]? with
 |none=>grind
 |some u=>
  rw[hx] at hv;obtain rfl:=A0 hv;have h1:=h u (AI hx);have h2:(xs.map (aval env))[i]? =(ds.map AV.d)[i]? :=by rw[he]
  rw[A6,A6,hx,hi] at h2;simp only[AS,AC] at h2;rw[h2] at h1;cases h1;omega
theorem Qdr{dst:Option Tmp}{ty:AD}{pos:String}{after:Array CB}{gd:Option (Nat×Bool)}{env:List (Nat×AV)}{H:List Blk}{f:FuncId}{xs:Array AG}{tys:Array AD}{x:D}
 (hf: ∀args w,(callFunc f args).run P w= .ok (.enter f args) w) (h:Pure P f ds x) (hd:allD (xs.toList.map (aval env))=some ds):
 Loc P ⟨dst,.call ⟨.value (.func f),xs,tys⟩,ty,pos,after,gd⟩ env H (.d x) none:=by
 intro B σ S H' a w hB hS hop _ _ K Q k;obtain⟨h1,h2⟩:=Qm2 (a:=a) hd fun u hu=>hop u (by grind [A2,Ac])
 have hrun:(execOp a.eval ⟨dst,.call ⟨.value (.func f),xs,tys⟩,ty,pos,after,gd⟩).run P w= .ok (.enter f (xs.toList.map a.eval).toArray) w:=by
  have:execOp a.eval ⟨dst,.call ⟨.value (.func f),xs,tys⟩,ty,pos,after,gd⟩=callFunc f (#[]++xs.map a.eval++ #[]):=rfl;rw[this,hf]
  congr 2
  grind
 unfold CD;rw[hrun,Oper.upon_enter];refine(h B σ S H' w _ hB hS h1 h2).mono ?_;rintro e w' ⟨v,rfl,hb,hr⟩;obtain⟨h3,h4⟩:=hS.below hb;exact k v w' σ _ h3 (.d _ _ hr) h4
def ASeq(P:A7)(ops:Array AB)(Q:Ao->St->Prop)(l:List AB)(s:St):Prop:= ∀B,Gd B-> ∀σ S a w,SmA B σ S s a w->wpList P ops (Lift B Q) l a w
variable{Q:Ao->St->Prop}
def Qho{ops:Array AB}{s:St}(h:Q .normal s):ASeq P ops Q [] s:=fun _ _ σ S _ _ hA=>⟨s,σ,S,h,hA⟩
theorem SmA.next{S:Nat->Prop}{s:St}{nb:Option Blk}{v:A4}(h:SmA B σ S s a w)(hd:dstOk s.n o.dst=true)
 (hS:Sm B σ' S' (s.H++nb.toList) w') (hR:Rel σ' S' (s.H++nb.toList) w' x v) (hev:Ev σ S s.H w σ' S' (s.H++nb.toList) w'):SmA B σ' S' (s.next o x nb) (a.put o.dst v) w':=by
 refine⟨hS,by cases hdd:o.dst<;>exact h.defers,?_,fun t=>?_⟩
 ·cases hdd:o.dst
  ·exact h.size
  ·simp only[BF,Ad];exact h.size
 ·show Rel _ _ _ _ (look (putE s.env o.dst x) t) _
  cases hdd:o.dst with
  |none=>exact(h.env t).mono hev
  |some d=>
   rw[hdd] at hd;have hlt:d<a.tmps.size:=by rw[h.size];simpa[dstOk] using hd
   by_cases hdt:d=t
   ·subst hdt
    have:(a.put (some d) v).tmps.getD d undef=v:=by
     simp only[BF]
     simp_all
    rw[this];show Rel _ _ _ _ (look ((d,x)::s.env) d) _;rw[Qdw];exact hR
   ·have:(a.put (some d) v).tmps.getD t undef=a.tmps.getD t undef:=by
     simp only[BF]
     simp_all
    rw[this];show Rel _ _ _ _ (look ((d,x)::s.env) t) _;rw[Qd2 hdt];exact(h.env t).mono hev
theorem QfG{ops:Array AB}{S:Nat->Prop}{s:St}(h:SmA B σ S s a w)(hw:awanted ops s.env o=some b)
 (hg: ∀j want d,o.guard=some (j,want)->(ops[j]?).bind (·.dst)=some d->d<s.n):An o (yielded ops a.tmps)=b:=
 QhA hw fun j want d hgu hd=>⟨by rw[h.size];grind,h.env d⟩
def gdOk(ops:Array AB)(n:Nat)(o:AB):Bool:=
 match o.guard with
 |none=>true
 |some (j,_)=>match(ops[j]?).bind (·.dst) with
  |some d=>AZ d n
  |none=>true
theorem QeN{ops:Array AB}{n:Nat}(h:gdOk ops n o=true): ∀j want d,o.guard=some (j,want)->(ops[j]?).bind (·.dst)=some d->d<n:=by
 intro j want d hg hd;unfold gdOk at h
 simp_all
theorem QoA{ops:Array AB}{l:List AB}{s:St}{nb:Option Blk}(hl:Loc P o s.env s.H x nb)(hd:dstOk s.n o.dst=true)(hg:gdOk ops s.n o=true)
 (hw:awanted ops s.env o=some true) (h:ASeq P ops Q l (s.next o x nb)):ASeq P ops Q (o::l) s:=by
 intro B hB σ S a w hA;unfold wpList;rw[if_pos (QfG hA hw (QeN hg))];refine .inl ?_;cases nb with
 |none=>
  refine hl B σ S s.H a w hB hA.sm (fun u _=>Qeo fun t _=>hA.env t) (fun k C hC=> .inl hC) (fun C hC=>by cases hC) _ _ fun v w' σ' S' h1 h2 h3=>?_
  exact h B hB σ' S' _ w' (hA.next (nb:=none) hd (by grind [setNb]) (by grind [setNb]) (by grind [setNb]))
 |some C=>
  obtain⟨h4,h5⟩:=hA.sm.keepPlace
  refine hl B _ S (s.H++[Blk.none]) a w hB h4 (fun u _=>Qeo fun t _=>(hA.env t).mono h5) (fun k C hC=> .inl (by grind))
   (fun C _=>by grind) _ _ fun v w' σ' S' h1 h2 h3=>?_
  have hset:setNb (s.H++[Blk.none]) s.H.length (some C)=s.H++[C]:=by
   grind [setNb]
  rw[hset] at h1 h2 h3;refine h B hB σ' S' _ w' (hA.next (nb:=some C) hd (by grind) (by grind) ?_)
  have h6:Ev σ S s.H w σ' S' (s.H++[C]) w':=
   ⟨fun b hb=>h3.s b (h5.s b hb),fun b hb=>h3.same b (h5.s b hb),fun k g cells hk=>by
     obtain⟨g1,c1,e1,e2,e3⟩:=h5.row k g cells hk;obtain⟨g2,c2,e4,e5,e6⟩:=h3.row k g1 c1 e1
     grind,
    fun k g sz T rows hk=>by
     obtain⟨g1,c1,e1,e2,e3⟩:=h5.arr k g sz T rows hk;obtain⟨g2,c2,e4,e5,e6⟩:=h3.arr k g1 sz T c1 e1
     grind,
    fun k g l hk=>by
     obtain⟨g1,c1,e1,e2,e3⟩:=h5.mp k g l hk;obtain⟨g2,c2,e4,e5,e6⟩:=h3.mp k g1 c1 e1
     grind⟩
  grind
theorem Qs1{ops:Array AB}{l:List AB}{s:St}(hw:awanted ops s.env o=some false)(hd:dstOk s.n o.dst=true)(hg:gdOk ops s.n o=true)
 (h:ASeq P ops Q l (s.next o (.d (.v undef)) none)):ASeq P ops Q (o::l) s:=by
 intro B hB σ S a w hA;unfold wpList;rw[if_neg (by grind [QfG,QeN])];exact h B hB σ S _ w (hA.next (nb:=none) hd (by simpa using hA.sm) (.d _ _ (.v _)) (by grind [Ev.refl]))
def Qeu{id:Nat}{l:List AB}{s:St}(h:ASeq P l.toArray Q l s):AWP P (.region id l.toArray false) Q s:=
 fun B hB σ S a w hA=>wp_region_lit (h B hB σ S a w hA)
variable{K:St->Prop}
def Qmr{ops:Array AB}{l:List AB}{s:St}{nb:Option Blk}(hl:Loc P o s.env s.H x nb)(hd:dstOk s.n o.dst=true)
 (hw:awanted ops s.env o=some true) (h:ADraw P ops K l (s.next o x nb)):ADraw P ops K (o::l) s:=⟨x,nb,⟨hd,.inr ⟨hw,hl⟩⟩,h⟩
def QpV{ops:Array AB}{l:List AB}{s:St}(hw:awanted ops s.env o=some false)(hd:dstOk s.n o.dst=true)
 (h:ADraw P ops K l (s.next o (.d (.v undef)) none)):ADraw P ops K (o::l) s:=⟨_,_,⟨hd,.inl ⟨hw,rfl,rfl⟩⟩,h⟩
def thenA(K:St->Prop)(Q:Ao->St->Prop):Ao->St->Prop
 |.normal,s=>K s
 |e,s=>Q e s
def blockA(id:Nat)(Q:Ao->St->Prop):Ao->St->Prop
 |.exit id',s=>if id'=id then Q .normal s else Q (.exit id') s
 |e,s=>Q e s
def awp_seq{x y:Code}{s:St}(h: ∀K:St->Prop,(∀s,AWP P y Q s->K s)->AWP P x (thenA K Q) s):AWP P (.seq x y) Q s:=by
 intro B hB σ S a w hA;refine wp_seq (wp_mono (h (AWP P y Q) (fun _ h=>h) B hB σ S a w hA) ?_);rintro e a w ⟨s',σ',S',hq,hA'⟩;cases e with
 |normal=>exact hq B hB σ' S' a w hA'
 |_=>exact⟨s',σ',S',hq,hA'⟩
def QkO{s:St}(h:Q .normal s):AWP P .skip Q s:=fun _ _ σ S _ _ hA=>wp_skip ⟨s,σ,S,h,hA⟩
def QkQ{id:Nat}{s:St}(h:Q (.exit id) s):AWP P (.exit id) Q s:=fun _ _ σ S _ _ hA=>wp_exit ⟨s,σ,S,h,hA⟩
def QgK{s:St}(h:Q .ret s):AWP P .ret Q s:=fun _ _ σ S _ _ hA=>wp_ret ⟨s,σ,S,h,hA⟩
theorem QkR{c:AG}{x y:Code}{s:St}(hc:aval s.env c= .d (.v (.bool b)))(ht:b=true->AWP P x Q s)(hf:b=false->AWP P y Q s):AWP P (.cond c x y) Q s:=by
 intro B hB σ S a w hA;have h:=AV.conc_rel (Qeo (u:=c) fun t _=>hA.env t) (y:= .bool b) (by rw[hc];rfl);exact wp_cond_split h (fun e=>ht e B hB σ S a w hA) (fun e=>hf e B hB σ S a w hA)
def Qjh{id:Nat}{s:St}(h:AWP P c (blockA id Q) s):AWP P (.block id c) Q s:=by
 intro B hB σ S a w hA;refine wp_block (wp_mono (h B hB σ S a w hA) ?_);rintro e a w ⟨s',σ',S',hq,hA'⟩;cases e with
 |exit id'=>
  simp only[blockA] at hq;simp only[Exit.inBlock];split
  ·rename_i h;rw[if_pos h] at hq;exact⟨s',σ',S',hq,hA'⟩
  ·rename_i h;rw[if_neg h] at hq;exact⟨s',σ',S',hq,hA'⟩
 |_=>exact⟨s',σ',S',hq,hA'⟩
def Weak(s s':St):Prop:= ∀B σ S a w,SmA B σ S s a w-> ∃σ' S',SmA B σ' S' s' a w
variable{s':St}
def Weak.trans{s s'':St}(h:Weak s s')(h':Weak s' s''):Weak s s'':=fun B σ S a w hA=>let⟨σ',S',h1⟩:=h B σ S a w hA;h' B σ' S' a w h1
theorem Qgr{s:St}(h:Weak s s')(hc:AWP P c Q s'):AWP P c Q s:=fun B hB σ S a w hA=>let⟨σ',S',h1⟩:=h B σ S a w hA;hc B hB σ' S' a w h1
def Qua{s s0:St}(I:Nat->St->Prop)(n0:Nat)(hw:Weak s s0)(h0:I n0 s0)
 (round: ∀n s,I n s->AWP P c (thenA (fun s'=> ∃s1 n1,Weak s' s1/\n1<n/\I n1 s1) Q) s):AWP P (.loop c) Q s:=by
 intro B hB σ S a w hA;obtain⟨σ0,S0,hA0⟩:=hw B σ S a w hA;refine wp_loop_ghost (fun n a w=> ∃s σ S,I n s/\SmA B σ S s a w) n0 ⟨s0,σ0,S0,h0,hA0⟩ ?_;rintro n a w ⟨s,σ,S,hI,hA⟩;refine wp_mono (round n s hI B hB σ S a w hA) ?_;rintro e a w ⟨s',σ',S',hq,hA'⟩;cases e with
 |normal=>
  obtain⟨s1,n1,h1,h2,h3⟩:=hq;obtain⟨σ2,S2,hA2⟩:=h1 B σ' S' a w hA';exact⟨n1,h2,s1,σ2,S2,h3,hA2⟩
 |_=>exact⟨s',σ',S',hq,hA'⟩
def keepE(env:List (Nat×AV)):List Nat->List (Nat×AV)
 |[]=>[]
 |t::r=>(t,look env t)::keepE env r
theorem QjA(env:List (Nat×AV)): ∀(ts:List Nat) (t:Nat),look (keepE env ts) t=look env t∨look (keepE env ts) t= .d .any
 :=by intro l;induction l<;>grind [look,keepE,Qd2]
def envLt(m:Nat):List (Nat×AV)->Bool
 |[]=>true
 |(_,x)::r=>x.lt m&&envLt m r
theorem Qh2{m:Nat}: ∀{env:List (Nat×AV)} (_:envLt m env=true) (t:Nat),(look env t).lt m=true
 |[],_,_=>rfl
 |(u,x)::r,h,t=>by
  simp only[envLt,Bool.and_eq_true] at h
  by_cases hu:u=t
  ·grind [Qdw]
  ·rw[Qd2 hu];exact Qh2 h.2 t
theorem QgM(ts:List Nat)(m:Nat){n:Nat}{env env':List (Nat×AV)}{H:List Blk}(he:keepE env ts=env')(hH:H.take m=H')(h1:envLt m env'=true)(h2:H'.all (Blk.lt m)=true):Weak ⟨n,env,H⟩ ⟨n,env',H'⟩:=by
 subst he;subst hH;intro B σ S a w hA;obtain⟨h3,h4⟩:=hA.sm.drop m h2;refine⟨σ,S,h3,hA.defers,hA.size,fun t=>?_⟩;rcases QjA env ts t with h|h
 ·have:=Qh2 h1 t
  simp only at this⊢;rw[h] at this⊢;exact h4 _ _ (hA.env t) this
 ·simp only;rw[h];exact .d _ _ (.any _)
def frzE(k:Nat)(C:Blk):List (Nat×AV)->List (Nat×AV)
 |[]=>[]
 |(t,x)::r=>(t,x.frz k C)::frzE k C r
theorem QiA(k:Nat)(C:Blk): ∀(env:List (Nat×AV)) (t:Nat),look (frzE k C env) t=(look env t).frz k C
 |[],_=>rfl
 |(u,x)::r,t=>by
  by_cases h:u=t
  ·subst h;rw[Qdw];exact Qdw _ _ _
  ·rw[Qd2 h]
   have:look (frzE k C ((u,x)::r)) t=look (frzE k C r) t:=Qd2 h _ _;rw[this];exact QiA k C r t
theorem Qg0(k:Nat){n:Nat}{env:List (Nat×AV)}{H:List Blk}(hC:H[k]? =some C):Weak ⟨n,env,H⟩ ⟨n,frzE k C env,(H.set k C.dead).map (Blk.frz k C)⟩:=by
 intro B σ S a w hA;obtain⟨σ',S',h1,h2,_⟩:=hA.sm.freeze hC;exact⟨σ',S',h1,hA.defers,hA.size,fun t=>by simp only;rw[QiA];exact h2 _ _ (hA.env t)⟩
def parE:Nat->List D->List (Nat×AV)
 |_,[]=>[]
 |i,d::r=>(i,.d d)::parE (i+1) r
theorem QlC: ∀(l:List D) (i t:Nat),(∃d,i<=t/\l[t -i]? =some d/\look (parE i l) t= .d d)∨look (parE i l) t= .d .any
 :=by intro l;induction l<;>grind [look,parE,Qd2]
def rvA(env:List (Nat×AV)):AW->AV
 |.tmp t=>look env t
 |.cell _ _=> .tup []
def rvV(tmps:Array A4):AW->A4
 |.tmp t=>tmps.getD t undef
 |.cell _ _=>undef
def rvS(tmps:Array A4):AW->Sem A4
 |.tmp t=>pure (tmps.getD t undef)
 |.cell a t=>do loadVar t (<-asAddr (tmps.getD a undef))
def Qfd(fn:Func)(tmps:Array A4):results fn tmps=(do
 let vs<-fn.results.mapM (rvS tmps)
 pure (if h:vs.size=1 then vs[0] else .tuple vs)):=by
 unfold results;rfl
def resD(env:List (Nat×AV)):List AW->Option D
 |[.tmp t]=>match look env t with
  |.d x=>some x
  |_=>none
 |rs=>(allD (rs.map (rvA env))).map .tup
def EndD(rs:List AW)(x:D):Ao->St->Prop
 |.normal,s| .ret,s=>resD s.env rs=some x
 |_,_=>False
theorem QhF(tmps:Array A4)(w:A5): ∀(rs:List AW) (env:List (Nat×AV)) (ds:List D),allD (rs.map (rvA env))=some ds->
 (rs.mapM (rvS tmps)).run P w= .ok (rs.map (rvV tmps)) w
 |[],_,_,_=>by simp
 |.tmp t::rs,env,ds,h=>by
  simp only[List.map_cons,rvA] at h;cases hl:look env t with
  |d x=>
   rw[hl] at h;simp only[allD] at h;cases hr:allD (rs.map (rvA env)) with
   |none=>grind
   |some ds'=>
    have ih:=QhF tmps w rs env ds' hr;rw[List.mapM_cons,AE];show((Sem.pure (tmps.getD t undef)).run P w).andThen _=_;rw[Sem.run_pure',AR,AE,ih,AR,CE];rfl
  |_=>grind [allD]
 |.cell _ _::rs,env,ds,h=>by simp[allD,rvA] at h
theorem Qg3{f:FuncId}{fn:Func}{args:List D}{x:D}{n:Nat}{rs:List AW}(hf:P.funcs[f]? =some fn)(hb:fn.body=some c)(hn:fn.ntmps=n)(hrs:fn.results=rs.toArray)(hle:Al args.length n=true)
 (h:AWP P c (EndD rs x) ⟨n,parE 0 args,[]⟩):Pure P f args x:=by
 have hlen:args.length<=n:=Ai hle;intro B σ S H w cargs hB hS hl hr;refine calls_of_wp hf hb ?_;have hG:=hB
 have hA:SmA ⟨w,B.G,fun _=>False,S⟩ (fun _=>none) S ⟨n,parE 0 args,[]⟩ {tmps:=cargs.toArray++AT (fn.ntmps -cargs.toArray.size) undef,defers:=[]} w:=by
  refine⟨⟨rfl,rfl,rfl,AY _,fun _ _ _=>rfl,fun _ h=>h,fun b hb=>⟨(hS.sUp b hb).1,.inl hb⟩,fun k b hk=>by simp at hk,fun k k' b hk=>by simp at hk,fun k C hC=>by simp at hC⟩,rfl,?_,fun t=>?_⟩
  ·grind
  ·rcases QlC args 0 t with⟨d,_,h2,h3⟩|h
   ·simp only
    rw[h3];have ht:t<cargs.length:=by grind
    have:(cargs.toArray++AT (fn.ntmps -cargs.toArray.size) undef).getD t undef=cargs[t]:=by
     rw[A8,Array.getElem?_append_left (by omega)];simp[ht]
    rw[this];exact .d _ _ (hr t d _ (by omega) (A1 ht))
   ·simp only
    rw[h];exact .d _ _ (.any _)
 have hB':Gd ⟨w,B.G,fun _=>False,S⟩:=hB.again hS S;refine wp_mono (h _ hB' _ _ _ _ hA) ?_;rintro e a w' ⟨s',σ',S',hq,hA'⟩
 have fin:resD s'.env rs=some x->a.defers=[]/\ ∃v,(results fn a.tmps).run P w'= .ok v w'/\ ∃v',Ag v= .returned v'/\AH w.heap.size w w'/\RelD (fun b=>S b∨w.heap.size<=b/\b<w'.heap.size) w' x v':=by
  intro hx;have hbel:AH w.heap.size w w':=⟨hA'.sm.os,hA'.sm.tape,hA'.sm.output,hA'.sm.size,fun k hk=>hA'.sm.keep k hk fun h=>h⟩
  have hup: ∀d v,RelD S' w' d v->RelD (fun b=>S b∨w.heap.size<=b/\b<w'.heap.size) w' d v:=fun d v h=>h.mono (fun b hb=>by
   obtain⟨h1,h2⟩:=hA'.sm.sUp b hb
   grind) fun _ _=>rfl
  refine⟨hA'.defers,?_⟩
  have gen: ∀ds,allD (rs.map (rvA s'.env))=some ds->(fn.results.mapM (rvS a.tmps)).run P w'= .ok (rs.map (rvV a.tmps)).toArray w':=fun ds hds=>by
   rw[hrs,Array.mapM_eq_mapM_toList,Sem.run_map,QhF a.tmps w' rs s'.env ds hds];rfl
  have rel: ∀ds,allD (rs.map (rvA s'.env))=some ds-> ∀(i:Nat) d v,ds[i]? =some d->(rs.map (rvV a.tmps))[i]? =some v->RelD S' w' d v:=by
   intro ds hds i d v hd hv;have he:=QfF hds;have h2:=congrArg (fun l=>l[i]?) he;simp only[A6,hd] at h2 hv;cases hri:rs[i]? with
   |none=>grind
   |some r=>
    rw[hri] at hv h2;cases r with
    |tmp t=>
     simp only[AS,AC,rvA,rvV] at hv h2;subst hv;have:=hA'.env t;rw[h2] at this;cases this;omega
    |cell _ _=>simp[rvA] at h2
  have hlen': ∀ds,allD (rs.map (rvA s'.env))=some ds->ds.length=(rs.map (rvV a.tmps)).length:=fun ds hds=>by
   have:=congrArg CO (QfF hds)
   grind
  rw[Qfd]
  by_cases h1:rs.length=1
  ·match rs,h1 with
   |[.tmp t],_=>
    simp only[resD] at hx;cases hlk:look s'.env t with
    |d y=>
     rw[hlk] at hx;obtain rfl:=A0 hx;have hds:allD ([ResultVar.tmp t].map (rvA s'.env))=some [y]:=by simp[hlk,allD,rvA]
     refine⟨a.tmps.getD t undef,?_,_,rfl,hbel,hup _ _ (rel _ hds 0 y _ rfl rfl)⟩;rw[AE,gen _ hds];rfl
    |_=>grind
   |[.cell _ _],_=>simp[resD,allD,rvA] at hx
  ·have hx':(allD (rs.map (rvA s'.env))).map D.tup=some x:=by
    unfold resD at hx
    grind
   cases hds:allD (rs.map (rvA s'.env)) with
   |none=>grind
   |some ds=>
    rw[hds] at hx';obtain rfl:=A0 hx';refine⟨.tuple (rs.map (rvV a.tmps)).toArray,?_,_,rfl,hbel,.tup ds _ (hlen' ds hds) fun i d v hd hv=>hup _ _ (rel _ hds i d v hd hv)⟩;rw[AE,gen _ hds];simp[h1]
 cases e with
 |normal=>exact fin hq
 |ret=>exact fin hq
 |_=>exact hq.elim
theorem Ev.trans{σ1 σ2:Sg}{S S1 S2:Nat->Prop}{H H1 H2:List Blk}{w1 w2:A5}(a:Ev σ S H w σ1 S1 H1 w1)(b:Ev σ1 S1 H1 w1 σ2 S2 H2 w2):Ev σ S H w σ2 S2 H2 w2:=
 ⟨fun x hx=>b.s x (a.s x hx),fun x hx=>(b.same x (a.s x hx)).trans (a.same x hx),fun k g cells hk=>by
   obtain⟨g1,c1,e1,e2,e3⟩:=a.row k g cells hk;obtain⟨g2,c2,e4,e5,e6⟩:=b.row k g1 c1 e1
   grind,
  fun k g sz T rows hk=>by
   obtain⟨g1,c1,e1,e2,e3⟩:=a.arr k g sz T rows hk;obtain⟨g2,c2,e4,e5,e6⟩:=b.arr k g1 sz T c1 e1
   grind,
  fun k g l hk=>by
   obtain⟨g1,c1,e1,e2,e3⟩:=a.mp k g l hk;obtain⟨g2,c2,e4,e5,e6⟩:=b.mp k g1 c1 e1
   grind⟩
def Eff(P:A7)(o:AB)(env:List (Nat×AV))(H:List Blk)(x:AV)(H':List Blk):Prop:=
 ∀B σ S a w,Gd B->Sm B σ S H w->(∀u∈o.op.operands,Rel σ S H w (aval env u) (a.eval u))->
  ∀(K:CG->A5->Prop) (Q:Ao->CG->A5->Prop),(∀v w' σ' S',Sm B σ' S' H' w'->Rel σ' S' H' w' x v->Ev σ S H w σ' S' H' w'->K (a.put o.dst v) w')->o.wp P a w K Q
def EffE(P:A7)(o:AB)(env:List (Nat×AV))(H:List Blk)(R:AV->List Blk->Prop):Prop:=
 ∀B σ S a w,Gd B->Sm B σ S H w->(∀u∈o.op.operands,Rel σ S H w (aval env u) (a.eval u))->
  ∀(K:CG->A5->Prop) (Q:Ao->CG->A5->Prop),(∀x H',R x H'-> ∀v w' σ' S',Sm B σ' S' H' w'->Rel σ' S' H' w' x v->Ev σ S H w σ' S' H' w'->K (a.put o.dst v) w')->o.wp P a w K Q
def Eff.e{P:A7}{env:List (Nat×AV)}{H:List Blk}(h:Eff P o env H x H'):EffE P o env H fun y K=>y=x/\K=H':=
 fun B σ S a w hB hS hop K Q kk=>h B σ S a w hB hS hop K Q (kk _ _ ⟨rfl,rfl⟩)
theorem SmA.next'{S:Nat->Prop}{n:Nat}{env:List (Nat×AV)}{H:List Blk}{dst:Option Tmp}{v:A4}(h:SmA B σ S ⟨n,env,H⟩ a w)(hd:dstOk n dst=true)
 (hS:Sm B σ' S' H' w') (hR:Rel σ' S' H' w' x v) (hev:Ev σ S H w σ' S' H' w'):SmA B σ' S' ⟨n,putE env dst x,H'⟩ (a.put dst v) w':=by
 refine⟨hS,by cases dst<;>exact h.defers,?_,fun t=>?_⟩
 ·cases dst
  ·exact h.size
  ·simp only[BF,Ad];exact h.size
 ·show Rel _ _ _ _ (look (putE env dst x) t) _
  cases hdd:dst with
  |none=>exact(h.env t).mono hev
  |some d=>
   rw[hdd] at hd;have hlt:d<a.tmps.size:=by rw[h.size];simpa[dstOk] using hd
   by_cases hdt:d=t
   ·subst hdt
    have:(a.put (some d) v).tmps.getD d undef=v:=by
     simp only[BF]
     simp_all
    rw[this];show Rel _ _ _ _ (look ((d,x)::env) d) _
    grind [Qdw]
   ·have:(a.put (some d) v).tmps.getD t undef=a.tmps.getD t undef:=by
     simp only[BF]
     simp_all
    rw[this];show Rel _ _ _ _ (look ((d,x)::env) t) _;rw[Qd2 hdt];exact(h.env t).mono hev
def QoB{P:A7}{ops:Array AB}{l:List AB}{n:Nat}{env:List (Nat×AV)}{H:List Blk}(hl:Eff P o env H x H')(hd:dstOk n o.dst=true)(hg:gdOk ops n o=true)
 (hw:awanted ops env o=some true) (h:ASeq P ops Q l ⟨n,putE env o.dst x,H'⟩):ASeq P ops Q (o::l) ⟨n,env,H⟩:=by
 intro B hB σ S a w hA;unfold wpList;rw[if_pos (QfG hA hw (QeN hg))];exact .inl (hl B σ S a w hB hA.sm (fun u _=>Qeo fun t _=>hA.env t) _ _ fun v w' σ' S' h1 h2 h3=>h B hB σ' S' _ w' (hA.next' hd h1 h2 h3))
def Qmn{P:A7}{ops:Array AB}{l:List AB}{n:Nat}{env:List (Nat×AV)}{H:List Blk}{R:AV->List Blk->Prop}(hl:EffE P o env H R)(hd:dstOk n o.dst=true)(hg:gdOk ops n o=true)
 (hw:awanted ops env o=some true) (h: ∀x H',R x H'->ASeq P ops Q l ⟨n,putE env o.dst x,H'⟩):ASeq P ops Q (o::l) ⟨n,env,H⟩:=by
 intro B hB σ S a w hA;unfold wpList;rw[if_pos (QfG hA hw (QeN hg))];exact .inl (hl B σ S a w hB hA.sm (fun u _=>Qeo fun t _=>hA.env t) _ _ fun x H' hx v w' σ' S' h1 h2 h3=>h x H' hx B hB σ' S' _ w' (hA.next' hd h1 h2 h3))
def QhU{P:A7}{ops:Array AB}{l:List AB}{n:Nat}{env:List (Nat×AV)}{H:List Blk}{d:Tmp}{op:Op}{ty:AD}{pos:String}{after:Array CB}{gd:Option (Nat×Bool)}
 (hl:Eff P ⟨some d,op,ty,pos,after,gd⟩ env H x H') (hw:awanted ops env ⟨some d,op,ty,pos,after,gd⟩=some true:=by rfl) (hd:AZ d n=true:=by rfl) (hg:gdOk ops n ⟨some d,op,ty,pos,after,gd⟩=true:=by rfl)
 (k:ASeq P ops Q l ⟨n,(d,x)::env,H'⟩):ASeq P ops Q (⟨some d,op,ty,pos,after,gd⟩::l) ⟨n,env,H⟩:=QoB hl hd hg hw k
def Qjl{P:A7}{ops:Array AB}{l:List AB}{n:Nat}{env:List (Nat×AV)}{H:List Blk}{op:Op}{ty:AD}{pos:String}{after:Array CB}{gd:Option (Nat×Bool)}
 (hl:Eff P ⟨none,op,ty,pos,after,gd⟩ env H x H') (hw:awanted ops env ⟨none,op,ty,pos,after,gd⟩=some true:=by rfl) (hg:gdOk ops n ⟨none,op,ty,pos,after,gd⟩=true:=by rfl)
 (k:ASeq P ops Q l ⟨n,env,H'⟩):ASeq P ops Q (⟨none,op,ty,pos,after,gd⟩::l) ⟨n,env,H⟩:=QoB hl rfl hg hw k
theorem Qit{P:A7}{a:CU}{v c:A4}(hc:w.cell? a=some c)(hf:w.frozen? a=false)(ho:v.oneCell'=true):(store a v).run P w= .ok () (w.setCell a v):=by grind [run_store]
theorem Qln{P:A7}{B:Bs}{S:Nat->Prop}{k g b:Nat}: ∀(l:List AV) (vs:List A4) {σ:Sg} {H:List Blk} {w:A5} {cells:List AV} {o:Nat} (i:Nat),Sm B σ S H w->σ k=some b->H[k]? =some (.row g cells)->vs.length=l.length->
 (∀(j:Nat) x,l[j]? =some x-> ∃v,vs[j]? =some v/\Rel σ S H w x v/\v.oneCell'=true)->o+i+l.length<=cells.length->
 ∃w',(storeCells ⟨b,o,none⟩ vs i).run P w= .ok () w'/\Sm B σ S (H.set k (.row g (setAt cells (o+i) l))) w'/\Ev σ S H w σ S (H.set k (.row g (setAt cells (o+i) l))) w'
 |[],[],σ,H,w,cells,o,i,hS,_,hk,_,_,_=>by
  have hset:H.set k (.row g cells)=H:=by
   apply List.ext_getElem?
   grind
  exact⟨w,rfl,by grind [setAt],by grind [setAt,Ev.refl]⟩
 |[],v::vs,_,_,_,_,_,_,_,_,_,hl,_,_=>by simp at hl
 |x::l,[],_,_,_,_,_,_,_,_,_,hl,_,_=>by simp at hl
 |x::l,v::vs,σ,H,w,cells,o,i,hS,hb,hk,hl,hr,hlen=>by
  obtain⟨v',hv',hx,ho⟩:=hr 0 x rfl;simp at hv';subst hv';have hlt:o+i<cells.length:=by grind
  have hkl:k<H.length:=(A3.1 hk).1;rcases hS.blk k _ hk with⟨b',cs,T,hb',hc,hrel⟩|⟨hb',_⟩;rotate_left
  ·grind
  rw[hb] at hb';obtain rfl:=A0 hb';obtain⟨c,hcc,_⟩:=hrel (o+i) _ (A1 hlt);have hcell:w.cell? ⟨b,o+i,none⟩=some c:=by grind [cell_of_row]
  have hfr:w.frozen? ⟨b,o+i,none⟩=false:=frozen_of_row w b (o+i) cs T hc;obtain⟨h1,h2⟩:=hS.setRow hb hk hx hlt
  obtain⟨w',h3,h4,h5⟩:=Qln l vs (cells:=cells.set (o+i) x) (o:=o) (i+1) h1 hb (AQ hkl) (by grind)
   (fun j y hy=>by
     obtain⟨u,hu,hru,hou⟩:=hr (j+1) y (by grind)
     exact⟨u,by grind,hru.mono h2,hou⟩) (by grind)
  refine⟨w',?_,?_,?_⟩
  ·unfold storeCells
   rw[AE];have:(⟨b,o,none⟩:CU).add i=⟨b,o+i,none⟩:=Qea b o i;rw[this,Qit hcell hfr ho,AR];exact h3
  ·grind [CF,setAt]
  ·simp only[CF] at h5
   have:=h2.trans h5
   grind [setAt]
def AV.one:AV->Bool
 |.d x=>x.cell
 |.agg _| .tup _| .gh _ _=>false
 |_=>true
theorem AV.one_rel{S:Nat->Prop}{H:List Blk}{v:A4}(h:Rel σ S H w x v)(ho:x.one=true):v.oneCell'=true:=by
 cases h with
 |d d v h=>exact D.cell_one h ho
 |agg=>cases ho
 |tup=>cases ho
 |gh=>cases ho
 |fn=>rfl
 |_=>assumption
theorem QlT{P:A7}{F:TyF}{v:AG}{g o:Nat}{cells l:List AV}{ty:AD}{pos:String}{after:Array CB}{gd:Option (Nat×Bool)}{env:List (Nat×AV)}{H:List Blk}
 (hT:tyf P T=some F) (hu:aval env u= .ptr k g o) (hk:H[k]? =some (.row g cells)) (hv:(aval env v).cells=some l) (hone:l.all AV.one=true) (hsz:l.length=F.size) (hlen:o+l.length<=cells.length):
 Eff P ⟨none,.store T u v,ty,pos,after,gd⟩ env H (.d (.v undef)) (H.set k (.row g (setAt cells o l))):=by
 intro B σ S a w hB hS hop K Q kk;have h1:=hop u (by simp[A2]);rw[hu] at h1;generalize hx:a.eval u=x at h1;cases h1 with
 |ptr _ _ _ _ _ g' cells' hk' hg hh=>
  rw[hk] at hk';obtain⟨rfl,rfl⟩:g=g'/\cells=cells':=by grind
  obtain⟨b,hb,rfl⟩:=hh rfl;obtain⟨hs1,hs2⟩:=AV.cells_rel (hop v (by simp[A2])) hv
  obtain⟨w',h3,h4,h5⟩:=Qln (P:=P) l (a.eval v).cells.toList (o:=o) 0 hS hb hk (by omega) (fun j y hy=>by
   grind [AV.one_rel]) (by omega)
  have hrun:(execOp a.eval ⟨none,.store T u v,ty,pos,after,gd⟩).run P w= .ok .skip w':=by
   grind [execOp,Bx,AK,storeVar,AE,CE,AR,QdY]
  unfold CD;rw[hrun];exact kk undef w' σ S (by omega) (.d _ _ (.v _)) (by omega)
theorem Qgp{P:A7}{F:TyF}{v:AG}{g:Nat}{rows:List (List D)}{x:D}{ty:AD}{pos:String}{after:Array CB}{gd:Option (Nat×Bool)}{env:List (Nat×AV)}{H:List Blk}
 (hT:tyf P T=some F) (hu:aval env u= .ept k g i j) (hk:H[k]? =some (.arr g sz T0 rows)) (hr:rows[i]? =some r) (hj:j<r.length) (hv:aval env v= .d x) (hone:x.cell=true) (hsz:F.size=1):
 Eff P ⟨none,.store T u v,ty,pos,after,gd⟩ env H (.d (.v undef)) (H.set k (.arr g sz T0 (rows.set i (r.set j x)))):=by
 intro B σ S a w hB hS hop K Q kk;have h1:=hop u (by simp[A2]);have h2:=hop v (by simp[A2]);rw[hu] at h1;rw[hv] at h2;generalize hx:a.eval u=y at h1;cases h2 with
 |d _ _ h2=>
  have ho:=D.cell_one h2 hone;cases h1 with
  |ept _ _ _ _ _ _ g' sz' T' rows' hk' hg hh=>
   rw[hk] at hk';obtain⟨rfl,rfl,rfl,rfl⟩:g=g'/\sz=sz'/\T0=T'/\rows=rows':=by grind
   obtain⟨b,hb,rfl⟩:=hh rfl;obtain⟨_,hbk⟩:=hS.blk k _ hk;rcases hbk with⟨b',cs,hb',hc,hrel⟩|⟨hb',_⟩;rotate_left
   ·grind
   rw[hb] at hb';obtain rfl:=A0 hb';obtain⟨c,hcc,_⟩:=hrel i j r _ hr (A1 hj);have hcell:w.cell? ⟨b,i*sz+j,none⟩=some c:=by grind [cell_of_row]
   have hfr:w.frozen? ⟨b,i*sz+j,none⟩=false:=frozen_of_row w b _ cs T0 hc;obtain⟨h4,h5⟩:=hS.setArr hb hk hr hj h2
   have hrun:(execOp a.eval ⟨none,.store T u v,ty,pos,after,gd⟩).run P w= .ok .skip (w.setCell ⟨b,i*sz+j,none⟩ (a.eval v)):=by
    simp_all[execOp,Bx,AK,storeVar,QdY,QeC,storeCells,Qea,Qit]
   unfold CD;rw[hrun];exact kk undef _ σ S h4 (.d _ _ (.v _)) h5
