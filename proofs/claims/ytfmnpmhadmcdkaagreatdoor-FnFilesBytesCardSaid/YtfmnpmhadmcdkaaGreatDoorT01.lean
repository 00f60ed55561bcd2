/- Of fby_card; no condition. -/
import Derived.WalkKit
import Derived.Orders
import Derived.KernelRfl
import Derived.Below
import Derived.Laws.AppendOwn
import Derived.Shelf.SlSortCmp.WholeK
import Derived.Test.YtfmnpmhadmcdkaaGreatDoorProg
set_option linter.all false
open Array renaming getElem?_eq_some_iff->AH,size_append->AX
open Bool renaming and_false->AC,false_and->AD,and_self->AE
open Go renaming Value->A4,World->AK,TypeId->Aj
open Go.Builtin renaming zeroCells->A7,append_->Aq
open Go.Proofs.SlLaysF0 renaming n6->AL
open Go.Proofs.Tryz renaming underlying218->AN,underlying276->AO,underlying277->AP,underlying264->AQ,underlying271->AR,underlying298->AS,underlying224->AT,underlying314->AU,underlying238->AW,zeroValue218->AZ,zeroValue276->Aa,zeroValue277->Ab,underlying51->Ac,zeroValue264->Ad,zeroValue271->Ae,zeroValue298->Af,zeroValue224->Ag,zeroValue314->Ah,zeroValue238->Ai,underlying0->Ak,underlying3->Al,underlying4->Am,underlying5->An,underlying9->Ao,zeroValue51->Ap,zeroValue0->As,zeroValue3->Au,zeroValue4->Av,zeroValue5->Ax,zeroValue9->Ay,sizeOf218->Az,sizeOf276->B0,sizeOf277->B1,sizeOf264->B2,sizeOf271->B3,sizeOf298->B4,sizeOf224->B5,sizeOf314->B6,sizeOf238->B7,isAgg218->B9,isAgg276->BA,isAgg277->BB,sizeOf51->BC,isAgg264->BD,isAgg271->BE,isAgg298->BF,isAgg224->BG,isAgg314->BH,isAgg238->BI,func204->BM,func265->BN,func266->BO,func295->BP,func296->BQ,sizeOf0->BR,sizeOf3->BS,sizeOf4->BT,sizeOf5->BU,sizeOf9->BV,isAgg51->BW,isAgg0->BX,isAgg3->BY,isAgg4->BZ,isAgg5->Ba,isAgg9->Bb,prog->Bc
open Go.Shelf renaming Ren->BL
open List renaming getElem?_eq_some_iff->A1,getElem?_set_self->A2,getElem?_set_ne->A3,length_set->A5,getElem?_append_right->A8,getElem?_append_left->AA,length_append->AB,mem_of_getElem?->AF,eq_nil_of_length_eq_zero->AG,getElem?_map->AI,getElem?_eq_getElem->AJ,length_map->Ar
open Nat renaming le_refl->A6,mul_le_mul_right->A9,add_mul->AM,blt->AY,lt_irrefl->B8,le_of_lt->BJ,zero_add->BK
open Option.some renaming inj->A0
namespace Go.Proofs.YtfmnpmhadmcdkaaGreatDoor
noncomputable section
open Go.RowKit
namespace Aw
variable{b o k sz j κ i:Nat}{w w':AK}{S':Nat->Prop}{T:Aj}{cs:Array A4}
inductive D where
 |v (x:A4)
 |agg (l:List D)
 |tup (l:List D)
 |pd (l:List D)
 |sl (c:Bool) (n:Nat) (l:List (List D))
 |mp (l:List (A4×D))
 |any
inductive RelD(S:Nat->Prop)(w:AK):D->A4->Prop
 |any (x:A4):RelD S w .any x
 |v (x:A4):RelD S w (.v x) x
 |agg (l:List D) (cs:List A4) (hl:l.length=cs.length) (h: ∀(i:Nat) d x,l[i]? =some d->cs[i]? =some x->RelD S w d x):RelD S w (.agg l) (.agg cs.toArray)
 |tup (l:List D) (cs:List A4) (hl:l.length=cs.length) (h: ∀(i:Nat) d x,l[i]? =some d->cs[i]? =some x->RelD S w d x):RelD S w (.tup l) (.tuple cs.toArray)
 |pd (l:List D) (b o:Nat) (g:Nat->A4) (hS:S b) (hc: ∀(j:Nat) d,l[j]? =some d->w.cell? ⟨b,o+j,none⟩=some (g j))
   (h: ∀(j:Nat) d,l[j]? =some d->RelD S w d (g j)):RelD S w (.pd l) (.pointer (some ⟨b,o,none⟩))
 |slnil (c:Bool) (n:Nat) (a:Option Addr) (cap:Nat):RelD S w (.sl c n []) (.slice a 0 cap)
 |sl (c:Bool) (n:Nat) (l:List (List D)) (b o cap:Nat) (g:Nat->Nat->A4) (hS:S b)
   (hn: ∀r∈l,r.length=n) (hcap:c=true->l.length<=cap)
   (hc: ∀(i j:Nat) r d,l[i]? =some r->r[j]? =some d->w.cell? ⟨b,o+i*n+j,none⟩=some (g i j))
   (h: ∀(i j:Nat) r d,l[i]? =some r->r[j]? =some d->RelD S w d (g i j)):RelD S w (.sl c n l) (.slice (some ⟨b,o,none⟩) l.length cap)
 |mp (l:List (A4×D)) (b:Nat) (es:Array MapEntry) (clock:Nat) (hS:S b) (hb:w.heap[b]? =some (.map es clock)) (hl:es.size=l.length)
   (hk: ∀(i:Nat) k d e,l[i]? =some (k,d)->es[i]? =some e->e.key=k)
   (h: ∀(i:Nat) k d e,l[i]? =some (k,d)->es[i]? =some e->RelD S w d e.val):RelD S w (.mp l) (.map (some b))
theorem QfN(h:w'.heap[b]? =w.heap[b]?):w'.cell? ⟨b,o,none⟩=w.cell? ⟨b,o,none⟩:=by
 grind [World.cell?]
def RelD.mono{S:Nat->Prop}{d:D}{x:A4}(h:RelD S w d x)(hS: ∀b,S b->S' b)(hw: ∀b,S b->w'.heap[b]? =w.heap[b]?):RelD S' w' d x:=by
 induction h with
 |any x=>exact .any x
 |v x=>exact .v x
 |agg l cs hl h ih=>exact .agg l cs hl ih
 |tup l cs hl h ih=>exact .tup l cs hl ih
 |pd l b o g hb hc h ih=>exact .pd l b o g (hS b hb) (fun j d hj=>(QfN (hw b hb)).trans (hc j d hj)) ih
 |slnil c n a cap=>exact .slnil c n a cap
 |sl c n l b o cap g hb hn hcap hc h ih=>exact .sl c n l b o cap g (hS b hb) hn hcap (fun i j r d hi hj=>(QfN (hw b hb)).trans (hc i j r d hi hj)) ih
 |mp l b es clock hb hm hl hk h ih=>exact .mp l b es clock (hS b hb) ((hw b hb).trans hm) hl hk ih
inductive AV where
 |d (x:D)
 |agg (l:List AV)
 |tup (l:List AV)
 |ptr (k g o:Nat)
 |ept (k g i j:Nat)
 |osl (k g off len:Nat)
 |rsl (k g n:Nat)
 |fn (f:Fn) (cap:List AV)
 |gh (l:List AV) (vs:List A4)
 |mp (k g:Nat)
inductive Blk where
 |none
 |row (g:Nat) (cells:List AV)
 |arr (g sz:Nat) (T:Aj) (rows:List (List D))
 |mp (g:Nat) (l:List (A4×D))
abbrev Sg:=Nat->Option Nat
def OSl(σ:Sg)(w:AK)(k sz rn off len:Nat)(v:A4):Prop:=
 off+len<=rn/\(
 (∃b cap cs T,σ k=some b/\len<=cap/\cap<=maxLen/\v= .slice (some ⟨b,off*sz,none⟩) len cap/\w.heap[b]? =some (.cells cs T (0,0))/\cs.size=(off+cap)*sz)∨
 (σ k=none/\len=0/\v= .slice none 0 0))
inductive Rel(σ:Sg)(S:Nat->Prop)(H:List Blk)(w:AK):AV->A4->Prop
 |d (x:D) (v:A4) (h:RelD S w x v):Rel σ S H w (.d x) v
 |agg (l:List AV) (cs:List A4) (hl:l.length=cs.length) (h: ∀(i:Nat) d x,l[i]? =some d->cs[i]? =some x->Rel σ S H w d x):Rel σ S H w (.agg l) (.agg cs.toArray)
 |tup (l:List AV) (cs:List A4) (hl:l.length=cs.length) (h: ∀(i:Nat) d x,l[i]? =some d->cs[i]? =some x->Rel σ S H w d x):Rel σ S H w (.tup l) (.tuple cs.toArray)
 |ptr (k g o:Nat) (v:A4) (ho:v.oneCell'=true) (g':Nat) (cells:List AV) (hk:H[k]? =some (.row g' cells)) (hg:g<=g')
   (h:g'=g-> ∃b,σ k=some b/\v= .pointer (some ⟨b,o,none⟩)):Rel σ S H w (.ptr k g o) v
 |ept (k g i j:Nat) (v:A4) (ho:v.oneCell'=true) (g' sz:Nat) (T:Aj) (rows:List (List D)) (hk:H[k]? =some (.arr g' sz T rows)) (hg:g<=g')
   (h:g'=g-> ∃b,σ k=some b/\v= .pointer (some ⟨b,i*sz+j,none⟩)):Rel σ S H w (.ept k g i j) v
 |osl (k g off len:Nat) (v:A4) (ho:v.oneCell'=true) (g' sz:Nat) (T:Aj) (rows:List (List D)) (hk:H[k]? =some (.arr g' sz T rows)) (hg:g<=g')
   (h:g'=g->OSl σ w k sz rows.length off len v):Rel σ S H w (.osl k g off len) v
 |rsl (k g n:Nat) (v:A4) (ho:v.oneCell'=true) (g':Nat) (cells:List AV) (hk:H[k]? =some (.row g' cells)) (hg:g<=g')
   (h:g'=g-> ∃b,σ k=some b/\v= .slice (some ⟨b,0,none⟩) n n):Rel σ S H w (.rsl k g n) v
 |fn (f:Fn) (l:List AV) (cs:List A4) (hl:l.length=cs.length) (h: ∀(i:Nat) d x,l[i]? =some d->cs[i]? =some x->Rel σ S H w d x):Rel σ S H w (.fn f l) (.func f #[] cs.toArray)
 |gh (l:List AV) (cs:List A4) (u:A4) (hl:l.length=cs.length) (h: ∀(i:Nat) d x,l[i]? =some d->cs[i]? =some x->Rel σ S H w d x):Rel σ S H w (.gh l cs) u
 |mp (k g:Nat) (v:A4) (ho:v.oneCell'=true) (g':Nat) (l:List (A4×D)) (hk:H[k]? =some (.mp g' l)) (hg:g<=g') (h:g'=g-> ∃b,σ k=some b/\v= .map (some b)):Rel σ S H w (.mp k g) v
structure Ev(σ:Sg)(S:Nat->Prop)(H:List Blk)(w:AK)(σ':Sg)(S':Nat->Prop)(H':List Blk)(w':AK):Prop where
 s: ∀b,S b->S' b
 same: ∀b,S b->w'.heap[b]? =w.heap[b]?
 row: ∀k g cells,H[k]? =some (.row g cells)-> ∃g' cells',H'[k]? =some (.row g' cells')/\g<=g'/\(g'=g-> ∀b,σ k=some b->σ' k=some b)
 arr: ∀k g sz T rows,H[k]? =some (.arr g sz T rows)-> ∃g' rows',H'[k]? =some (.arr g' sz T rows')/\g<=g'/\(g'=g->σ' k=σ k/\rows'.length=rows.length/\
  ∀b cs T,σ k=some b->w.heap[b]? =some (.cells cs T (0,0))-> ∃cs',w'.heap[b]? =some (.cells cs' T (0,0))/\cs'.size=cs.size)
 mp: ∀k g l,H[k]? =some (.mp g l)-> ∃g' l',H'[k]? =some (.mp g' l')/\g<=g'/\(g'=g-> ∀b,σ k=some b->σ' k=some b)
variable{x:AV}{H':List Blk}{σ' σ:Sg}
theorem Rel.mono{S:Nat->Prop}{H:List Blk}{v:A4}
 (h:Rel σ S H w x v) (e:Ev σ S H w σ' S' H' w'):Rel σ' S' H' w' x v:=by
 induction h with
 |d x v h=>exact .d x v (h.mono e.s e.same)
 |agg l cs hl h ih=>exact .agg l cs hl ih
 |tup l cs hl h ih=>exact .tup l cs hl ih
 |ptr k g o v ho g' cells hk hg h=>
  obtain⟨g2,cells2,h1,h2,h3⟩:=e.row k g' cells hk;refine .ptr k g o v ho g2 cells2 h1 (by omega) fun hg2=>?_
  grind
 |rsl k g n v ho g' cells hk hg h=>
  obtain⟨g2,cells2,h1,h2,h3⟩:=e.row k g' cells hk;refine .rsl k g n v ho g2 cells2 h1 (by omega) fun hg2=>?_
  grind
 |ept k g i j v ho g' sz T rows hk hg h=>
  obtain⟨g2,rows2,h1,h2,h3⟩:=e.arr k g' sz T rows hk;refine .ept k g i j v ho g2 sz T rows2 h1 (by omega) fun hg2=>?_
  grind
 |osl k g off len v ho g' sz T rows hk hg h=>
  obtain⟨g2,rows2,h1,h2,h3⟩:=e.arr k g' sz T rows hk;refine .osl k g off len v ho g2 sz T rows2 h1 (by omega) fun hg2=>?_
  obtain⟨h4,h6,h5⟩:=h3 (by omega);obtain⟨h7,h⟩:=h (by omega);refine⟨by omega,?_⟩;rcases h with⟨b,cap,cs,T,hb,hl,hm,hv,hc,hs⟩|⟨hb,hl,hv⟩
  ·obtain⟨cs',h8,h9⟩:=h5 b cs T hb hc
   exact .inl ⟨b,cap,cs',T,h4.trans hb,hl,hm,hv,h8,by omega⟩
  grind
 |fn f l cs hl h ih=>exact .fn f l cs hl ih
 |gh l cs u hl h ih=>exact .gh l cs u hl ih
 |mp k g v ho g' l hk hg h=>
  obtain⟨g2,l2,h1,h2,h3⟩:=e.mp k g' l hk;refine .mp k g v ho g2 l2 h1 (by omega) fun hg2=>?_
  grind
theorem Ev.refl(σ:Sg)(S:Nat->Prop)(H:List Blk)(w:AK):Ev σ S H w σ S H w:=
 ⟨fun _ h=>h,fun _ _=>rfl,fun k g cells h=>⟨g,cells,h,A6 _,fun _ b hb=>hb⟩,fun k g sz T rows h=>⟨g,rows,h,A6 _,fun _=>⟨rfl,rfl,fun b cs T _ hc=>⟨cs,hc,rfl⟩⟩⟩,fun k g l h=>⟨g,l,h,A6 _,fun _ b hb=>hb⟩⟩
structure Bs where
 w0:AK
 G:Nat
 own:Nat->Prop
 S:Nat->Prop
def RowOk(σ:Sg)(S:Nat->Prop)(H:List Blk)(w:AK)(k:Nat)(cells:List AV):Prop:=
 (∃b cs T,σ k=some b/\w.heap[b]? =some (.cells cs T (0,0))/\ ∀(j:Nat) x,cells[j]? =some x-> ∃v,cs[j]? =some v/\Rel σ S H w x v)∨(σ k=none/\cells=[])
def ArrOk(σ:Sg)(S:Nat->Prop)(w:AK)(k sz:Nat)(T:Aj)(rows:List (List D)):Prop:=
 (∀r∈rows,r.length=sz)/\
 ((∃b cs,σ k=some b/\w.heap[b]? =some (.cells cs T (0,0))/\ ∀(i j:Nat) r d,rows[i]? =some r->r[j]? =some d-> ∃v,cs[i*sz+j]? =some v/\RelD S w d v)∨(σ k=none/\rows=[]))
def MpOk(σ:Sg)(S:Nat->Prop)(w:AK)(k:Nat)(l:List (A4×D)):Prop:=
 (∃b es clock,σ k=some b/\w.heap[b]? =some (.map es clock)/\(es.size=l.length/\clock=l.length/\ ∀(i:Nat) e,es[i]? =some e->e.born=i)/\ ∀(i:Nat) key d,l[i]? =some (key,d)-> ∃e,es[i]? =some e/\e.key=key/\RelD S w d e.val)∨(σ k=none/\l=[])
def BlkOk(σ:Sg)(S:Nat->Prop)(H:List Blk)(w:AK)(k:Nat):Blk->Prop
 |.none=>σ k= .none
 |.row _ cells=>RowOk σ S H w k cells
 |.arr _ sz T rows=>ArrOk σ S w k sz T rows
 |.mp _ l=>MpOk σ S w k l
structure Sm(B:Bs)(σ:Sg)(S:Nat->Prop)(H:List Blk)(w:AK):Prop where
 os:w.os=B.w0.os
 tape:w.tape=B.w0.tape
 output:w.output=B.w0.output
 size:B.w0.heap.size<=w.heap.size
 keep: ∀b,b<B.w0.heap.size-> ¬B.own b->w.heap[b]? =B.w0.heap[b]?
 sLo: ∀b,B.S b->S b
 sUp: ∀b,S b->b<w.heap.size/\(B.S b∨B.own b∨B.w0.heap.size<=b)
 σUp: ∀k b,k<H.length->σ k=some b->b<w.heap.size/\ ¬S b/\(B.own b∨B.w0.heap.size<=b)
 inj: ∀k k' b,k<H.length->k'<H.length->σ k=some b->σ k'=some b->k=k'
 blk: ∀k B,H[k]? =some B->BlkOk σ S H w k B
def RowOk.mono{S:Nat->Prop}{H:List Blk}{cells:List AV}(h:RowOk σ S H w k cells)(e:Ev σ S H w σ' S' H' w')(hσ:σ' k=σ k)
 (hw: ∀b,σ k=some b->w'.heap[b]? =w.heap[b]?):RowOk σ' S' H' w' k cells:=by
 rcases h with⟨b,cs,T,hb,hc,hr⟩|⟨hb,hc⟩
 ·refine .inl ⟨b,cs,T,hσ.trans hb,(hw b hb).trans hc,fun j x hx=>?_⟩
  obtain⟨v,hv,hx'⟩:=hr j x hx;exact⟨v,hv,hx'.mono e⟩
 ·exact .inr ⟨hσ.trans hb,hc⟩
theorem ArrOk.mono{S:Nat->Prop}{rows:List (List D)}(h:ArrOk σ S w k sz T rows)(hS: ∀b,S b->S' b)(hSw: ∀b,S b->w'.heap[b]? =w.heap[b]?)(hσ:σ' k=σ k)
 (hw: ∀b,σ k=some b->w'.heap[b]? =w.heap[b]?):ArrOk σ' S' w' k sz T rows:=by
 refine⟨h.1,?_⟩;rcases h.2 with⟨b,cs,hb,hc,hr⟩|⟨hb,hc⟩
 ·refine .inl ⟨b,cs,hσ.trans hb,(hw b hb).trans hc,fun i j r x hr' hx=>?_⟩
  obtain⟨v,hv,hx'⟩:=hr i j r x hr' hx;exact⟨v,hv,hx'.mono hS hSw⟩
 grind
def MpOk.mono{S:Nat->Prop}{l:List (A4×D)}(h:MpOk σ S w k l)(hS: ∀b,S b->S' b)(hSw: ∀b,S b->w'.heap[b]? =w.heap[b]?)(hσ:σ' k=σ k)
 (hw: ∀b,σ k=some b->w'.heap[b]? =w.heap[b]?):MpOk σ' S' w' k l:=by
 rcases h with⟨b,es,clock,hb,hm,hl,hr⟩|⟨hb,hc⟩
 ·refine .inl ⟨b,es,clock,hσ.trans hb,(hw b hb).trans hm,hl,fun i key d hi=>?_⟩
  obtain⟨e,he,hk,hd⟩:=hr i key d hi;exact⟨e,he,hk,hd.mono hS hSw⟩
 ·exact .inr ⟨hσ.trans hb,hc⟩
def BlkOk.mono{S:Nat->Prop}{H:List Blk}{B:Blk}(h:BlkOk σ S H w k B)(e:Ev σ S H w σ' S' H' w')(hσ:σ' k=σ k)
 (hw: ∀b,σ k=some b->w'.heap[b]? =w.heap[b]?):BlkOk σ' S' H' w' k B:=by
 cases B with
 |none=>exact hσ.trans h
 |row g cells=>exact RowOk.mono h e hσ hw
 |arr g sz T rows=>exact ArrOk.mono h e.s e.same hσ hw
 |mp g l=>exact MpOk.mono h e.s e.same hσ hw
theorem Ev.more{S:Nat->Prop}{H:List Blk}(hs: ∀b,S b->w'.heap[b]? =w.heap[b]?)
 (hH: ∀k B,H[k]? =some B->B≠ .none->H'[k]? =some B/\σ' k=σ k/\ ∀b,σ k=some b->w'.heap[b]? =w.heap[b]?):Ev σ S H w σ' S H' w':=by
 refine⟨fun _ h=>h,hs,fun k g cells h=>?_,fun k g sz T rows h=>?_,fun k g l h=>?_⟩
 ·grind
 ·grind
 grind
def upS(σ:Sg)(k:Nat)(b:Option Nat):Sg:=fun j=>if j=k then b else σ j
theorem Qdc(σ:Sg)(k:Nat)(b:Option Nat):upS σ k b k=b:=by simp[upS]
theorem QZ{b:Option Nat}(h:j≠k):upS σ k b j=σ j:=by simp[upS,h]
variable{B:Bs}
def Sm.sameHeap{S:Nat->Prop}{H:List Blk}(h:Sm B σ S H w)(hh:w'.heap=w.heap)(h1:w'.os=w.os)(h2:w'.tape=w.tape)(h3:w'.output=w.output):
 Sm B σ S H w'/\Ev σ S H w σ S H w':=by
 have e:Ev σ S H w σ S H w':=Ev.more (fun b _=>by rw[hh]) (fun k B hB _=>⟨hB,rfl,fun b _=>by rw[hh]⟩)
 refine⟨⟨h1.trans h.os,h2.trans h.tape,h3.trans h.output,by rw[hh];exact h.size,fun b hb hn=>by rw[hh];exact h.keep b hb hn,h.sLo,fun b hb=>by rw[hh];exact h.sUp b hb,
  fun k b hk hb=>by rw[hh];exact h.σUp k b hk hb,h.inj,fun k B hB=>(h.blk k B hB).mono e rfl fun b _=>by rw[hh]⟩,e⟩
theorem Sm.keepPlace{S:Nat->Prop}{H:List Blk}(h:Sm B σ S H w):
 Sm B (upS σ H.length none) S (H++[.none]) w/\Ev σ S H w (upS σ H.length none) S (H++[.none]) w:=by
 have hlt: ∀k B,H[k]? =some B->k<H.length:=fun k B hB=>(A1.1 hB).1
 have e:Ev σ S H w (upS σ H.length none) S (H++[.none]) w:=Ev.more (fun b _=>rfl) (fun k B hB _=>
  ⟨by grind,QZ (by grind),fun b _=>rfl⟩)
 refine⟨⟨h.os,h.tape,h.output,h.size,h.keep,h.sLo,h.sUp,fun k b hk hb=>?_,fun k k' b hk hk' hb hb'=>?_,fun k C hC=>?_⟩,e⟩
 ·by_cases hkl:k=H.length
  ·grind [Qdc]
  ·rw[QZ hkl] at hb;simp at hk;exact h.σUp k b (by omega) hb
 ·by_cases hkl:k=H.length
  ·grind [Qdc]
  ·by_cases hkl':k'=H.length
   ·grind [Qdc]
   ·rw[QZ hkl] at hb;rw[QZ hkl'] at hb';simp at hk hk'
    exact h.inj k k' b (by omega) (by omega) hb hb'
 ·by_cases hkl:k<H.length
  ·rw[AA hkl] at hC
   exact(h.blk k C hC).mono e (QZ (by omega)) fun b _=>rfl
  ·have hk:k=H.length:=by
    grind
   subst hk;rw[A8 (A6 _)] at hC;simp at hC;subst hC;exact Qdc _ _ _
def Lat:Blk->Blk->Prop
 |.none,_=>True
 |.row g _,.row g' _=>g<g'
 |.arr g sz T _,.arr g' sz' T' _=>g<g'/\sz'=sz/\T'=T
 |.mp g _,.mp g' _=>g<g'
 |_,_=>False
variable{C:Blk}
theorem Sm.fill{S:Nat->Prop}{H:List Blk}{o:Obj}{C0:Blk}(h:Sm B σ S H w)(hκ:H[κ]? =some C0)(hL:Lat C0 C)
 (hC:Ev σ S H w (upS σ κ (some w.heap.size)) S (H.set κ C) (w.alloc o)->BlkOk (upS σ κ (some w.heap.size)) S (H.set κ C) (w.alloc o) κ C):
 Sm B (upS σ κ (some w.heap.size)) S (H.set κ C) (w.alloc o)/\Ev σ S H w (upS σ κ (some w.heap.size)) S (H.set κ C) (w.alloc o):=by
 have hκl:κ<H.length:=(A1.1 hκ).1;have hold: ∀b,b<w.heap.size->(w.alloc o).heap[b]? =w.heap[b]? :=fun b hb=>Below.heap_alloc w o b hb
 have hsz:(w.alloc o).heap.size=w.heap.size+1:=World.size_alloc _ _
 have e:Ev σ S H w (upS σ κ (some w.heap.size)) S (H.set κ C) (w.alloc o):=by
  have hk: ∀j D,H[j]? =some D->j≠κ->(H.set κ C)[j]? =some D/\upS σ κ (some w.heap.size) j=σ j/\ ∀b,σ j=some b->(w.alloc o).heap[b]? =w.heap[b]? :=fun j D hD hj=>
   ⟨(A3 hj.symm).trans hD,QZ hj,fun b hb=>hold b (h.σUp j b (A1.1 hD).1 hb).1⟩
  refine⟨fun _ h=>h,fun b hb=>hold b (h.sUp b hb).1,fun k g cells hD=>?_,fun k g sz T rows hD=>?_,fun k g l hD=>?_⟩
  ·by_cases hj:k=κ
   ·subst hj;rw[hκ] at hD;obtain rfl:=A0 hD
    cases C with
    |row g' cells'=>exact⟨g',cells',A2 hκl,BJ hL,fun e=>absurd hL (by rw[e];exact B8 _)⟩
    |_=>exact hL.elim
   grind
  ·by_cases hj:k=κ
   ·subst hj;rw[hκ] at hD;obtain rfl:=A0 hD
    cases C with
    |arr g' sz' T' rows'=>
     obtain⟨h1,rfl,rfl⟩:=hL
     grind
    |_=>exact hL.elim
   grind
  ·by_cases hj:k=κ
   ·subst hj;rw[hκ] at hD;obtain rfl:=A0 hD
    cases C with
    |mp g' l'=>exact⟨g',l',A2 hκl,BJ hL,fun e=>absurd hL (by rw[e];exact B8 _)⟩
    |_=>exact hL.elim
   grind
 refine⟨⟨h.os,h.tape,h.output,by rw[hsz];have:=h.size;omega,fun b hb hn=>(hold b (by have:=h.size;omega)).trans (h.keep b hb hn),h.sLo,
  fun b hb=>⟨by rw[hsz];have:=(h.sUp b hb).1;omega,(h.sUp b hb).2⟩,fun k b hk hb=>?_,fun k k' b hk hk' hb hb'=>?_,fun k D hD=>?_⟩,e⟩
 ·rw[A5] at hk
  by_cases hkκ:k=κ
  ·rw[hkκ,Qdc] at hb
   have hb':=A0 hb;subst hb';exact⟨by omega,fun hS=>by have:=(h.sUp _ hS).1;omega,.inr h.size⟩
  ·rw[QZ hkκ] at hb
   obtain⟨h1,h2,h3⟩:=h.σUp k b hk hb
   grind
 ·rw[A5] at hk hk'
  by_cases hkκ:k=κ
  ·by_cases hkκ':k'=κ
   ·omega
   ·rw[hkκ,Qdc] at hb;rw[QZ hkκ'] at hb'
    have:=(h.σUp k' b hk' hb').1
    grind
  ·by_cases hkκ':k'=κ
   ·rw[hkκ',Qdc] at hb';rw[QZ hkκ] at hb
    have:=(h.σUp k b hk hb).1
    grind
   ·rw[QZ hkκ] at hb;rw[QZ hkκ'] at hb'
    exact h.inj k k' b hk hk' hb hb'
 ·by_cases hkκ:k=κ
  ·grind
  ·rw[A3 (fun e=>hkκ e.symm)] at hD
   have hkl:k<H.length:=(A1.1 hD).1;exact(h.blk k D hD).mono e (QZ hkκ) fun b hb=>hold b (h.σUp k b hkl hb).1
def QdP(w:AK)(o:Obj):(w.alloc o).heap[w.heap.size]? =some o:=heap_alloc_new w o
def Sm.fillRow{S:Nat->Prop}{H:List Blk}{cells:List AV}(h:Sm B σ S H w)(hκ:H[κ]? =some .none)
 (hr: ∀(j:Nat) x,cells[j]? =some x-> ∃v,cs[j]? =some v/\Rel σ S H w x v):
 Sm B (upS σ κ (some w.heap.size)) S (H.set κ (.row 0 cells)) (w.alloc (.cells cs T))/\Ev σ S H w (upS σ κ (some w.heap.size)) S (H.set κ (.row 0 cells)) (w.alloc (.cells cs T)):=
 h.fill hκ trivial fun e=> .inl ⟨_,cs,T,Qdc _ _ _,QdP _ _,fun j x hx=>let⟨v,h1,h2⟩:=hr j x hx;⟨v,h1,h2.mono e⟩⟩
def Sm.fillArr{S:Nat->Prop}{H:List Blk}{g:Nat}{rows:List (List D)}(h:Sm B σ S H w)(hκ:H[κ]? =some .none)
 (hsz: ∀r∈rows,r.length=sz) (hr: ∀(i j:Nat) r d,rows[i]? =some r->r[j]? =some d-> ∃v,cs[i*sz+j]? =some v/\RelD S w d v):
 Sm B (upS σ κ (some w.heap.size)) S (H.set κ (.arr g sz T rows)) (w.alloc (.cells cs T))/\Ev σ S H w (upS σ κ (some w.heap.size)) S (H.set κ (.arr g sz T rows)) (w.alloc (.cells cs T)):=
 h.fill hκ trivial fun e=>⟨hsz,.inl ⟨_,cs,Qdc _ _ _,QdP _ _,fun i j r x hr' hx=>let⟨v,h1,h2⟩:=hr i j r x hr' hx;⟨v,h1,h2.mono e.s e.same⟩⟩⟩
def Kin:Blk->Blk->Prop
 |.row g _,.row g' _=>g<=g'
 |.arr g sz T rows,.arr g' sz' T' rows'=>g<=g'/\sz'=sz/\T'=T/\(g'=g->rows'.length=rows.length)
 |.mp g _,.mp g' _=>g<=g'
 |_,_=>False
variable{C':Blk}
theorem Ev.turn{S:Nat->Prop}{H:List Blk}(hb:σ k=some b)(hnS: ¬S b)(hinj: ∀k' b',H[k']? ≠none->σ k'=some b'->k'≠k->b'≠b)
 (hC:H[k]? =some C) (hK:Kin C C')
 (hw: ∀j,j≠b->w'.heap[j]? =w.heap[j]?) (hcells: ∀cs T,w.heap[b]? =some (.cells cs T (0,0))-> ∃cs',w'.heap[b]? =some (.cells cs' T (0,0))/\cs'.size=cs.size):
 Ev σ S H w σ S (H.set k C') w':=by
 have hkl:k<H.length:=(A1.1 hC).1;refine⟨fun _ h=>h,fun b' hb'=>hw b' fun e=>hnS (e▸hb'),fun j g cells h=>?_,fun j g sz T rows h=>?_,fun j g l h=>?_⟩
 ·by_cases hj:j=k
  ·subst hj
   rw[hC] at h;obtain rfl:=A0 h;cases C' with
   |row g' cells'=>exact⟨g',cells',A2 hkl,hK,fun _ b hb=>hb⟩
   |_=>exact hK.elim
  grind
 ·by_cases hj:j=k
  ·subst hj
   rw[hC] at h;obtain rfl:=A0 h;cases C' with
   |arr g' sz' T' rows'=>
    obtain⟨h1,rfl,rfl,h4⟩:=hK
    grind
   |_=>exact hK.elim
  grind
 ·by_cases hj:j=k
  ·subst hj
   rw[hC] at h;obtain rfl:=A0 h;cases C' with
   |mp g' l'=>exact⟨g',l',A2 hkl,hK,fun _ b hb=>hb⟩
   |_=>exact hK.elim
  grind
theorem Sm.turn{S:Nat->Prop}{H:List Blk}(h:Sm B σ S H w)(hb:σ k=some b)
 (hC:H[k]? =some C) (hK:Kin C C') (h1:w'.os=w.os) (h2:w'.tape=w.tape) (h3:w'.output=w.output) (hsz:w'.heap.size=w.heap.size)
 (hw: ∀j,j≠b->w'.heap[j]? =w.heap[j]?) (hcells: ∀cs T,w.heap[b]? =some (.cells cs T (0,0))-> ∃cs',w'.heap[b]? =some (.cells cs' T (0,0))/\cs'.size=cs.size)
 (hC':Ev σ S H w σ S (H.set k C') w'->BlkOk σ S (H.set k C') w' k C'):
 Sm B σ S (H.set k C') w'/\Ev σ S H w σ S (H.set k C') w':=by
 have hkl:k<H.length:=(A1.1 hC).1;obtain⟨hb1,hb2,hb3⟩:=h.σUp k b hkl hb
 have hinj: ∀k' b',H[k']? ≠none->σ k'=some b'->k'≠k->b'≠b:=fun k' b' hk' hb' hne e=>by
  subst e
  have hkl':k'<H.length:=by
   grind
  exact hne (h.inj k' k b' hkl' hkl hb' hb)
 have e:=Ev.turn hb hb2 hinj hC hK hw hcells
 refine⟨⟨h1.trans h.os,h2.trans h.tape,h3.trans h.output,by rw[hsz];exact h.size,fun j hj hn=>?_,h.sLo,fun j hj=>by rw[hsz];exact h.sUp j hj,
  fun k' b' hk' hb'=>by rw[hsz];rw[A5] at hk';exact h.σUp k' b' hk' hb',fun k' k'' b' hk' hk''=>by rw[A5] at hk' hk'';exact h.inj k' k'' b' hk' hk'',fun j D hD=>?_⟩,e⟩
 ·refine(hw j fun e=>?_).trans (h.keep j hj hn)
  grind
 ·by_cases hj:j=k
  ·grind
  ·rw[A3 (fun e=>hj e.symm)] at hD
   exact(h.blk j D hD).mono e rfl fun b' hb'=>hw b' (hinj j b' (by grind) hb' hj)
theorem Sm.setRow{S:Nat->Prop}{H:List Blk}{g:Nat}{cells:List AV}{v:A4}(h:Sm B σ S H w)(hb:σ k=some b)
 (hC:H[k]? =some (.row g cells)) (hx:Rel σ S H w x v) (ho:o<cells.length):
 Sm B σ S (H.set k (.row g (cells.set o x))) (w.setCell ⟨b,o,none⟩ v)/\Ev σ S H w σ S (H.set k (.row g (cells.set o x))) (w.setCell ⟨b,o,none⟩ v):=by
 have hbk:=h.blk k _ hC;rcases hbk with⟨b',cs,T,hb',hc,hr⟩|⟨hb',_⟩;rotate_left
 ·grind
 rw[hb] at hb';have:=A0 hb';subst this
 refine h.turn (C':= .row g (cells.set o x)) hb hC (A6 _) rfl rfl rfl (by simp) (fun j hj=>heap_setCell_other w _ j v hj)
  (fun cs' T' hc'=>?_) (fun e=> .inl ⟨b,cs.setIfInBounds o v,T,hb,heap_setCell_same w b o cs T v hc,fun j y hy=>?_⟩)
 ·rw[hc] at hc'
  have h1:=A0 hc';injection h1 with h2 h3;subst h2;subst h3;exact⟨_,heap_setCell_same w b o cs T v hc,by simp⟩
 ·obtain⟨u,hu,_⟩:=hr o _ (AJ ho)
  have hos:o<cs.size:=(AH.1 hu).1
  by_cases hj:j=o
  ·subst hj
   rw[A2 ho] at hy;have:=A0 hy;subst this;exact⟨v,by grind,hx.mono e⟩
  ·rw[A3 (fun e=>hj e.symm)] at hy
   obtain⟨u',hu',hr'⟩:=hr j y hy;exact⟨u',by grind,hr'.mono e⟩
theorem Qmu{i' n j':Nat}(hj:j<n)(hj':j'<n)(h:i*n+j=i'*n+j'):i=i'/\j=j':=by grind [Nat.mul_comm,Nat.mul_add_div,Nat.div_eq_of_lt]
theorem Sm.setArr{S:Nat->Prop}{H:List Blk}{g:Nat}{rows:List (List D)}{r:List D}{x:D}{v:A4}(h:Sm B σ S H w)(hb:σ k=some b)
 (hC:H[k]? =some (.arr g sz T rows)) (hr:rows[i]? =some r) (hj:j<r.length) (hx:RelD S w x v):
 Sm B σ S (H.set k (.arr g sz T (rows.set i (r.set j x)))) (w.setCell ⟨b,i*sz+j,none⟩ v)/\Ev σ S H w σ S (H.set k (.arr g sz T (rows.set i (r.set j x)))) (w.setCell ⟨b,i*sz+j,none⟩ v):=by
 obtain⟨hlen,hbk⟩:=h.blk k _ hC;have hil:i<rows.length:=(A1.1 hr).1;have hrs:r.length=sz:=hlen r (AF hr);rcases hbk with⟨b',cs,hb',hc,hrel⟩|⟨hb',_⟩;rotate_left
 ·grind
 rw[hb] at hb';have:=A0 hb';subst this
 refine h.turn (C':= .arr g sz T (rows.set i (r.set j x))) hb hC ⟨A6 _,rfl,rfl,fun _=>A5 ..⟩ rfl rfl rfl (by simp) (fun j hj=>heap_setCell_other w _ j v hj)
  (fun cs' T' hc'=>?_) (fun e=>⟨fun r' hr'=>?_,.inl ⟨b,cs.setIfInBounds (i*sz+j) v,hb,heap_setCell_same w b _ cs T v hc,fun i' j' r' y hr' hy=>?_⟩⟩)
 ·rw[hc] at hc'
  have h1:=A0 hc';injection h1 with h2 h3;subst h2;subst h3;exact⟨_,heap_setCell_same w b _ cs T v hc,by simp⟩
 ·grind
 ·obtain⟨u,hu,_⟩:=hrel i j r _ hr (AJ hj)
  have hos:i*sz+j<cs.size:=(AH.1 hu).1
  by_cases hii:i'=i
  ·subst hii
   rw[A2 hil] at hr';have:=A0 hr';subst this
   by_cases hjj:j'=j
   ·subst hjj
    rw[A2 hj] at hy;have:=A0 hy;subst this;exact⟨v,by grind,hx.mono e.s e.same⟩
   ·rw[A3 (fun e=>hjj e.symm)] at hy
    obtain⟨u',hu',hr''⟩:=hrel i' j' r y hr hy;exact⟨u',by grind,hr''.mono e.s e.same⟩
  ·rw[A3 (fun e=>hii e.symm)] at hr'
   obtain⟨u',hu',hr''⟩:=hrel i' j' r' y hr' hy;have hj':j'<r'.length:=(A1.1 hy).1;have hrs':r'.length=sz:=hlen r' (AF hr');exact⟨u',by grind [Qmu],hr''.mono e.s e.same⟩
def D.cell:D->Bool
 |.v x=>x.oneCell'
 |.pd _| .sl _ _ _| .mp _=>true
 |_=>false
theorem D.cell_one{S:Nat->Prop}{d:D}{x:A4}(h:RelD S w d x)(hc:d.cell=true):x.oneCell'=true:=by
 cases h<;>simp_all[D.cell,Value.oneCell']
def Flat(sz:Nat)(rows:List (List D))(R:D->A4->Prop)(xs:List A4):Prop:=
 xs.length=rows.length*sz/\(∀r∈rows,r.length=sz)/\ ∀(i j:Nat) r d,rows[i]? =some r->r[j]? =some d-> ∃u,xs[i*sz+j]? =some u/\R d u
variable{R:D->A4->Prop}
theorem Flat.append{r1 r2:List (List D)}{x1 x2:List A4}(h1:Flat sz r1 R x1)(h2:Flat sz r2 R x2):Flat sz (r1++r2) R (x1++x2):=by
 refine⟨by rw[AB,AB,h1.1,h2.1,AM],fun r hr=>?_,fun i j r d hi hj=>?_⟩
 ·rcases List.mem_append.1 hr with h|h
  ·exact h1.2.1 r h
  ·exact h2.2.1 r h
 ·by_cases hi':i<r1.length
  ·rw[AA hi'] at hi
   obtain⟨u,hu,hr⟩:=h1.2.2 i j r d hi hj
   grind
  ·rw[A8 (by omega)] at hi
   obtain⟨u,hu,hr⟩:=h2.2.2 (i -r1.length) j r d hi hj
   have he:i*sz+j -x1.length=(i -r1.length)*sz+j:=by
    have h3:i*sz=r1.length*sz+(i -r1.length)*sz:=by rw[<-AM];grind
    rw[h1.1];omega
   exact⟨u,by rw[A8 (by have:=A9 sz (show r1.length<=i by omega);rw[h1.1];omega),he];exact hu,hr⟩
theorem Flat.of_cells{n:Nat}{rows:List (List D)}(hlen: ∀r∈rows,r.length=sz)(hn:rows.length*sz<=cs.size)
 (h: ∀(i j:Nat) r d,rows[i]? =some r->r[j]? =some d-> ∃v,cs[i*sz+j]? =some v/\R d v) (hnl:n=rows.length):Flat sz rows R (cs.toList.take (n*sz)):=by
 subst hnl;refine⟨by grind,hlen,fun i j r d hi hj=>?_⟩;obtain⟨v,hv,hr⟩:=h i j r d hi hj;have hil:i<rows.length:=(A1.1 hi).1;have hjl:j<sz:=by grind
 have hlt:i*sz+j<rows.length*sz:=by
  have h2:(i+1)*sz<=rows.length*sz:=A9 sz (by omega)
  grind
 grind
theorem Sm.append{S:Nat->Prop}{H:List Blk}{g:Nat}{rows newrows:List (List D)}{v:A4}{P:Program}{t ty:Aj}{i:TypeInfo}{z:A4}
 (h:Sm B σ S H w) (hC:H[k]? =some (.arr g sz T rows)) (hv:OSl σ w k sz rows.length 0 rows.length v) (hsz:0<sz)
 (ht:P.underlying t=some (.slice T)) (hi:P.info? T=some i) (hz:i.zero=some z) (hsize:i.size=sz) (hzs:z.cells.size=sz)
 {a:Addr} {c:Nat} {news:List A4} (hnews: ∀j u,news[j]? =some u->w.cell? (a.add j)=some u) (h1: ∀u∈news,u.oneCell'=true)
 (hfl:Flat sz newrows (RelD S w) news) (hbytes:(rows.length+newrows.length)*i.bytes<=140737488355328) (hmax:rows.length+newrows.length<=140737488355328):
 ∃v' w' σ',(Aq #[t,t] ty #[v,.slice (some a) newrows.length c]).run P w= .ok v' w'/\Sm B σ' S (H.set k (.arr (g+1) sz T (rows++newrows))) w'/\
  Ev σ S H w σ' S (H.set k (.arr (g+1) sz T (rows++newrows))) w'/\OSl σ' w' k sz (rows.length+newrows.length) 0 (rows.length+newrows.length) v':=by
 subst hsize;have hkl:k<H.length:=(A1.1 hC).1;obtain⟨hlen,hbk⟩:=h.blk k _ hC
 have grown: ∀(xs:List A4) (old:Nat),Flat i.size rows (RelD S w) xs->old<rows.length+newrows.length-> ∃σ',
  Sm B σ' S (H.set k (.arr (g+1) i.size T (rows++newrows))) (w.drew.alloc (.cells (xs.toArray++news.toArray++A7 z.cells (grownCap w (rows.length+newrows.length) old T -(rows.length+newrows.length))) T))/\
  Ev σ S H w σ' S (H.set k (.arr (g+1) i.size T (rows++newrows))) (w.drew.alloc (.cells (xs.toArray++news.toArray++A7 z.cells (grownCap w (rows.length+newrows.length) old T -(rows.length+newrows.length))) T))/\
  OSl σ' (w.drew.alloc (.cells (xs.toArray++news.toArray++A7 z.cells (grownCap w (rows.length+newrows.length) old T -(rows.length+newrows.length))) T)) k i.size (rows.length+newrows.length) 0 (rows.length+newrows.length)
   (.slice (some ⟨w.heap.size,0,none⟩) (rows.length+newrows.length) (grownCap w (rows.length+newrows.length) old T)):=by
  intro xs old hxs hold;have hge:=grownCap_ge w (rows.length+newrows.length) old T;have hcm:grownCap w (rows.length+newrows.length) old T<=maxLen:=grownCap_le_maxLen w (rows.length+newrows.length) old T (by unfold maxLen;omega);generalize grownCap w (rows.length+newrows.length) old T=cap at*;obtain⟨hd,hed⟩:=h.sameHeap (w':=w.drew) rfl rfl rfl rfl;have hall:=(hxs.append hfl)
  have hcs:(xs.toArray++news.toArray++A7 z.cells (cap -(rows.length+newrows.length))).size=cap*i.size:=by
   rw[AX,AX,size_zeroCells,hzs];simp only[List.size_toArray];have:=hall.1;rw[AB,AB] at this;rw[this,<-AM];grind
  have hget: ∀(j:Nat) u,(xs++news)[j]? =some u->(xs.toArray++news.toArray++A7 z.cells (cap -(rows.length+newrows.length)))[j]? =some u:=by
   grind
  generalize xs.toArray++news.toArray++A7 z.cells (cap -(rows.length+newrows.length))=cs at*;have hf:=hd.fill (κ:=k) (o:= .cells cs T) (C:= .arr (g+1) i.size T (rows++newrows)) hC ⟨by omega,rfl,rfl⟩ (fun e=>⟨hall.2.1,.inl ⟨w.heap.size,cs,Qdc _ _ _,QdP w.drew _,fun a b r d ha hb=>?_⟩⟩)
  ·refine⟨_,hf.1,?_,by omega,.inl ⟨w.heap.size,cap,cs,T,Qdc _ _ _,hge,hcm,by simp,QdP w.drew _,by grind⟩⟩
   exact⟨hf.2.s,hf.2.same,hf.2.row,hf.2.arr,hf.2.mp⟩
  ·obtain⟨u,hu,hr⟩:=hall.2.2 a b r d ha hb
   exact⟨u,hget _ _ hu,hr.mono (fun _ h=>h) e.same⟩
 rcases hv.2 with⟨b,cap,cs,T',hb,hl,hcm,rfl,hc,hs⟩|⟨hb,hl,rfl⟩
 ·rcases hbk with⟨b',cs',hb',hc',hrel⟩|⟨hb',_⟩
  rotate_left
  ·grind
  rw[hb] at hb';obtain rfl:=A0 hb';rw[hc] at hc';obtain⟨rfl,rfl⟩:cs=cs'/\T'=T:=by grind
  simp only[BK,Nat.zero_mul] at hs⊢;have hle:rows.length*i.size<=cs.size:=by rw[hs];exact A9 _ hl
  have hxs:=Flat.of_cells (n:=rows.length) hlen hle hrel rfl
  by_cases hroom:rows.length+newrows.length<=cap
  ·have hfit:rows.length*i.size+news.length<=cs.size:=by rw[hfl.1,hs,<-AM];exact A9 _ hroom
   have hr:=run_append_room (P:=P) w t ty T' i ht hi b rows.length cap cs hc a newrows.length c news hfl.1 hnews h1 hroom hfit
   have hsz':(cs.toList.take (rows.length*i.size)++news++cs.toList.drop (rows.length*i.size+news.length)).toArray.size=cs.size:=by
    grind
   have hall:=hxs.append hfl
   have hget: ∀(j:Nat) u,(cs.toList.take (rows.length*i.size)++news)[j]? =some u->(cs.toList.take (rows.length*i.size)++news++cs.toList.drop (rows.length*i.size+news.length)).toArray[j]? =some u:=by
    grind
   generalize (cs.toList.take (rows.length*i.size)++news++cs.toList.drop (rows.length*i.size+news.length)).toArray=cs2 at*
   have ht:=h.turn (w':=w.setRow b cs2) (C':= .arr (g+1) i.size T' (rows++newrows)) hb hC ⟨by omega,rfl,rfl,fun e=>by omega⟩ rfl rfl rfl (size_setRow _ _ _) (fun j hj=>setRow_other w b j _ hj)
    (fun cs0 T0 h0=>by
      grind [setRow_heap])
    (fun e=>⟨hall.2.1,.inl ⟨b,cs2,hb,setRow_heap w b cs _ T' _ hc,fun a b r d ha hb=>?_⟩⟩)
   ·exact⟨_,_,σ,hr,ht.1,ht.2,by omega,.inl ⟨b,cap,cs2,T',hb,hroom,hcm,by simp,setRow_heap w b cs _ T' _ hc,by grind⟩⟩
   ·obtain⟨u,hu,hr⟩:=hall.2.2 a b r d ha hb
    exact⟨u,hget _ _ hu,hr.mono (fun _ h=>h) e.same⟩
  ·have holds: ∀j u,(cs.toList.take (rows.length*i.size))[j]? =some u->w.cell? ((⟨b,0,none⟩:Addr).add j)=some u:=by
    grind [Addr.add,cell_of_row]
   have hr:=run_append_grow (P:=P) w t ty T' i z ht hi hz ⟨b,0,none⟩ rows.length cap _ hxs.1 holds a newrows.length c news hfl.1 hnews (by omega) (by omega) (growslice_fits (by omega) hbytes)
   grind
 ·have hrows:rows=[]:=AG hl
  subst hrows
  by_cases hm:newrows=[]
  ·subst hm
   have hn:news=[]:=AG (by simpa using hfl.1);subst hn
   have e:Ev σ S H w σ S (H.set k (.arr (g+1) i.size T ([]++[]))) w:=by
    refine⟨fun _ h=>h,fun _ _=>rfl,fun j g' cells hD=>?_,fun j g' sz' T' rows' hD=>?_,fun j g' l hD=>?_⟩
    ·grind
    ·grind
    grind
   refine⟨.slice none 0 0,w,σ,?_,⟨h.os,h.tape,h.output,h.size,h.keep,h.sLo,h.sUp,fun k' b hk=>h.σUp k' b (by grind),fun k1 k2 b h1 h2=>h.inj k1 k2 b (by grind) (by grind),fun j D hD=>?_⟩,e,by simp,.inr ⟨hb,by simp,rfl⟩⟩
   ·simp[Aq,run_underlying ht,sizeOf,typeInfo,hi,Builtin.lenOf,Builtin.firstCells,loadCells,loadCellsFrom]
   ·by_cases hj:j=k
    ·subst hj
     rw[A2 hkl] at hD;obtain rfl:=A0 hD;exact⟨fun r hr=>by simp at hr,.inr ⟨hb,rfl⟩⟩
    ·rw[A3 (fun e=>hj e.symm)] at hD
     exact(h.blk j D hD).mono e rfl fun b _=>rfl
  ·have hpos:0<newrows.length:=List.length_pos_iff.2 hm
   simp only[List.length_nil,BK,List.nil_append] at*;have hr:=run_append_nil (P:=P) w t ty T i z ht hi hz a newrows.length c news hfl.1 hnews hpos (by omega) (by omega);obtain⟨σ',h2,h3,h4⟩:=grown [] 0 ⟨by simp,fun r hr=>by simp at hr,fun i j r d hi=>by simp at hi⟩ hpos
   grind
def AV.data:AV->D
 |.d x=>x
 |_=> .any
def Rel.data{S:Nat->Prop}{H:List Blk}{v:A4}(h:Rel σ S H w x v):RelD S w x.data v:=by
 cases h<;>first|assumption|exact .any _
def Blk.gen:Blk->Nat
 |.none=>0
 |.row g _=>g
 |.arr g _ _ _=>g
 |.mp g _=>g
def Blk.dead:Blk->Blk
 |.none=> .none
 |.row g _=> .row (g+1) []
 |.arr g sz T _=> .arr (g+1) sz T []
 |.mp g _=> .mp (g+1) []
def Blk.iceP(o:Nat):Blk->AV
 |.row _ cells=> .d (.pd ((cells.drop o).map AV.data))
 |_=> .d .any
def Blk.iceS(off len:Nat):Blk->AV
 |.arr _ sz _ rows=> .d (.sl true sz ((rows.drop off).take len))
 |_=> .d .any
def Blk.iceM:Blk->AV
 |.mp _ l=> .d (.mp l)
 |_=> .d .any
mutual
def AV.frz(k:Nat)(C:Blk):AV->AV
 |.d x=> .d x
 |.agg l=> .agg (AV.frzL k C l)
 |.tup l=> .tup (AV.frzL k C l)
 |.ptr k' g o=>bif k'==k&&g==C.gen then C.iceP o else .ptr k' g o
 |.ept k' g i j=>bif k'==k&&g==C.gen then .d .any else .ept k' g i j
 |.osl k' g off len=>bif k'==k&&g==C.gen then C.iceS off len else .osl k' g off len
 |.rsl k' g n=>bif k'==k&&g==C.gen then .d .any else .rsl k' g n
 |.fn f l=> .fn f (AV.frzL k C l)
 |.gh l cs=> .gh (AV.frzL k C l) cs
 |.mp k' g=>bif k'==k&&g==C.gen then C.iceM else .mp k' g
def AV.frzL(k:Nat)(C:Blk):List AV->List AV
 |[]=>[]
 |x::r=>AV.frz k C x::AV.frzL k C r
end
theorem AV.frzL_get(k:Nat)(C:Blk): ∀(l:List AV) (i:Nat),(AV.frzL k C l)[i]? =l[i]?.map (AV.frz k C)
 :=by intro l;induction l<;>grind [AV.frzL]
theorem AV.frzL_len(k:Nat)(C:Blk): ∀(l:List AV),(AV.frzL k C l).length=l.length
 :=by intro l;induction l<;>grind [AV.frzL]
def Blk.frz(k:Nat)(C:Blk):Blk->Blk
 |.row g cells=> .row g (AV.frzL k C cells)
 |x=>x
theorem Sm.freeze{S:Nat->Prop}{H:List Blk}(h:Sm B σ S H w)(hC:H[k]? =some C):
 ∃σ' S',Sm B σ' S' ((H.set k C.dead).map (Blk.frz k C)) w/\(∀x v,Rel σ S H w x v->Rel σ' S' ((H.set k C.dead).map (Blk.frz k C)) w (x.frz k C) v)/\Ev σ S H w σ' S' ((H.set k C.dead).map (Blk.frz k C)) w:=by
 have hkl:k<H.length:=(A1.1 hC).1;have hbk:=h.blk k C hC;have hS: ∀b,S b->(S b∨σ k=some b):=fun _ h=> .inl h
 have hget: ∀j D,H[j]? =some D->j≠k->((H.set k C.dead).map (Blk.frz k C))[j]? =some (Blk.frz k C D):=fun j D hD hj=>by
  grind
 have hgk:((H.set k C.dead).map (Blk.frz k C))[k]? =some C.dead:=by
  rw[AI,A2 hkl];cases C<;>rfl
 have hrel: ∀x v,Rel σ S H w x v->Rel (upS σ k none) (fun b=>S b∨σ k=some b) ((H.set k C.dead).map (Blk.frz k C)) w (x.frz k C) v:=by
  intro x v hx;induction hx with
  |d x v h=>exact .d x v (h.mono hS fun _ _=>rfl)
  |agg l cs hl h ih=>
   refine .agg _ cs (by grind [AV.frzL_len]) fun i d x hd hx=>?_
   grind [AV.frzL_get]
  |tup l cs hl h ih=>
   refine .tup _ cs (by grind [AV.frzL_len]) fun i d x hd hx=>?_
   grind [AV.frzL_get]
  |gh l cs u hl h ih=>
   refine .gh _ cs u (by grind [AV.frzL_len]) fun i d x hd hx=>?_
   grind [AV.frzL_get]
  |fn f l cs hl h ih=>
   refine .fn f _ cs (by grind [AV.frzL_len]) fun i d x hd hx=>?_
   grind [AV.frzL_get]
  |ptr k' g o v ho g' cells hk hg hh=>
   simp only[AV.frz]
   by_cases hkk:k'=k
   ·subst hkk
    rw[hC] at hk;obtain rfl:=A0 hk
    by_cases hgg:g=g'
    ·subst hgg
     simp only[Blk.gen,beq_self_eq_true,AE,cond_true,Blk.iceP];obtain⟨b,hb,rfl⟩:=hh rfl;rcases hbk with⟨b',cs,T,hb',hc,hr⟩|⟨hb',_⟩;rotate_left
     ·grind
     rw[hb] at hb';obtain rfl:=A0 hb'
     have key: ∀(j:Nat) d,((cells.drop o).map AV.data)[j]? =some d-> ∃u,cs[o+j]? =some u/\RelD S w d u:=by
      intro j d hd;rw[AI,List.getElem?_drop] at hd;cases hx:cells[o+j]? with
      |none=>grind
      |some y=>
       rw[hx] at hd;obtain rfl:=A0 hd;obtain⟨u,hu,hr'⟩:=hr _ y hx;exact⟨u,hu,hr'.data⟩
     refine .d _ _ (.pd _ b o (fun j=>(cs[o+j]?).getD undef) (.inr hb) (fun j d hd=>?_) fun j d hd=>?_)
     ·grind [cell_of_row]
     ·obtain⟨u,hu,hr'⟩:=key j d hd
      rw[hu];exact hr'.mono hS fun _ _=>rfl
    ·have:(g==Blk.gen (.row g' cells))=false:=by simp[Blk.gen,hgg]
     rw[this,AC,cond_false];exact .ptr k' g o v ho (g'+1) [] hgk (by omega) fun e=>by omega
   ·have:(k'==k)=false:=by simp[hkk]
    rw[this,AD,cond_false];refine .ptr k' g o v ho g' _ (hget k' _ hk hkk) hg fun e=>?_
    grind [QZ]
  |rsl k' g n v ho g' cells hk hg hh=>
   simp only[AV.frz]
   by_cases hkk:k'=k
   ·subst hkk
    rw[hC] at hk;obtain rfl:=A0 hk
    by_cases hgg:g=g'
    ·subst hgg
     simp only[Blk.gen,beq_self_eq_true,AE,cond_true];exact .d _ _ (.any _)
    ·have:(g==Blk.gen (.row g' cells))=false:=by simp[Blk.gen,hgg]
     rw[this,AC,cond_false];exact .rsl k' g n v ho (g'+1) [] hgk (by omega) fun e=>by omega
   ·have:(k'==k)=false:=by simp[hkk]
    rw[this,AD,cond_false];refine .rsl k' g n v ho g' _ (hget k' _ hk hkk) hg fun e=>?_
    grind [QZ]
  |ept k' g i j v ho g' sz T rows hk hg hh=>
   simp only[AV.frz]
   by_cases hkk:k'=k
   ·subst hkk
    rw[hC] at hk;obtain rfl:=A0 hk
    by_cases hgg:g=g'
    ·subst hgg
     simp only[Blk.gen,beq_self_eq_true,AE,cond_true];exact .d _ _ (.any _)
    ·have:(g==Blk.gen (.arr g' sz T rows))=false:=by simp[Blk.gen,hgg]
     rw[this,AC,cond_false];exact .ept k' g i j v ho (g'+1) sz T [] hgk (by omega) fun e=>by omega
   ·have:(k'==k)=false:=by simp[hkk]
    rw[this,AD,cond_false];refine .ept k' g i j v ho g' sz T rows (hget k' _ hk hkk) hg fun e=>?_
    grind [QZ]
  |osl k' g off len v ho g' sz T rows hk hg hh=>
   simp only[AV.frz]
   by_cases hkk:k'=k
   ·subst hkk
    rw[hC] at hk;obtain rfl:=A0 hk
    by_cases hgg:g=g'
    ·subst hgg
     simp only[Blk.gen,beq_self_eq_true,AE,cond_true,Blk.iceS];obtain⟨hbound,hv⟩:=hh rfl;rcases hv with⟨b,cap,cs,T',hb,hl,hcm,rfl,hc,hs⟩|⟨hb,rfl,rfl⟩
     ·obtain⟨hlen,hbk⟩:=hbk
      rcases hbk with⟨b',cs',hb',hc',hr⟩|⟨hb',_⟩;rotate_left
      ·grind
      rw[hb] at hb';obtain rfl:=A0 hb';have hln:((rows.drop off).take len).length=len:=by grind
      have hmem: ∀(i:Nat) r,((rows.drop off).take len)[i]? =some r->rows[off+i]? =some r:=fun i r hi=>by
       grind
      have key: ∀(i j:Nat) r d,((rows.drop off).take len)[i]? =some r->r[j]? =some d-> ∃u,cs'[off*sz+i*sz+j]? =some u/\RelD S w d u:=by
       grind
      have hfin:RelD (fun b=>S b∨σ k'=some b) w (.sl true sz ((rows.drop off).take len)) (.slice (some ⟨b,off*sz,none⟩) ((rows.drop off).take len).length cap):=by
       refine .sl true sz _ b (off*sz) cap (fun i j=>(cs'[off*sz+i*sz+j]?).getD undef) (.inr hb) (fun r hr'=>?_) (fun _=>by omega) (fun i j r d hi hj=>?_) fun i j r d hi hj=>?_
       ·grind
       ·grind [cell_of_row]
       ·obtain⟨u,hu,hr'⟩:=key i j r d hi hj
        rw[hu];exact hr'.mono hS fun _ _=>rfl
      rw[hln] at hfin;exact .d _ _ hfin
     ·simp only[List.take_zero]
      exact .d _ _ (.slnil true sz none 0)
    ·have:(g==Blk.gen (.arr g' sz T rows))=false:=by simp[Blk.gen,hgg]
     rw[this,AC,cond_false];exact .osl k' g off len v ho (g'+1) sz T [] hgk (by omega) fun e=>by omega
   ·have:(k'==k)=false:=by simp[hkk]
    rw[this,AD,cond_false];refine .osl k' g off len v ho g' sz T rows (hget k' _ hk hkk) hg fun e=>?_
    unfold OSl;rw[QZ hkk];exact hh e
  |mp k' g v ho g' l hk hg hh=>
   simp only[AV.frz]
   by_cases hkk:k'=k
   ·subst hkk
    rw[hC] at hk;obtain rfl:=A0 hk
    by_cases hgg:g=g'
    ·subst hgg
     simp only[Blk.gen,beq_self_eq_true,AE,cond_true,Blk.iceM];obtain⟨b,hb,rfl⟩:=hh rfl;rcases hbk with⟨b',es,clock,hb',hc,hl,hr⟩|⟨hb',_⟩;rotate_left
     ·grind
     rw[hb] at hb';obtain rfl:=A0 hb';refine .d _ _ (.mp l b es clock (.inr hb) hc hl.1 (fun i key d e hi he=>?_) fun i key d e hi he=>?_)
     ·grind
     ·obtain⟨e',he',_,hd'⟩:=hr i key d hi
      rw[he] at he';obtain rfl:=A0 he';exact hd'.mono hS fun _ _=>rfl
    ·have:(g==Blk.gen (.mp g' l))=false:=by simp[Blk.gen,hgg]
     rw[this,AC,cond_false];exact .mp k' g v ho (g'+1) [] hgk (by omega) fun e=>by omega
   ·have:(k'==k)=false:=by simp[hkk]
    rw[this,AD,cond_false];refine .mp k' g v ho g' l (hget k' _ hk hkk) hg fun e=>?_
    grind [QZ]
 have hev:Ev σ S H w (upS σ k none) (fun b=>S b∨σ k=some b) ((H.set k C.dead).map (Blk.frz k C)) w:=by
  refine⟨hS,fun _ _=>rfl,fun j g cells hj=>?_,fun j g sz T rows hj=>?_,fun j g l hj=>?_⟩
  ·by_cases hjk:j=k
   ·subst hjk
    rw[hC] at hj;obtain rfl:=A0 hj;exact⟨g+1,[],hgk,by omega,fun e=>by omega⟩
   ·exact⟨g,_,hget j _ hj hjk,A6 _,fun _ b hb=>by rw[QZ hjk];exact hb⟩
  ·by_cases hjk:j=k
   ·subst hjk
    rw[hC] at hj;obtain rfl:=A0 hj;exact⟨g+1,[],hgk,by omega,fun e=>by omega⟩
   ·exact⟨g,rows,hget j _ hj hjk,A6 _,fun _=>⟨by rw[QZ hjk],rfl,fun b cs T hb hc=>⟨cs,hc,rfl⟩⟩⟩
  ·by_cases hjk:j=k
   ·subst hjk
    rw[hC] at hj;obtain rfl:=A0 hj;exact⟨g+1,[],hgk,by omega,fun e=>by omega⟩
   ·exact⟨g,l,hget j _ hj hjk,A6 _,fun _ b hb=>by rw[QZ hjk];exact hb⟩
 refine⟨_,_,⟨h.os,h.tape,h.output,h.size,h.keep,fun b hb=> .inl (h.sLo b hb),fun b hb=>?_,fun j b hj hb=>?_,fun j j' b hj hj' hb hb'=>?_,fun j D hD=>?_⟩,hrel,hev⟩
 ·rcases hb with hb|hb
  ·exact h.sUp b hb
  ·obtain⟨h1,_,h3⟩:=h.σUp k b hkl hb
   grind
 ·rw[Ar,A5] at hj
  by_cases hjk:j=k
  ·grind [Qdc]
  ·rw[QZ hjk] at hb
   obtain⟨h1,h2,h3⟩:=h.σUp j b hj hb;refine⟨h1,fun hh=>?_,h3⟩;rcases hh with hh|hh
   ·grind
   ·exact hjk (h.inj j k b hj hkl hb hh)
 ·rw[Ar,A5] at hj hj'
  by_cases hjk:j=k
  ·grind [Qdc]
  ·by_cases hjk':j'=k
   ·grind [Qdc]
   ·rw[QZ hjk] at hb;rw[QZ hjk'] at hb'
    exact h.inj j j' b hj hj' hb hb'
 ·by_cases hjk:j=k
  ·subst hjk
   rw[hgk] at hD;obtain rfl:=A0 hD;cases C with
   |none=>exact Qdc _ _ _
   |row g cells=>exact .inr ⟨Qdc _ _ _,rfl⟩
   |arr g sz T rows=>exact⟨fun r hr=>by simp at hr,.inr ⟨Qdc _ _ _,rfl⟩⟩
   |mp g l=>exact .inr ⟨Qdc _ _ _,rfl⟩
  ·rw[AI,A3 (fun e=>hjk e.symm)] at hD
   cases hE:H[j]? with
   |none=>grind
   |some E=>
    rw[hE] at hD;obtain rfl:=A0 hD;have hbj:=h.blk j E hE;cases E with
    |none=>exact(QZ hjk).trans hbj
    |row g cells=>
     rcases hbj with⟨b,cs,T,hb,hc,hr⟩|⟨hb,rfl⟩
     ·refine .inl ⟨b,cs,T,(QZ hjk).trans hb,hc,fun i x hx=>?_⟩
      grind [AV.frzL_get]
     ·exact .inr ⟨(QZ hjk).trans hb,rfl⟩
    |arr g sz T rows=>exact ArrOk.mono hbj hS (fun _ _=>rfl) (QZ hjk) fun _ _=>rfl
    |mp g l=>exact MpOk.mono hbj hS (fun _ _=>rfl) (QZ hjk) fun _ _=>rfl
mutual
def AV.lt(m:Nat):AV->Bool
 |.d _=>true
 |.agg l=>AV.ltL m l
 |.tup l=>AV.ltL m l
 |.ptr k _ _=>AY k m
 |.ept k _ _ _=>AY k m
 |.osl k _ _ _=>AY k m
 |.rsl k _ _=>AY k m
 |.fn _ l=>AV.ltL m l
 |.gh l _=>AV.ltL m l
 |.mp k _=>AY k m
def AV.ltL(m:Nat):List AV->Bool
 |[]=>true
 |x::r=>AV.lt m x&&AV.ltL m r
end
theorem AV.ltL_get{m:Nat}: ∀{l:List AV} {i:Nat} {x:AV},AV.ltL m l=true->l[i]? =some x->x.lt m=true
 :=by intro l;induction l<;>grind [AV.ltL]
def Blk.lt(m:Nat):Blk->Bool
 |.row _ cells=>AV.ltL m cells
 |_=>true
theorem Sm.drop{S:Nat->Prop}{H:List Blk}(h:Sm B σ S H w)(m:Nat)(hm:(H.take m).all (Blk.lt m)=true):
 Sm B σ S (H.take m) w/\ ∀x v,Rel σ S H w x v->x.lt m=true->Rel σ S (H.take m) w x v:=by
 have hk: ∀k C,H[k]? =some C->AY k m=true->(H.take m)[k]? =some C:=fun k C hC hlt=>by
  simp_all
 have hrel: ∀x v,Rel σ S H w x v->x.lt m=true->Rel σ S (H.take m) w x v:=by
  intro x v hx;induction hx with
  |d x v h=>exact fun _=> .d x v h
  |agg l cs hl h ih=>exact fun hb=> .agg l cs hl fun i d x hd hx=>ih i d x hd hx (AV.ltL_get hb hd)
  |tup l cs hl h ih=>exact fun hb=> .tup l cs hl fun i d x hd hx=>ih i d x hd hx (AV.ltL_get hb hd)
  |fn f l cs hl h ih=>exact fun hb=> .fn f l cs hl fun i d x hd hx=>ih i d x hd hx (AV.ltL_get hb hd)
  |gh l cs u hl h ih=>exact fun hb=> .gh l cs u hl fun i d x hd hx=>ih i d x hd hx (AV.ltL_get hb hd)
  |ptr k g o v ho g' cells hC hg hh=>exact fun hb=> .ptr k g o v ho g' cells (hk k _ hC hb) hg hh
  |rsl k g n v ho g' cells hC hg hh=>exact fun hb=> .rsl k g n v ho g' cells (hk k _ hC hb) hg hh
  |ept k g i j v ho g' sz T rows hC hg hh=>exact fun hb=> .ept k g i j v ho g' sz T rows (hk k _ hC hb) hg hh
  |osl k g off len v ho g' sz T rows hC hg hh=>exact fun hb=> .osl k g off len v ho g' sz T rows (hk k _ hC hb) hg hh
  |mp k g v ho g' l hC hg hh=>exact fun hb=> .mp k g v ho g' l (hk k _ hC hb) hg hh
 refine⟨⟨h.os,h.tape,h.output,h.size,h.keep,h.sLo,h.sUp,fun k b hk'=>h.σUp k b (by grind),fun k k' b hk' hk''=>h.inj k k' b (by grind) (by grind),fun k C hC=>?_⟩,hrel⟩;have hC2:=hC;rw[List.getElem?_take] at hC;split at hC
 ·have hb:=h.blk k C hC
  have hlt:=List.all_eq_true.1 hm C (AF hC2);cases C with
  |none=>exact hb
  |row g cells=>
   rcases hb with⟨b,cs,T,hb,hc,hr⟩|hb
   ·exact .inl ⟨b,cs,T,hb,hc,fun j x hx=>let⟨u,hu,hr'⟩:=hr j x hx;⟨u,hu,hrel x u hr' (AV.ltL_get hlt hx)⟩⟩
   ·exact .inr hb
  |arr g sz T rows=>exact hb
  |mp g l=>exact hb
 grind
theorem Sm.virt{S:Nat->Prop}{H:List Blk}(h:Sm B σ S H w)(sz:Nat)(T:Aj):
 Sm B (upS σ H.length none) S (H++[.arr 0 sz T []]) w/\Ev σ S H w (upS σ H.length none) S (H++[.arr 0 sz T []]) w/\
  Rel (upS σ H.length none) S (H++[.arr 0 sz T []]) w (.osl H.length 0 0 0) (.slice none 0 0):=by
 have hlt: ∀k B,H[k]? =some B->k<H.length:=fun k B hB=>(A1.1 hB).1
 have e:Ev σ S H w (upS σ H.length none) S (H++[.arr 0 sz T []]) w:=Ev.more (fun b _=>rfl) (fun k B hB _=>
  ⟨by grind,QZ (by grind),fun b _=>rfl⟩)
 have hnew:(H++[Blk.arr 0 sz T []])[H.length]? =some (.arr 0 sz T []):=by grind
 refine⟨⟨h.os,h.tape,h.output,h.size,h.keep,h.sLo,h.sUp,fun k b hk hb=>?_,fun k k' b hk hk' hb hb'=>?_,fun k C hC=>?_⟩,e,.osl _ 0 0 0 _ rfl 0 sz T [] hnew (A6 _) fun _=>⟨by simp,.inr ⟨Qdc _ _ _,rfl,rfl⟩⟩⟩
 ·by_cases hkl:k=H.length
  ·grind [Qdc]
  ·rw[QZ hkl] at hb;simp at hk;exact h.σUp k b (by omega) hb
 ·by_cases hkl:k=H.length
  ·grind [Qdc]
  ·by_cases hkl':k'=H.length
   ·grind [Qdc]
   ·rw[QZ hkl] at hb;rw[QZ hkl'] at hb';simp at hk hk'
    exact h.inj k k' b (by omega) (by omega) hb hb'
 ·by_cases hkl:k<H.length
  ·rw[AA hkl] at hC
   exact(h.blk k C hC).mono e (QZ (by omega)) fun b _=>rfl
  ·have hk:k=H.length:=by
    grind
   subst hk;rw[hnew] at hC;obtain rfl:=A0 hC;exact⟨fun r hr=>by simp at hr,.inr ⟨Qdc _ _ _,rfl⟩⟩
end Aw
end
end Go.Proofs.YtfmnpmhadmcdkaaGreatDoor
namespace Go.Proofs
open Go.Shelf
def Tryz.laysSortFunc_Found_ren:BL:=⟨fun|6=>135|15=>204|14=>203|28=>265|29=>266|20=>257|21=>258|22=>259|23=>260|24=>261|25=>262|26=>263|27=>264|46=>294|47=>295|48=>296|49=>297|50=>298|57=>312|n=>n,fun|22=>39|24=>43|25=>190|3=>3|39=>218|0=>0|53=>264|55=>271|4=>4|46=>277|45=>276|50=>51|5=>5|9=>9|66=>298|70=>224|76=>314|77=>238|n=>n,fun|n=>n⟩
def Tryz.laysSortFunc_Found:AL Bc Tryz.laysSortFunc_Found_ren:={
 mixed:=by kernel_rfl
 f6:=⟨Tryz.f135.name,by decide,Tryz.func135.trans (congrArg some (by kernel_rfl))⟩
 f14:=⟨Tryz.f203.name,by decide,Tryz.func203.trans (congrArg some (by kernel_rfl))⟩
 f15:=BM.trans (congrArg some (by kernel_rfl))
 f20:=⟨Tryz.f257.name,by decide,Tryz.func257.trans (congrArg some (by kernel_rfl))⟩
 f21:=⟨Tryz.f258.name,by decide,Tryz.func258.trans (congrArg some (by kernel_rfl))⟩
 f22:=⟨Tryz.f259.name,by decide,Tryz.func259.trans (congrArg some (by kernel_rfl))⟩
 f23:=⟨Tryz.f260.name,by decide,Tryz.func260.trans (congrArg some (by kernel_rfl))⟩
 f24:=⟨Tryz.f261.name,by decide,Tryz.func261.trans (congrArg some (by kernel_rfl))⟩
 f25:=⟨Tryz.f262.name,by decide,Tryz.func262.trans (congrArg some (by kernel_rfl))⟩
 f26:=⟨Tryz.f263.name,by decide,Tryz.func263.trans (congrArg some (by kernel_rfl))⟩
 f27:=⟨Tryz.f264.name,by decide,Tryz.func264.trans (congrArg some (by kernel_rfl))⟩
 f28:=BN.trans (congrArg some (by kernel_rfl))
 f29:=BO.trans (congrArg some (by kernel_rfl))
 f46:=⟨Tryz.f294.name,by decide,Tryz.func294.trans (congrArg some (by kernel_rfl))⟩
 f47:=BP.trans (congrArg some (by kernel_rfl))
 f48:=BQ.trans (congrArg some (by kernel_rfl))
 f49:=⟨Tryz.f297.name,by decide,Tryz.func297.trans (congrArg some (by kernel_rfl))⟩
 f50:=⟨Tryz.f298.name,by decide,Tryz.func298.trans (congrArg some (by kernel_rfl))⟩
 f57:=⟨Tryz.f312.name,by decide,Tryz.func312.trans (congrArg some (by kernel_rfl))⟩
 t0:=Ak
 a0:=BX
 z0:=BR
 v0:=As
 t3:=Al
 a3:=BY
 z3:=BS
 v3:=Au
 t4:=Am
 a4:=BZ
 z4:=BT
 v4:=Av
 t5:=An
 a5:=Ba
 z5:=BU
 v5:=Ax
 t9:=Ao
 a9:=Bb
 z9:=BV
 v9:=Ay
 t22:=Tryz.underlying39
 a22:=Tryz.isAgg39
 z22:=Tryz.sizeOf39
 v22:=Tryz.zeroValue39
 t25:=Tryz.underlying190
 a25:=Tryz.isAgg190
 z25:=Tryz.sizeOf190
 v25:=Tryz.zeroValue190
 t39:=AN
 a39:=B9
 z39:=Az
 v39:=AZ
 t45:=AO
 a45:=BA
 z45:=B0
 v45:=Aa
 t46:=AP
 a46:=BB
 z46:=B1
 v46:=Ab
 t50:=Ac
 a50:=BW
 z50:=BC
 v50:=Ap
 t53:=AQ
 a53:=BD
 z53:=B2
 v53:=Ad
 t55:=AR
 a55:=BE
 z55:=B3
 v55:=Ae
 t66:=AS
 a66:=BF
 z66:=B4
 v66:=Af
 t70:=AT
 a70:=BG
 z70:=B5
 v70:=Ag
 t76:=AU
 a76:=BH
 z76:=B6
 v76:=Ah
 t77:=AW
 a77:=BI
 z77:=B7
 v77:=Ai}
def Tryz.laysSortFunc_Thing_ren:BL:=⟨fun|6=>138|15=>204|14=>206|28=>265|29=>266|20=>268|21=>269|22=>270|23=>271|24=>272|25=>273|26=>274|27=>275|46=>299|47=>295|48=>296|49=>300|50=>301|57=>313|n=>n,fun|22=>53|24=>68|25=>192|3=>3|39=>218|0=>0|53=>264|55=>271|4=>4|46=>277|45=>276|50=>51|5=>5|9=>9|66=>298|70=>224|76=>314|77=>238|n=>n,fun|n=>n⟩
def Tryz.laysSortFunc_Thing:AL Bc Tryz.laysSortFunc_Thing_ren:={
 mixed:=by kernel_rfl
 f6:=⟨Tryz.f138.name,by decide,Tryz.func138.trans (congrArg some (by kernel_rfl))⟩
 f14:=⟨Tryz.f206.name,by decide,Tryz.func206.trans (congrArg some (by kernel_rfl))⟩
 f15:=BM.trans (congrArg some (by kernel_rfl))
 f20:=⟨Tryz.f268.name,by decide,Tryz.func268.trans (congrArg some (by kernel_rfl))⟩
 f21:=⟨Tryz.f269.name,by decide,Tryz.func269.trans (congrArg some (by kernel_rfl))⟩
 f22:=⟨Tryz.f270.name,by decide,Tryz.func270.trans (congrArg some (by kernel_rfl))⟩
 f23:=⟨Tryz.f271.name,by decide,Tryz.func271.trans (congrArg some (by kernel_rfl))⟩
 f24:=⟨Tryz.f272.name,by decide,Tryz.func272.trans (congrArg some (by kernel_rfl))⟩
 f25:=⟨Tryz.f273.name,by decide,Tryz.func273.trans (congrArg some (by kernel_rfl))⟩
 f26:=⟨Tryz.f274.name,by decide,Tryz.func274.trans (congrArg some (by kernel_rfl))⟩
 f27:=⟨Tryz.f275.name,by decide,Tryz.func275.trans (congrArg some (by kernel_rfl))⟩
 f28:=BN.trans (congrArg some (by kernel_rfl))
 f29:=BO.trans (congrArg some (by kernel_rfl))
 f46:=⟨Tryz.f299.name,by decide,Tryz.func299.trans (congrArg some (by kernel_rfl))⟩
 f47:=BP.trans (congrArg some (by kernel_rfl))
 f48:=BQ.trans (congrArg some (by kernel_rfl))
 f49:=⟨Tryz.f300.name,by decide,Tryz.func300.trans (congrArg some (by kernel_rfl))⟩
 f50:=⟨Tryz.f301.name,by decide,Tryz.func301.trans (congrArg some (by kernel_rfl))⟩
 f57:=⟨Tryz.f313.name,by decide,Tryz.func313.trans (congrArg some (by kernel_rfl))⟩
 t0:=Ak
 a0:=BX
 z0:=BR
 v0:=As
 t3:=Al
 a3:=BY
 z3:=BS
 v3:=Au
 t4:=Am
 a4:=BZ
 z4:=BT
 v4:=Av
 t5:=An
 a5:=Ba
 z5:=BU
 v5:=Ax
 t9:=Ao
 a9:=Bb
 z9:=BV
 v9:=Ay
 t22:=Tryz.underlying53
 a22:=Tryz.isAgg53
 z22:=Tryz.sizeOf53
 v22:=Tryz.zeroValue53
 t25:=Tryz.underlying192
 a25:=Tryz.isAgg192
 z25:=Tryz.sizeOf192
 v25:=Tryz.zeroValue192
 t39:=AN
 a39:=B9
 z39:=Az
 v39:=AZ
 t45:=AO
 a45:=BA
 z45:=B0
 v45:=Aa
 t46:=AP
 a46:=BB
 z46:=B1
 v46:=Ab
 t50:=Ac
 a50:=BW
 z50:=BC
 v50:=Ap
 t53:=AQ
 a53:=BD
 z53:=B2
 v53:=Ad
 t55:=AR
 a55:=BE
 z55:=B3
 v55:=Ae
 t66:=AS
 a66:=BF
 z66:=B4
 v66:=Af
 t70:=AT
 a70:=BG
 z70:=B5
 v70:=Ag
 t76:=AU
 a76:=BH
 z76:=B6
 v76:=Ah
 t77:=AW
 a77:=BI
 z77:=B7
 v77:=Ai}
