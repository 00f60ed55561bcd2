/- Of parts_card; no condition. -/
import Derived.Test.YtilenknaajikpaaGreatDoorP12
set_option linter.all false
open List renaming range'->A0
namespace Go.Proofs.YtilenknaajikpaaGreatDoor
noncomputable section
variable{N i a:Nat}{α:Type}
structure Pl.Sto where
 rows:List (List UInt8)
 refs:List Int
 last:List Int
 txg:Int
 gone:List Pl.Ptr
 same:Bool
namespace Pl
def Sto.st(w:Sto):Pm.Store:=(w.rows,(w.refs,w.last),w.txg,w.gone,0,[],w.same)
def Sto.drop(w:Sto)(a:Nat):Sto:=
 {w with refs:=w.refs.set a (w.refs.getD a 0 -1),last:=if w.refs.getD a 0 -1=0 then w.last.set a 0 else w.last,rows:=if w.refs.getD a 0 -1=0 then w.rows.set a [] else w.rows}
def Sto.free(w:Sto)(p:Ptr):Sto:=if ptrHole p then w else if p.birth<w.txg then{w with gone:=w.gone++[p]} else w.drop p.pat.toNat
def Sto.dropL(w:Sto)(l:List Ptr):Sto:=l.foldl (fun w p=>w.drop p.pat.toNat) w
def Sto.freeL(w:Sto)(l:List Ptr):Sto:=l.foldl Sto.free w
def Sto.next(w:Sto):Sto:={w.dropL w.gone with gone:=[],txg:=w.txg+1}
def Sto.like(w:Sto)(text:List UInt8):Option Nat:=(A0 8 56).find? fun i=>w.rows.getD i []==text&&decide (w.last.getD i 0<w.txg)&&decide (w.refs.getD i 0<w.txg)
def Sto.room(w:Sto):Option Nat:=(A0 8 56).find? fun i=>w.refs.getD i 0==0
def ptrOf(a birth level:Int)(text:List UInt8):Ptr×Bool:=
 if inR (text.length:Int) 1 128&&ptrOk ⟨a,birth,text.length,(sumOf text:Nat),level⟩ then(⟨a,birth,text.length,(sumOf text:Nat),level⟩,true) else(hole,false)
def Sto.lay1(w:Sto)(a:Nat)(text:List UInt8):Sto:={w with rows:=w.rows.set a text,refs:=w.refs.set a (w.refs.getD a 0+1),last:=w.last.set a w.txg}
def Sto.seek(w:Sto)(text:List UInt8)(level:Int):Option Nat:=(if w.same&&level==0 then w.like text else none).or w.room
def Sto.put(w:Sto)(text:List UInt8)(level:Int):Option Nat->Sto×Ptr×Bool
 |none=>(w,hole,false)
 |some a=>if(ptrOf a w.txg level text).2 then(w.lay1 a text,(ptrOf a w.txg level text).1,true) else(w,hole,false)
def Sto.write(w:Sto)(text:List UInt8)(level:Int):Sto×Ptr×Bool:=w.put text level (w.seek text level)
structure Sto.W(w:Sto)(N:Nat):Prop where
 rows:w.rows.length=64
 refs:w.refs.length=64
 last:w.last.length=64
 row: ∀r∈w.rows,r.length<=128
 ref: ∀x∈w.refs,-(N:Int)<=x/\x<=N
 las: ∀x∈w.last,0<=x/\x<=N
 txg:1<=w.txg/\w.txg<=N
 gone: ∀p∈w.gone,ptrOk p=true/\ptrHole p=false
 many:w.gone.length<=N
 blank: ∀i,w.refs.getD i 0<=0->w.rows.getD i []=[]
variable{w:Sto}
def Sto.W.le{M:Nat}(h:w.W N)(hNM:N<=M):w.W M:=
 ⟨h.rows,h.refs,h.last,h.row,fun x hx=>by have:=h.ref x hx;omega,fun x hx=>by have:=h.las x hx;omega,by have:=h.txg;omega,h.gone,by have:=h.many;omega,h.blank⟩
def Sto.W.good(h:w.W N):Aw.QM w.st:=⟨h.rows,h.row⟩
def mem_set{l:List α}{x y:α}(h:y∈l.set i x):y=x∨y∈l:=(List.mem_or_eq_of_mem_set h).symm
theorem getD_set(l:List α)(i j:Nat)(x d:α):(l.set i x).getD j d=if i=j/\j<l.length then x else l.getD j d:=by
 grind
theorem QdR{l:List α}{d:α}(h:i<l.length):l.getD i d∈l:=by
 grind
theorem Sto.W.drop(h:w.W N)(ha:a<64):(w.drop a).W (N+1):=by
 have hr:=h.ref _ (QdR (d:=0) (by rw[h.refs];exact ha));refine⟨?_,?_,?_,?_,?_,?_,?_,h.gone,?_,?_⟩
 ·unfold Sto.drop;dsimp only;split<;>simp[h.rows]
 ·unfold Sto.drop;simp[h.refs]
 ·unfold Sto.drop;dsimp only;split<;>simp[h.last]
 ·unfold Sto.drop;dsimp only;split
  ·intro r hr
   rcases mem_set hr with rfl|hr
   ·simp
   ·exact h.row r hr
  ·exact h.row
 ·intro x hx
  rcases mem_set hx with rfl|hx
  ·omega
  ·have:=h.ref x hx;omega
 ·unfold Sto.drop;dsimp only;split
  ·intro x hx
   rcases mem_set hx with rfl|hx
   ·omega
   ·have:=h.las x hx;omega
  ·intro x hx;have:=h.las x hx;omega
 ·have:=h.txg;unfold Sto.drop;grind
 ·have:=h.many;unfold Sto.drop;grind
 ·intro i hi
  unfold Sto.drop at hi⊢;dsimp only at hi⊢;rw[getD_set] at hi
  by_cases hai:a=i/\i<w.refs.length
  ·obtain⟨rfl,_⟩:=hai
   rw[if_pos ⟨rfl,by omega⟩] at hi;split
   ·grind
   ·exact h.blank a (by omega)
  ·rw[if_neg hai] at hi
   have:=h.blank i hi
   grind
def Sto.W.dropL{l:List Ptr}: ∀{w:Sto} {N:Nat},w.W N->(∀p∈l,ptrOk p=true/\ptrHole p=false)->(w.dropL l).W (N+l.length):=by
 induction l with
 |nil=>exact fun h _=>h
 |cons p l ih=>
  intro w N h hl;have hp:=hl p List.mem_cons_self;have:=ih (h.drop (a:=p.pat.toNat) (by have:=Aw.QdP hp.1 hp.2;omega)) fun q hq=>hl q (List.mem_cons_of_mem _ hq)
  exact this.le (by simp;omega)
def Qf5: ∀(l:List Ptr) (w:Sto),(w.dropL l).gone=w.gone/\(w.dropL l).txg=w.txg/\(w.dropL l).same=w.same
 |[],w=>⟨rfl,rfl,rfl⟩
 |p::l,w=>Qf5 l (w.drop p.pat.toNat)
theorem Sto.W.next(h:w.W N):w.next.W (2*N+1):=by
 have h1:=(Sto.W.dropL h h.gone).le (M:=2*N+1) (by have:=h.many;omega);have h2:=h.txg;have h3:=(Qf5 w.gone w).2.1;exact⟨h1.rows,h1.refs,h1.last,h1.row,h1.ref,h1.las,by unfold Sto.next;grind,by intro p hp;simp[Sto.next] at hp,by simp[Sto.next],h1.blank⟩
theorem Sto.W.free(h:w.W N){p:Ptr}(hp:ptrOk p=true):(w.free p).W (N+1):=by
 unfold Sto.free;cases hh:ptrHole p
 ·simp only[Bool.false_eq_true,if_false]
  split
  ·refine⟨h.rows,h.refs,h.last,h.row,fun x hx=>by have:=h.ref x hx;omega,fun x hx=>by have:=h.las x hx;omega,by have:=h.txg;grind,fun q hq=>?_,by have:=h.many;grind,h.blank⟩
   rcases List.mem_append.1 hq with hq|hq
   ·exact h.gone q hq
   grind
  ·exact h.drop (by have:=Aw.QdP hp hh;omega)
 ·simp only[if_true];exact h.le (by omega)
theorem QlI{text:List UInt8}{level:Int}(h:w.seek text level=some a):8<=a/\a<64/\(w.refs.getD a 0=0∨level=0/\w.rows.getD a []=text/\w.last.getD a 0<w.txg):=by
 have key: ∀{p:Nat->Bool},(A0 8 56).find? p=some a->8<=a/\a<64/\p a=true:=fun{p} h=>by
  grind
 unfold Sto.seek at h;rcases Option.or_eq_some_iff.1 h with h|⟨_,h⟩
 ·split at h
  ·rename_i hc
   obtain⟨h1,h2,h3⟩:=key h
   grind
  ·cases h
 ·obtain⟨h1,h2,h3⟩:=key h
  grind
def Qoq{a birth level:Int}{text:List UInt8}(h:(ptrOf a birth level text).2=true):
 (ptrOf a birth level text).1=⟨a,birth,text.length,(sumOf text:Nat),level⟩/\1<=text.length/\text.length<=128/\ptrOk (ptrOf a birth level text).1=true/\ptrHole (ptrOf a birth level text).1=false:=by
 unfold ptrOf at h⊢;split at h
 ·rename_i hc
  rw[if_pos hc];simp only[Bool.and_eq_true,inR,decide_eq_true_eq] at hc;refine⟨rfl,by omega,by omega,hc.2,?_⟩;refine decide_eq_false fun e=>?_
  have:=congrArg Ptr.size e;simp only[hole] at this;omega
 ·cases h
def Qfm(w:Sto)(text:List UInt8)(level:Int):(w.write text level).1.gone=w.gone:=by
 unfold Sto.write;cases w.seek text level with
 |none=>rfl
 |some a=>simp only[Sto.put];split<;>rfl
def Qhc(w:Sto)(text:List UInt8)(level:Int):(w.write text level).1.txg=w.txg/\(w.write text level).1.same=w.same:=by
 unfold Sto.write;cases w.seek text level with
 |none=>exact⟨rfl,rfl⟩
 |some a=>simp only[Sto.put];split<;>exact⟨rfl,rfl⟩
theorem Sto.W.write(h:w.W N)(text:List UInt8)(level:Int):(w.write text level).1.W (N+1)/\ptrOk (w.write text level).2.1=true:=by
 unfold Sto.write;cases hs:w.seek text level with
 |none=>exact⟨h.le (by omega),Aw.QdN⟩
 |some a=>
  dsimp only[Sto.put];cases hp:(ptrOf a w.txg level text).2
  ·exact⟨h.le (by omega),Aw.QdN⟩
  ·obtain⟨h1,h2,h3,h4,h5⟩:=Qoq hp
   obtain⟨g1,g2,g3⟩:=QlI hs;rw[if_pos rfl];refine⟨?_,h4⟩;have hr:=h.ref _ (QdR (d:=0) (by rw[h.refs];exact g2));have ht:=h.txg;refine⟨by simp[Sto.lay1,h.rows],by simp[Sto.lay1,h.refs],by simp[Sto.lay1,h.last],?_,?_,?_,by unfold Sto.lay1;grind,h.gone,by have:=h.many;unfold Sto.lay1;grind,?_⟩
   ·intro r hr
    rcases mem_set hr with rfl|hr
    ·exact h3
    ·exact h.row r hr
   ·intro x hx
    rcases mem_set hx with rfl|hx
    ·omega
    ·have:=h.ref x hx;omega
   ·intro x hx
    rcases mem_set hx with rfl|hx
    ·omega
    ·have:=h.las x hx;omega
   ·intro i hi
    unfold Sto.lay1 at hi⊢;dsimp only at hi⊢;rw[getD_set] at hi⊢
    by_cases hai:a=i/\i<w.refs.length
    ·obtain⟨rfl,_⟩:=hai
     rw[if_pos ⟨rfl,by omega⟩] at hi;exfalso;rcases g3 with g3|⟨_,g3,_⟩
     ·omega
     ·have:=h.blank a (by omega)
      grind
    ·rw[if_neg hai] at hi
     rw[h.refs,<-h.rows] at hai;rw[if_neg hai];exact h.blank i hi
