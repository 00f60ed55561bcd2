/- Of fby_card; no condition. -/
import Derived.Test.YtfmnpmhadmcdkaaGreatDoorT11
set_option linter.all false
set_option maxRecDepth 100000
set_option maxHeartbeats 8000000
open Go renaming Operand->AB,TypeId->AC
open Go.Proofs.Tryz renaming prog->A0
open Go.RowKit renaming Hid->A8
open List renaming range'->A1,replicate->A2,mem_of_find?_eq_some->A3,mem_range'_1->A4,getElem?_eq_getElem->A5,take_of_length_le->A6,map_cons->A7,take_add_one->A9,cons_append->AA,map_nil->AE,map_map->AF
open Nat renaming zero_add->AD,le_refl->AG
namespace Go.Proofs.YtfmnpmhadmcdkaaGreatDoor
noncomputable section
section
variable{N i a:Nat}{α:Type}
structure Pl.Sto where
 rows:List (List UInt8)
 refs:List Int
 last:List Int
 txg:Int
 gone:List Pl.Ptr
 same:Bool
namespace Pl
def Sto.st(w:Sto):Pm.Store:=(w.rows,(w.refs,w.last),w.txg,w.gone,0,[],w.same)
def Sto.drop(w:Sto)(a:Nat):Sto:=
 {w with refs:=w.refs.set a (w.refs.getD a 0 -1),last:=if w.refs.getD a 0 -1=0 then w.last.set a 0 else w.last,rows:=if w.refs.getD a 0 -1=0 then w.rows.set a [] else w.rows}
def Sto.free(w:Sto)(p:Ptr):Sto:=if ptrHole p then w else if p.birth<w.txg then{w with gone:=w.gone++[p]} else w.drop p.pat.toNat
def Sto.dropL(w:Sto)(l:List Ptr):Sto:=l.foldl (fun w p=>w.drop p.pat.toNat) w
def Sto.freeL(w:Sto)(l:List Ptr):Sto:=l.foldl Sto.free w
def Sto.next(w:Sto):Sto:={w.dropL w.gone with gone:=[],txg:=w.txg+1}
def Sto.like(w:Sto)(text:List UInt8):Option Nat:=(A1 8 56).find? fun i=>w.rows.getD i []==text&&decide (w.last.getD i 0<w.txg)&&decide (w.refs.getD i 0<w.txg)
def Sto.room(w:Sto):Option Nat:=(A1 8 56).find? fun i=>w.refs.getD i 0==0
def ptrOf(a birth level:Int)(text:List UInt8):Ptr×Bool:=
 if inR (text.length:Int) 1 128&&ptrOk ⟨a,birth,text.length,(sumOf text:Nat),level⟩ then(⟨a,birth,text.length,(sumOf text:Nat),level⟩,true) else(hole,false)
def Sto.lay1(w:Sto)(a:Nat)(text:List UInt8):Sto:={w with rows:=w.rows.set a text,refs:=w.refs.set a (w.refs.getD a 0+1),last:=w.last.set a w.txg}
def Sto.seek(w:Sto)(text:List UInt8)(level:Int):Option Nat:=(if w.same&&level==0 then w.like text else none).or w.room
def Sto.put(w:Sto)(text:List UInt8)(level:Int):Option Nat->Sto×Ptr×Bool
 |none=>(w,hole,false)
 |some a=>if(ptrOf a w.txg level text).2 then(w.lay1 a text,(ptrOf a w.txg level text).1,true) else(w,hole,false)
def Sto.write(w:Sto)(text:List UInt8)(level:Int):Sto×Ptr×Bool:=w.put text level (w.seek text level)
structure Sto.W(w:Sto)(N:Nat):Prop where
 rows:w.rows.length=64
 refs:w.refs.length=64
 last:w.last.length=64
 row: ∀r∈w.rows,r.length<=128
 ref: ∀x∈w.refs,-(N:Int)<=x/\x<=N
 las: ∀x∈w.last,0<=x/\x<=N
 txg:1<=w.txg/\w.txg<=N
 gone: ∀p∈w.gone,ptrOk p=true/\ptrHole p=false
 many:w.gone.length<=N
 blank: ∀i,w.refs.getD i 0<=0->w.rows.getD i []=[]
variable{w:Sto}
def Sto.W.le{M:Nat}(h:w.W N)(hNM:N<=M):w.W M:=
 ⟨h.rows,h.refs,h.last,h.row,fun x hx=>by have:=h.ref x hx;omega,fun x hx=>by have:=h.las x hx;omega,by have:=h.txg;omega,h.gone,by have:=h.many;omega,h.blank⟩
def Sto.W.good(h:w.W N):Aw.QP w.st:=⟨h.rows,h.row⟩
def mem_set{l:List α}{x y:α}(h:y∈l.set i x):y=x∨y∈l:=(List.mem_or_eq_of_mem_set h).symm
theorem getD_set(l:List α)(i j:Nat)(x d:α):(l.set i x).getD j d=if i=j/\j<l.length then x else l.getD j d:=by
 grind
theorem QdE{l:List α}{d:α}(h:i<l.length):l.getD i d∈l:=by
 grind
theorem Sto.W.drop(h:w.W N)(ha:a<64):(w.drop a).W (N+1):=by
 have hr:=h.ref _ (QdE (d:=0) (by rw[h.refs];exact ha));refine⟨?_,?_,?_,?_,?_,?_,?_,h.gone,?_,?_⟩
 ·unfold Sto.drop;dsimp only;split<;>simp[h.rows]
 ·unfold Sto.drop;simp[h.refs]
 ·unfold Sto.drop;dsimp only;split<;>simp[h.last]
 ·unfold Sto.drop;dsimp only;split
  ·intro r hr
   rcases mem_set hr with rfl|hr
   ·simp
   ·exact h.row r hr
  ·exact h.row
 ·intro x hx
  rcases mem_set hx with rfl|hx
  ·omega
  ·have:=h.ref x hx;omega
 ·unfold Sto.drop;dsimp only;split
  ·intro x hx
   rcases mem_set hx with rfl|hx
   ·omega
   ·have:=h.las x hx;omega
  ·intro x hx;have:=h.las x hx;omega
 ·have:=h.txg;grind [Sto.drop]
 ·have:=h.many;grind [Sto.drop]
 ·intro i hi
  unfold Sto.drop at hi⊢;dsimp only at hi⊢;rw[getD_set] at hi
  by_cases hai:a=i/\i<w.refs.length
  ·obtain⟨rfl,_⟩:=hai
   rw[if_pos ⟨rfl,by omega⟩] at hi;split
   ·grind
   ·exact h.blank a (by omega)
  ·rw[if_neg hai] at hi
   have:=h.blank i hi
   grind
theorem Sto.W.dropL{l:List Ptr}: ∀{w:Sto} {N:Nat},w.W N->(∀p∈l,ptrOk p=true/\ptrHole p=false)->(w.dropL l).W (N+l.length):=by
 induction l with
 |nil=>exact fun h _=>h
 |cons p l ih=>
  intro w N h hl;have hp:=hl p List.mem_cons_self;have:=ih (h.drop (a:=p.pat.toNat) (by have:=Aw.QdD hp.1 hp.2;omega)) fun q hq=>hl q (List.mem_cons_of_mem _ hq)
  exact this.le (by grind)
def Qfh: ∀(l:List Ptr) (w:Sto),(w.dropL l).gone=w.gone/\(w.dropL l).txg=w.txg/\(w.dropL l).same=w.same
 |[],w=>⟨rfl,rfl,rfl⟩
 |p::l,w=>Qfh l (w.drop p.pat.toNat)
theorem Sto.W.next(h:w.W N):w.next.W (2*N+1):=by
 have h1:=(Sto.W.dropL h h.gone).le (M:=2*N+1) (by have:=h.many;omega);have h2:=h.txg;have h3:=(Qfh w.gone w).2.1;exact⟨h1.rows,h1.refs,h1.last,h1.row,h1.ref,h1.las,by unfold Sto.next;grind,by grind [Sto.next],by simp[Sto.next],h1.blank⟩
theorem Sto.W.free(h:w.W N){p:Ptr}(hp:ptrOk p=true):(w.free p).W (N+1):=by
 unfold Sto.free;cases hh:ptrHole p
 ·simp only[Bool.false_eq_true,if_false]
  split
  ·refine⟨h.rows,h.refs,h.last,h.row,fun x hx=>by have:=h.ref x hx;omega,fun x hx=>by have:=h.las x hx;omega,by have:=h.txg;grind,fun q hq=>?_,by have:=h.many;grind,h.blank⟩
   rcases List.mem_append.1 hq with hq|hq
   ·exact h.gone q hq
   grind
  ·exact h.drop (by have:=Aw.QdD hp hh;omega)
 ·simp only[if_true];exact h.le (by omega)
theorem QkZ{text:List UInt8}{level:Int}(h:w.seek text level=some a):8<=a/\a<64/\(w.refs.getD a 0=0∨level=0/\w.rows.getD a []=text/\w.last.getD a 0<w.txg):=by
 have key: ∀{p:Nat->Bool},(A1 8 56).find? p=some a->8<=a/\a<64/\p a=true:=fun{p} h=>by
  grind
 unfold Sto.seek at h;rcases Option.or_eq_some_iff.1 h with h|⟨_,h⟩
 ·split at h
  ·rename_i hc
   obtain⟨h1,h2,h3⟩:=key h
   grind
  ·cases h
 ·obtain⟨h1,h2,h3⟩:=key h
  grind
theorem Qnv{a birth level:Int}{text:List UInt8}(h:(ptrOf a birth level text).2=true):
 (ptrOf a birth level text).1=⟨a,birth,text.length,(sumOf text:Nat),level⟩/\1<=text.length/\text.length<=128/\ptrOk (ptrOf a birth level text).1=true/\ptrHole (ptrOf a birth level text).1=false:=by
 unfold ptrOf at h⊢;split at h
 ·rename_i hc
  rw[if_pos hc];simp only[Bool.and_eq_true,inR,decide_eq_true_eq] at hc;refine⟨rfl,by omega,by omega,hc.2,?_⟩;refine decide_eq_false fun e=>?_
  grind [hole]
 ·cases h
theorem QeT(w:Sto)(text:List UInt8)(level:Int):(w.write text level).1.gone=w.gone:=by
 unfold Sto.write;cases w.seek text level with
 |none=>rfl
 |some a=>simp only[Sto.put];split<;>rfl
def Qg6(w:Sto)(text:List UInt8)(level:Int):(w.write text level).1.txg=w.txg/\(w.write text level).1.same=w.same:=by
 unfold Sto.write;cases w.seek text level with
 |none=>exact⟨rfl,rfl⟩
 |some a=>simp only[Sto.put];split<;>exact⟨rfl,rfl⟩
theorem Sto.W.write(h:w.W N)(text:List UInt8)(level:Int):(w.write text level).1.W (N+1)/\ptrOk (w.write text level).2.1=true:=by
 unfold Sto.write;cases hs:w.seek text level with
 |none=>exact⟨h.le (by omega),Aw.QdA⟩
 |some a=>
  dsimp only[Sto.put];cases hp:(ptrOf a w.txg level text).2
  ·exact⟨h.le (by omega),Aw.QdA⟩
  ·obtain⟨h1,h2,h3,h4,h5⟩:=Qnv hp
   obtain⟨g1,g2,g3⟩:=QkZ hs;rw[if_pos rfl];refine⟨?_,h4⟩;have hr:=h.ref _ (QdE (d:=0) (by rw[h.refs];exact g2));have ht:=h.txg;refine⟨by simp[Sto.lay1,h.rows],by simp[Sto.lay1,h.refs],by simp[Sto.lay1,h.last],?_,?_,?_,by unfold Sto.lay1;grind,h.gone,by have:=h.many;grind [Sto.lay1],?_⟩
   ·intro r hr
    rcases mem_set hr with rfl|hr
    ·exact h3
    ·exact h.row r hr
   ·intro x hx
    rcases mem_set hx with rfl|hx
    ·omega
    ·have:=h.ref x hx;omega
   ·intro x hx
    rcases mem_set hx with rfl|hx
    ·omega
    ·have:=h.las x hx;omega
   ·intro i hi
    unfold Sto.lay1 at hi⊢;dsimp only at hi⊢;rw[getD_set] at hi⊢
    by_cases hai:a=i/\i<w.refs.length
    ·obtain⟨rfl,_⟩:=hai
     rw[if_pos ⟨rfl,by omega⟩] at hi;exfalso;rcases g3 with g3|⟨_,g3,_⟩
     ·omega
     ·have:=h.blank a (by omega)
      grind
    ·rw[if_neg hai] at hi
     rw[h.refs,<-h.rows] at hai;rw[if_neg hai];exact h.blank i hi
end Pl
end
section
open Go.RowKit
namespace Aw
variable{a:Nat}{p:Nat->Bool}
attribute [local irreducible] ASeq ADraw AWP Loc AStep Fg.PlanF Fg.Flts EndR
section
variable{P:Program}{ops:Array Oper}{K:St->Prop}{Q:Exit->St->Prop}{l:List Oper}{n:Nat}{env:List (Nat×AV)}{H H':List Blk}{ty:AC}{pos:String}{after:Array Edge}{gd:Option (Nat×Bool)}{T T0:AC}{F:TyF}{u v:AB}{k g i j sz:Nat}{rows rows':List (List D)}{r:List D}{x:D}
theorem QlP(hT:tyf P T=some F)(hu:aval env u= .ept k g i j)(hk:H[k]? =some (.arr g sz T0 rows))(hr:rows[i]? =some r)(hn:rows.set i (r.set j x)=rows')(hv:aval env v= .d x:=by rfl)(hj:Nat.blt j r.length=true:=by rfl)(hone:x.cell=true:=by rfl)(hsz:F.size=1:=by rfl)
 (hw:awanted ops env ⟨none,.store T u v,ty,pos,after,gd⟩=some true:=by rfl) (hg:gdOk ops n ⟨none,.store T u v,ty,pos,after,gd⟩=true:=by rfl)
 (hH: ∀R:List Blk->Prop,R H'->R (H.set k (.arr g sz T0 rows')):=by intro R hR;simp only[List.set_cons_zero,List.set_cons_succ,Nat.zero_add];exact hR)
 (kk:K ⟨n,env,H'⟩):AStep P ops ⟨none,.store T u v,ty,pos,after,gd⟩ K ⟨n,env,H⟩:=
 astep (Qgd hT hu hk hr (by simp_all) hv hone hsz) hw rfl hg (by have:=hH (fun r=>r=H') rfl;rw[hn,this];exact kk)
theorem QhG(hT:tyf P T=some F)(hu:aval env u= .ept k g i j)(hk:H[k]? =some (.arr g sz T0 rows))(hr:rows[i]? =some r)(hn:rows.set i (r.set j x)=rows')(hv:aval env v= .d x:=by rfl)(hj:Nat.blt j r.length=true:=by rfl)(hone:x.cell=true:=by rfl)(hsz:F.size=1:=by rfl)
 (hw:awanted ops env ⟨none,.store T u v,ty,pos,after,gd⟩=some true:=by rfl) (hg:gdOk ops n ⟨none,.store T u v,ty,pos,after,gd⟩=true:=by rfl)
 (hH: ∀R:List Blk->Prop,R H'->R (H.set k (.arr g sz T0 rows')):=by intro R hR;simp only[List.set_cons_zero,List.set_cons_succ,Nat.zero_add];exact hR)
 (kk:ASeq P ops Q l ⟨n,env,H'⟩):ASeq P ops Q (⟨none,.store T u v,ty,pos,after,gd⟩::l) ⟨n,env,H⟩:=
 QiW (Qgd hT hu hk hr (by simp_all) hv hone hsz) hw hg (by have:=hH (fun r=>r=H') rfl;grind)
end
abbrev rI(l:List Int):List (List D):=l.map fun n=>[dI n]
abbrev rS(l:List (List UInt8)):List (List D):=l.map fun s=>[dS s]
theorem QfD{l:List Int}(h:a<l.length):(rI l)[0+(a:Int).toNat]? =some [dI (l.getD a 0)]:=by grind
theorem Qjk{l:List Int}{x y:Int}:(rI l).set (0+(a:Int).toNat) ([dI x].set 0 (dI y))=rI (l.set a y):=by simp_all
theorem Qjj{l:List (List UInt8)}(h:a<l.length):(rS l)[0+(a:Int).toNat]? =some [dS (l.getD a [])]:=by grind
theorem Qns{l:List (List UInt8)}{x y:List UInt8}:(rS l).set (0+(a:Int).toNat) ([dS x].set 0 (dS y))=rS (l.set a y):=by simp_all
abbrev oS(g:Nat)(w:Pl.Sto):AV:= .agg [.osl 0 1 0 64,.osl 1 1 0 64,.osl 2 1 0 64,.d (dI w.txg),.osl 3 g 0 w.gone.length,.d (dI 0),.osl 4 1 0 0,.d (dB w.same)]
abbrev hS(g:Nat)(w:Pl.Sto):List Blk:=[.arr 1 1 9 (rS w.rows),.arr 1 1 3 (rI w.refs),.arr 1 1 3 (rI w.last),.arr g 5 31 (w.gone.map rPtr),.arr 1 5 31 []]
abbrev gS(g:Nat)(w:Pl.Sto):List AV:=[.osl 0 1 0 64,.osl 1 1 0 64,.osl 2 1 0 64,.osl 3 g 0 w.gone.length,.osl 4 1 0 0]
def eGive(refs last:List Int)(a:Nat)(ha:a<64)(h1:refs.length=64)(h2:last.length=64)(hb: -1000000000<=refs.getD a 0/\refs.getD a 0<=1000000000):
 DoesE A0 230 [.agg [.osl 0 1 0 64,.osl 1 1 0 64],.d (dI a)] [.arr 1 1 3 (rI refs),.arr 1 1 3 (rI last)] [.osl 0 1 0 64,.osl 1 1 0 64]
  (fun x H=>x= .agg [.osl 0 1 0 64,.osl 1 1 0 64]/\H=[.arr 1 1 3 (rI (refs.set a (refs.getD a 0 -1))),.arr 1 1 3 (rI (if refs.getD a 0 -1=0 then last.set a 0 else last))]):=by
 have hr:=QfD (l:=refs) (a:=a) (by omega);have hl:=QfD (l:=last) (a:=a) (by omega);have hr2:=QfD (l:=refs.set a (refs.getD a 0 -1)) (a:=a) (by simp;omega);rw[Pl.getD_set,if_pos ⟨rfl,by omega⟩] at hr2;have s1:=fun y=>Qjk (l:=refs) (a:=a) (x:=refs.getD a 0) (y:=y)
 have s2:=fun y=>Qjk (l:=last) (a:=a) (x:=last.getD a 0) (y:=y)
 generalize refs.getD a 0=rv at*;generalize last.getD a 0=lv at*;refine kH fun gvs=>?_
 repeat' first|refine kS ?_|(show AWP _ (.region 1 _ _) _ _;refine(Fg.awp_drawF (id:=1) [] [10] ?_))|refine qD (QcY Ty.h rfl rfl hr rfl) ?_|refine qS (QcY Ty.h rfl rfl hr2 rfl) ?_|refine(QlP Ty.h rfl rfl hr (s1 _) (kk:=?_))|refine(QhG Ty.h rfl rfl hl (s2 _) (kk:=?_))|refine kU ?_|refine kV ?_ ?_<;>intro q|fail
 all_goals first|refine Q1 2 (hx:=?_);refine⟨rfl,?_⟩;rw[if_pos (by simpa using q)];rfl|refine Q1 2 (hx:=?_);refine⟨rfl,?_⟩;rw[if_neg (by simpa using q)];rfl|skip
def eDrop(g:Nat)(w:Pl.Sto)(N:Nat)(hN:N<=1000000)(hw:w.W N)(a:Nat)(ha:a<64):
 DoesE A0 154 [oS g w,.d (dI a)] (hS g w) (gS g w) (fun x H=>x=oS g (w.drop a)/\H=hS g (w.drop a)):=by
 have hb:=hw.ref _ (Pl.QdE (d:=0) (i:=a) (by rw[hw.refs];omega));have c:=eGive w.refs w.last a ha hw.refs hw.last (by omega);have hq:A8 (w.drop a=⟨if w.refs.getD a 0 -1=0 then w.rows.set a [] else w.rows,w.refs.set a (w.refs.getD a 0 -1),if w.refs.getD a 0 -1=0 then w.last.set a 0 else w.last,w.txg,w.gone,w.same⟩):=Pm.hid rfl;have hr2:=QfD (l:=w.refs.set a (w.refs.getD a 0 -1)) (a:=a) (by simp;have:=hw.refs;omega);rw[Pl.getD_set,if_pos ⟨rfl,by have:=hw.refs;omega⟩] at hr2;have hl:=Qjj (l:=w.rows) (a:=a) (by rw[hw.rows];omega);have s2:=fun y=>Qns (l:=w.rows) (a:=a) (x:=w.rows.getD a []) (y:=y)
 rw[hq.out];clear hq hw;obtain⟨rows,refs,last,txg,gone,same⟩:=w;simp only at*;have l1:(refs.set a (refs.getD a 0 -1)).length=refs.length:=by simp
 have l2:(if refs.getD a 0 -1=0 then last.set a 0 else last).length=last.length:=by split<;>simp
 generalize refs.getD a 0 -1=rv at*;generalize refs.set a rv=refs2 at*;generalize (if rv=0 then last.set a 0 else last)=last2 at*;generalize rows.getD a []=lv at*;refine kH fun gvs=>?_
 repeat' first|refine kS ?_|refine QA [1,2] c cK (k:=kX ?_)|refine qS (QcY Ty.h rfl rfl hr2 rfl) ?_|refine(QhG Ty.h rfl rfl hl (s2 _) (kk:=?_))|refine kU ?_|refine kV ?_ ?_<;>intro q|fail
 all_goals first|refine Q1 5 (hx:=?_);refine⟨rfl,?_⟩;rw[if_pos (by simpa using q)];rfl|refine Q1 5 (hx:=?_);refine⟨rfl,?_⟩;rw[if_neg (by simpa using q)];rfl|skip
theorem eFree(g:Nat)(w:Pl.Sto)(N:Nat)(hN:N<=1000000)(hw:w.W N)(p:Pl.Ptr)(hp:Pl.ptrOk p=true):
 DoesE A0 97 [oS g w,.d (dPtr p)] (hS g w) (gS g w) (fun x H=> ∃g',x=oS g' (w.free p)/\H=hS g' (w.free p)):=by
 have c0:=Qdk p;have hmany:=hw.many;cases hh:Pl.ptrHole p;rotate_left
 ·have hq:A8 (w.free p=w):=Pm.hid (by unfold Pl.Sto.free;rw[if_pos hh])
  rw[hh] at c0;rw[hq.out];refine kH fun gvs=>?_
  refine Qa 6 (h:=?_)
  repeat refine kA ?_
  all_goals(refine Q1 5 (hx:=?_);exact⟨g,rfl,rfl⟩)
 rw[hh] at c0;have hat:=QdD hp hh
 have hbi:1<=p.birth:=by
  rw[Qka,hh] at hp;simp[Pl.inR] at hp;omega
 obtain⟨a,ha⟩:=Int.eq_ofNat_of_zero_le hat.1;have c:=eDrop g w N hN hw a (by omega);have hq:A8 (w.free p=if p.birth<w.txg then⟨w.rows,w.refs,w.last,w.txg,w.gone++[p],w.same⟩ else w.drop a):=Pm.hid (by unfold Pl.Sto.free;rw[if_neg (by simp[hh]),ha];rfl);rw[hq.out];have hwd:=hw.drop (a:=a) (by omega);have l0:(w.drop a).rows.length=w.rows.length:=by rw[hwd.rows,hw.rows]
 have l1:(w.drop a).refs.length=w.refs.length:=by rw[hwd.refs,hw.refs]
 have l2:(w.drop a).last.length=w.last.length:=by rw[hwd.last,hw.last]
 have l3:(w.drop a).gone.length=w.gone.length:=rfl;clear hwd;generalize w.drop a=wd at*;clear hq hw hp hh;obtain⟨rows,refs,last,txg,gone,same⟩:=w;obtain⟨pat,birth,size,sum,level⟩:=p;simp only at*;subst ha
 by_cases hlt:birth<txg
 ·rw[if_pos hlt]
  clear c;refine kH fun gvs=>?_
  refine Qa 6 (h:=?_)
  repeat' first|refine kS ?_|refine QV Ty.h rfl Ty.h (hb:=?_) (kk:=?_)|refine kU ?_|refine kV ?_ ?_<;>intro q|fail
  all_goals first|exfalso;simp only[decide_eq_true_eq,decide_eq_false_iff_not] at*;omega|simp;omega|refine Q1 5 (hx:=?_);refine⟨g+1,?_,?_⟩<;>simp only[oS,hS,List.length_append,List.map_append,List.length_cons,List.length_nil]<;>rfl|skip
 ·rw[if_neg hlt]
  refine kH fun gvs=>?_
  refine Qa 6 (h:=?_)
  repeat' first|refine kS ?_|refine QA [0,1,2,3,4] c cK (k:=kX ?_)|refine kU ?_|refine kV ?_ ?_<;>intro q|fail
  all_goals first|exfalso;simp only[decide_eq_true_eq,decide_eq_false_iff_not] at*;omega|refine Q1 5 (hx:=?_);exact⟨g,rfl,rfl⟩|skip
def al5In0(a:Int):Pure A0 234 [.sl false 1 [],dI a] (dB false):=by
 refine kE ?_
 repeat refine kA ?_
 refine Qo (fun m st=>m=0/\st=⟨18,[(5,.d (dI 0)),(0,.d (.sl false 1 [])),(1,.d (dI a))],[]⟩) [5,0,1] 0 0 ⟨rfl,rfl⟩ (round:=?_);rintro m st ⟨rfl,rfl⟩
 repeat refine kA ?_
 all_goals exact Qb (hx:=rfl)
def QhC{k:Nat}(h: ∀i,i<k->p (8+i)=false)(hk:k=56):(A1 8 56).find? p=none:=by
 rw[List.find?_eq_none];intro x hx;rw[A4] at hx;have:=h (x -8) (by omega);rw[show 8+(x -8)=x by omega] at this;rw[this];simp
def QhB{k:Nat}(h: ∀i,i<k->p (8+i)=false)(hk:k<56)(hp:p (8+k)=true):(A1 8 56).find? p=some (8+k):=by
 rw[List.find?_eq_some_iff_getElem];refine⟨hp,k,by simpa using hk,by simp,fun j hj=>?_⟩;simp only[List.getElem_range',Nat.one_mul,Bool.not_eq_eq_eq_not,Bool.not_true];exact h j hj
def QcH:Option Nat->Int
 |none=> -1
 |some a=>a
def al5Find(refs last:List Int)(h1:refs.length=64):Pure A0 162 [.agg [dInts refs,dInts last],dI 8,.sl false 1 []] (dI (QcH ((A1 8 56).find? fun i=>refs.getD i 0==0))):=by
 have c1:=al2Row 8;have hc:Pl.inR 8 8 63=true:=by decide
 rw[hc] at c1;have c2:=fun a=>al5In0 a
 refine kE ?_;refine Qa 0 (h:=?_)
 repeat refine kA ?_
 refine Qo (fun m st=> ∃k:Nat,k<=56/\m=56 -k/\A8 (∀i,i<k->(refs.getD (8+i) 0==0)=false)/\st=⟨38,[(8,.d (dI k)),(7,.d (dI 56)),(1,.d (dI 8)),(2,.d (.sl false 1 [])),(3,.d (.pd [dInts refs,dInts last]))],[.row 1 []]⟩) [8,7,1,2,3] 1 56 ⟨0,by omega,rfl,Pm.hid (fun i hi=>by omega),rfl⟩ (round:=?_);rintro m st ⟨k,hk,rfl,hA,rfl⟩
 repeat refine kG ?_
 cases q4:decide ((k:Int)<56)
 ·have:k=56:=by simp at q4;omega
  rw[QhC hA.out this]
  repeat refine kA ?_
  exact Qb (hx:=rfl)
 have hk2:k<56:=by simp at q4;omega
 have hr:=QfD (l:=refs) (a:=8+k) (by omega);rw[AD] at hr;have hS:A8 ((refs.getD (8+k) 0==0)=true->(A1 8 56).find? (fun i=>refs.getD i 0==0)=some (8+k)):=Pm.hid fun h=>QhB hA.out hk2 h
 have hF:A8 ((refs.getD (8+k) 0==0)=false-> ∀i,i<k+1->(refs.getD (8+i) 0==0)=false):=Pm.hid fun h i hi=>by
  by_cases hik:i=k
  ·rw[hik];exact h
  ·exact hA.out i (by omega)
 have e2:(8:Int)+((8:Int) -8+k)%56=((8+k:Nat):Int):=by omega
 clear hA;generalize refs.getD (8+k) 0=rv at*
 repeat' first|refine kS ?_|refine qS (Qdh cK (c2 _) rfl) ?_|refine qS (Qgs rfl rfl (by omega) (by omega)) ?_|refine qS (QcV Ty.h rfl Ty.h rfl rfl rfl (by rw[e2];omega) (by rw[e2];exact hr)) ?_|refine kU ?_|refine kV ?_ ?_<;>intro q|fail
 all_goals first|exact Qb (hx:=by rw[hS.out (by assumption),QcH,e2])|refine Qh (56 -(k+1)) (by omega) ⟨k+1,by omega,rfl,Pm.hid (hF.out (by assumption)),?_⟩;simp[keepE,go_sem]
section
variable{P:Program}{dst:Option Tmp}{ty:AC}{pos:String}{after:Array Edge}{gd:Option (Nat×Bool)}{env:List (Nat×AV)}{H:List Blk}{f:FuncId}{xs:Array AB}{tys:Array AC}{ds:List D}{x:D}{w:Pl.Sto}{N k0 k1 k2 k3 k4 g:Nat}{T0 T1 T2 T3 T4:AC}{u:AB}{us:List AB}
theorem Qfo{α:Type}{l:List α}{n:Nat}(h:l.length=n):(l.drop 0).take n=l:=by grind
theorem QqH(hw:w.W N)(h0:H[k0]? =some (.arr 1 1 T0 (rS w.rows)))(h1:H[k1]? =some (.arr 1 1 T1 (rI w.refs)))(h2:H[k2]? =some (.arr 1 1 T2 (rI w.last)))(h3:H[k3]? =some (.arr g 5 T3 (w.gone.map rPtr)))(h4:H[k4]? =some (.arr 1 5 T4 [])):
 (AV.ice H 4 (.agg [.osl k0 1 0 64,.osl k1 1 0 64,.osl k2 1 0 64,.d (dI w.txg),.osl k3 g 0 w.gone.length,.d (dI 0),.osl k4 1 0 0,.d (dB w.same)])).weak=dSt w.st:=by
 simp only[AV.ice,A7,AE,h0,h1,h2,h3,h4,if_true];rw[Qfo (l:=rS w.rows) (by simp[hw.rows]),Qfo (l:=rI w.refs) (by simp[hw.refs]),Qfo (l:=rI w.last) (by simp[hw.last]),Qfo (l:=w.gone.map rPtr) (by simp)];rfl
theorem ice_sp{refs last:List Int}(hr:refs.length=64)(hl:last.length=64)(h1:H[k1]? =some (.arr 1 1 T1 (rI refs)))(h2:H[k2]? =some (.arr 1 1 T2 (rI last))):
 (AV.ice H 4 (.agg [.osl k1 1 0 64,.osl k2 1 0 64])).weak= .agg [dInts refs,dInts last]:=by
 simp only[AV.ice,A7,AE,h1,h2,if_true];rw[Qfo (l:=rI refs) (by simp[hr]),Qfo (l:=rI last) (by simp[hl])];rfl
def QnA: ∀{us:List AB} {ds:List D},allD (us.map (aval env))=some ds->us.map (fun u=>(aval env u).ice H 4)=ds:=by
 intro us ds h;have:=Qf6 h;have h2:=congrArg (List.map (AV.ice H 4)) this;rw[AF,AF] at h2;have h3: ∀l:List D,l.map (AV.ice H 4 ∘ AV.d)=l:=fun l=>by rw[show(AV.ice H 4 ∘ AV.d)=id from rfl,List.map_id]
 rw[h3] at h2;exact h2
theorem QcZ(hf: ∀args w,(callFunc f args).run P w= .ok (.enter f args) w)(h:Pure P f (dSt w.st::ds) x)(hw:w.W N)(hx:x.flat=true:=by rfl)(hxs:xs.toList=u::us:=by rfl)
 (hu:aval env u= .agg [.osl k0 1 0 64,.osl k1 1 0 64,.osl k2 1 0 64,.d (dI w.txg),.osl k3 g 0 w.gone.length,.d (dI 0),.osl k4 1 0 0,.d (dB w.same)]:=by rfl)
 (h0:H[k0]? =some (.arr 1 1 T0 (rS w.rows)):=by rfl) (h1:H[k1]? =some (.arr 1 1 T1 (rI w.refs)):=by rfl) (h2:H[k2]? =some (.arr 1 1 T2 (rI w.last)):=by rfl) (h3:H[k3]? =some (.arr g 5 T3 (w.gone.map rPtr)):=by rfl) (h4:H[k4]? =some (.arr 1 5 T4 []):=by rfl)
 (hd:allD (us.map (aval env))=some ds:=by rfl) (hwk:D.weakL ds=ds:=by rfl):Loc P ⟨dst,.call ⟨.value (.func f),xs,tys⟩,ty,pos,after,gd⟩ env H (.d x) none:=by
 refine QfJ hf (Pure.arg (l:=xs.toList.map fun u=>(aval env u).ice H 4) h ?_) hx rfl;rw[hxs,A7,QnA hd,hu]
 grind [D.weakL,QqH]
theorem Qhl{refs last:List Int}(hf: ∀args w,(callFunc f args).run P w= .ok (.enter f args) w)(h:Pure P f (.agg [dInts refs,dInts last]::ds) x)(hr:refs.length=64)(hl:last.length=64)(hx:x.flat=true:=by rfl)(hxs:xs.toList=u::us:=by rfl)
 (hu:aval env u= .agg [.osl k1 1 0 64,.osl k2 1 0 64]:=by rfl) (h1:H[k1]? =some (.arr 1 1 T1 (rI refs)):=by rfl) (h2:H[k2]? =some (.arr 1 1 T2 (rI last)):=by rfl)
 (hd:D.weakL (us.map fun u=>(aval env u).ice H 4)=ds:=by rfl):Loc P ⟨dst,.call ⟨.value (.func f),xs,tys⟩,ty,pos,after,gd⟩ env H (.d x) none:=by
 refine QfJ hf (Pure.arg (l:=xs.toList.map fun u=>(aval env u).ice H 4) h ?_) hx rfl
 grind [D.weakL,ice_sp]
end
def QtB(s:List UInt8):Pure A0 231 [dS s] (dB (Pl.inR (s.length:Int) 1 128)):=by
 refine kE ?_
 repeat' first|refine kS ?_|refine qS (Qdh cK (al6In _ _ _) rfl) ?_|refine kU ?_|fail
 all_goals exact Qb (hx:=rfl)
def aPtrOf(a birth level:Int)(text:List UInt8)(ht:text.length<=Pm.big):Pure A0 156 [dI a,dI birth,dI level,dS text] (.tup [dPtr (Pl.ptrOf a birth level text).1,dB (Pl.ptrOf a birth level text).2]):=by
 have hd:A8 (Pl.ptrOf a birth level text=if Pl.inR (text.length:Int) 1 128&&Pl.ptrOk ⟨a,birth,text.length,(Pl.sumOf text:Nat),level⟩ then(⟨a,birth,text.length,(Pl.sumOf text:Nat),level⟩,true) else(Pl.hole,false)):=Pm.hid rfl;have c1:=QtB text;have c2:=aSumOf text ht;have c3:=aPtrOk ⟨a,birth,text.length,(Pl.sumOf text:Nat),level⟩;generalize Pl.ptrOk ⟨a,birth,text.length,(Pl.sumOf text:Nat),level⟩=ok at*;generalize Pl.inR (text.length:Int) 1 128=bl at*;rw[hd.out];clear hd;cases bl
 ·refine kD ?_
  repeat refine kA ?_
  all_goals((refine Qa 0 (h:=?_);refine QR (hx:=?_));rfl)
 cases ok
 ·refine kD ?_
  repeat refine kA ?_
  all_goals((refine Qa 0 (h:=?_);refine QR (hx:=?_));rfl)
 ·refine kD ?_
  repeat refine kA ?_
  all_goals((refine Qa 0 (h:=?_);refine QR (hx:=?_));rfl)
theorem al7Like(s:Pm.Store)(text:List UInt8)(h0:s.1.length=64)(h1:s.2.1.1.length=64)(h2:s.2.1.2.length=64):
 Pure A0 161 [dSt s,dS text] (dI (QcH ((A1 8 56).find? fun i=>s.1.getD i []==text&&decide (s.2.1.2.getD i 0<s.2.2.1)&&decide (s.2.1.1.getD i 0<s.2.2.1)))):=by
 obtain⟨rows,⟨refs,last⟩,txg,gone,keep,dead,same⟩:=s;simp only at*;refine kE ?_;refine Qa 0 (h:=?_)
 repeat refine kA ?_
 refine Qo (fun m st=> ∃k:Nat,k<=56/\m=56 -k/\A8 (∀i,i<k->(rows.getD (8+i) []==text&&decide (last.getD (8+i) 0<txg)&&decide (refs.getD (8+i) 0<txg))=false)/\st=⟨40,[(5,.d (dI ((8+k:Nat)))),(1,.d (dS text)),(2,.d (.pd (rSt (rows,(refs,last),txg,gone,keep,dead,same))))],[.row 1 []]⟩) [5,1,2] 1 56 ⟨0,by omega,rfl,Pm.hid (fun i hi=>by omega),rfl⟩ (round:=?_);rintro m st ⟨k,hk,rfl,hA,rfl⟩
 repeat refine kG ?_
 cases q4:decide (((8+k:Nat):Int)<64)
 ·have:k=56:=by simp at q4;omega
  rw[QhC (p:=fun i=>rows.getD i []==text&&decide (last.getD i 0<txg)&&decide (refs.getD i 0<txg)) hA.out this]
  repeat refine kA ?_
  exact Qb (hx:=rfl)
 have hk2:k<56:=by simp at q4;omega
 have hr0:=Qjj (l:=rows) (a:=8+k) (by omega);have hr1:=QfD (l:=refs) (a:=8+k) (by omega);have hr2:=QfD (l:=last) (a:=8+k) (by omega);rw[AD] at hr0 hr1 hr2
 have hS:A8 ((rows.getD (8+k) []==text&&decide (last.getD (8+k) 0<txg)&&decide (refs.getD (8+k) 0<txg))=true->(A1 8 56).find? (fun i=>rows.getD i []==text&&decide (last.getD i 0<txg)&&decide (refs.getD i 0<txg))=some (8+k)):=
  Pm.hid fun h=>QhB (p:=fun i=>rows.getD i []==text&&decide (last.getD i 0<txg)&&decide (refs.getD i 0<txg)) hA.out hk2 h
 have hF:A8 ((rows.getD (8+k) []==text&&decide (last.getD (8+k) 0<txg)&&decide (refs.getD (8+k) 0<txg))=false-> ∀i,i<k+1->(rows.getD (8+i) []==text&&decide (last.getD (8+i) 0<txg)&&decide (refs.getD (8+i) 0<txg))=false):=Pm.hid fun h i hi=>by
  by_cases hik:i=k
  ·rw[hik];exact h
  ·exact hA.out i (by omega)
 clear hA;generalize rows.getD (8+k) []=rv at*;generalize last.getD (8+k) 0=lv at*;generalize refs.getD (8+k) 0=fv at*
 repeat' first|refine kS ?_|refine qD (iy hr0) ?_|refine qD (iy hr1) ?_|refine qD (iy hr2) ?_|refine kU ?_|refine kV ?_ ?_<;>intro q|fail
 all_goals first|refine Qb (hx:=?_);rw[hS.out (by simp_all)];rfl|refine Qh (56 -(k+1)) (by omega) ⟨k+1,by omega,rfl,Pm.hid (hF.out (by first|(simp_all;done)|(simp_all;omega))),?_⟩;simp[keepE,go_sem];omega
theorem eWrite(g:Nat)(w:Pl.Sto)(N:Nat)(hN:N<=1000000)(hw:w.W N)(text:List UInt8)(ht:text.length<=Pm.big)(level:Int):
 DoesE A0 95 [oS g w,.d (dS text),.d (dI level)] (hS g w) (gS g w) (fun x H=>x= .tup [oS g (w.write text level).1,.d (dPtr (w.write text level).2.1),.d (dB (w.write text level).2.2)]/\H=hS g (w.write text level).1):=by
 have c1:=al7Like w.st text hw.rows hw.refs hw.last;have c2:=al5Find w.refs w.last hw.refs
 have hs1: ∀a,w.like text=some a->a<64:=fun a h=>by
  have h1:=A3 h;rw[A4] at h1;omega
 have hs2: ∀a,w.room=some a->a<64:=fun a h=>by
  have h1:=A3 h;rw[A4] at h1;omega
 have hd:A8 (w.write text level=w.put text level ((if w.same&&level==0 then w.like text else none).or w.room)):=Pm.hid rfl;have e1:((A1 8 56).find? fun i=>w.st.1.getD i []==text&&decide (w.st.2.1.2.getD i 0<w.st.2.2.1)&&decide (w.st.2.1.1.getD i 0<w.st.2.2.1))=w.like text:=rfl;have e2:((A1 8 56).find? fun i=>w.refs.getD i 0==0)=w.room:=rfl;rw[e1] at c1;rw[e2] at c2;clear e1 e2;have hlen:=And.intro hw.refs hw.last;generalize w.write text level=wr at*;generalize w.like text=lk at*;generalize w.room=rm at*;have rows:=hw.rows
 have hbr: ∀a,a<64-> -1000000<=w.refs.getD a 0/\w.refs.getD a 0<=1000000:=fun a ha=>by
  have:=hw.ref _ (Pl.QdE (d:=0) (i:=a) (by rw[hw.refs];omega));omega
 have hf1:=fun a (ha:a<64)=>Qjj (l:=w.rows) (a:=a) (by omega)
 have hf2:=fun a (ha:a<64)=>QfD (l:=w.refs) (a:=a) (by omega)
 have hf3:=fun a (ha:a<64)=>QfD (l:=w.last) (a:=a) (by omega)
 have g1:=fun a=>Qns (l:=w.rows) (a:=a) (x:=w.rows.getD a []) (y:=text)
 have g2:=fun a y=>Qjk (l:=w.refs) (a:=a) (x:=w.refs.getD a 0) (y:=y)
 have g3:=fun a y=>Qjk (l:=w.last) (a:=a) (x:=w.last.getD a 0) (y:=y)
 have hw':=Pm.hid hw;have hla: ∀a,A8 (w.lay1 a text=⟨w.rows.set a text,w.refs.set a (w.refs.getD a 0+1),w.last.set a w.txg,w.txg,w.gone,w.same⟩):=fun a=>Pm.hid rfl
 have hlay: ∀a,A8 (hS g (w.lay1 a text)=[.arr 1 1 9 (rS (w.rows.set a text)),.arr 1 1 3 (rI (w.refs.set a (w.refs.getD a 0+1))),.arr 1 1 3 (rI (w.last.set a w.txg)),.arr g 5 31 (w.gone.map rPtr),.arr 1 5 31 []]):=fun a=>Pm.hid rfl
 have hlo: ∀a,A8 (oS g (w.lay1 a text)=oS g w):=fun a=>Pm.hid rfl
 clear hw rows
 by_cases hc:w.same=true/\level=0/\ ∃a,lk=some a
 ·obtain⟨h1,rfl,a,rfl⟩:=hc
  have ha:=hs1 a rfl;have c1:Pure A0 161 [dSt w.st,dS text] (dI a):=c1;have c3:=aPtrOf a w.txg 0 text ht;have hq:A8 (wr=if(Pl.ptrOf a w.txg 0 text).2 then(w.lay1 a text,(Pl.ptrOf a w.txg 0 text).1,true) else(w,Pl.hole,false)):=Pm.hid (by rw[hd.out,h1];rfl);have r1:=hf1 a ha;have r2:=hf2 a ha;have r3:=hf3 a ha;have hb:=hbr a ha;have g1:=g1 a;have g2:=g2 a;have g3:=g3 a;have hlay:=hlay a;have hlo:=hlo a;clear hd hf1 hf2 hf3 hs1 hs2 hbr c2 hla;generalize w.refs.getD a 0=fv at*;generalize w.last.getD a 0=lv at*;generalize w.rows.getD a []=rv at*;generalize Pl.ptrOf a w.txg 0 text=po at*;obtain⟨⟨p1,p2,p3,p4,p5⟩,ok⟩:=po;cases ok
  ·refine kH fun gvs=>?_
   repeat' first|refine kS ?_|refine qS (QcZ cK c1 hw'.out) ?_|refine kU ?_|refine kV ?_ ?_<;>intro q|fail
   all_goals first|exfalso;simp_all;done|exfalso;simp only[decide_eq_true_eq,decide_eq_false_iff_not,QcH] at*;omega|rw[hq.out];(refine QN 5 (hx:=?_);exact⟨rfl,rfl⟩)
  ·refine kH fun gvs=>?_
   repeat' first|refine kS ?_|refine qS (QcZ cK c1 hw'.out) ?_|refine(QhG Ty.h rfl rfl r1 g1 (kk:=?_))|(show AWP _ (.region 12 _ _) _ _;refine(Fg.awp_drawF (id:=12) [] [12] ?_))|refine qD (QcY Ty.h rfl rfl r2 rfl) ?_|refine(QlP Ty.h rfl rfl r2 (g2 _) (kk:=?_))|refine(QhG Ty.h rfl rfl r3 (g3 _) (kk:=?_))|(show AWP _ (.region 14 _ _) _ _;refine(Qa 8 (h:=Fg.awp_drawF (id:=14) [1] [2,3] ?_)))|refine kU ?_|refine kV ?_ ?_<;>intro q|fail
   all_goals first|exfalso;simp_all;done|exfalso;simp only[decide_eq_true_eq,decide_eq_false_iff_not,QcH] at*;omega|rw[hq.out];refine QN 5 (hx:=?_);refine⟨?_,?_⟩;rfl;exact hlay.out.symm
 ·have hne:w.same=true->level=0->lk=none:=fun h1 h2=>by
   cases lk with
   |none=>rfl
   |some a=>exact absurd ⟨h1,h2,a,rfl⟩ hc
  clear hc
  have hq:A8 (wr=w.put text level rm):=Pm.hid (by
   rw[hd.out];cases h1:w.same&&level==0
   ·rfl
   ·rw[hne (by simp at h1;exact h1.1) (by simp at h1;exact h1.2)];rfl)
  obtain⟨z,c1,hz⟩: ∃z:Int,Pure A0 161 [dSt w.st,dS text] (dI z)/\A8 (w.same=true->level=0->z= -1):=⟨_,c1,Pm.hid fun h1 h2=>by rw[hne h1 h2];rfl⟩;clear hne hd;cases rm with
  |none=>
   have c2:Pure A0 162 [.agg [dInts w.refs,dInts w.last],dI 8,.sl false 1 []] (dI (-1)):=c2;have hq:A8 (wr=(w,Pl.hole,false)):=Pm.hid hq.out;refine kH fun gvs=>?_
   repeat' first|refine kS ?_|refine qS (QcZ cK c1 hw'.out) ?_|refine qS (Qhl cK c2 hlen.1 hlen.2) ?_|refine kU ?_|refine kV ?_ ?_<;>intro q|fail
   all_goals first|exfalso;simp only[decide_eq_true_eq,decide_eq_false_iff_not] at*;omega|exfalso;have hz:=hz.out (by assumption) (by simp only[beq_iff_eq] at*;assumption);simp only[decide_eq_true_eq,decide_eq_false_iff_not] at*;omega|rw[hq.out];(refine QN 5 (hx:=?_);exact⟨rfl,rfl⟩)
  |some a=>
  have ha:=hs2 a rfl;have c2:Pure A0 162 [.agg [dInts w.refs,dInts w.last],dI 8,.sl false 1 []] (dI a):=c2;have hq:A8 (wr=if(Pl.ptrOf a w.txg level text).2 then(w.lay1 a text,(Pl.ptrOf a w.txg level text).1,true) else(w,Pl.hole,false)):=Pm.hid hq.out;have c3:=aPtrOf a w.txg level text ht;have r1:=hf1 a ha;have r2:=hf2 a ha;have r3:=hf3 a ha;have hb:=hbr a ha;have g1:=g1 a;have g2:=g2 a;have g3:=g3 a;have hlay:=hlay a;have hlo:=hlo a;clear hf1 hf2 hf3 hs1 hs2 hbr hla;generalize w.refs.getD a 0=fv at*;generalize w.last.getD a 0=lv at*;generalize w.rows.getD a []=rv at*;generalize Pl.ptrOf a w.txg level text=po at*;obtain⟨⟨p1,p2,p3,p4,p5⟩,ok⟩:=po;cases ok
  ·refine kH fun gvs=>?_
   repeat' first|refine kS ?_|refine qS (QcZ cK c1 hw'.out) ?_|refine qS (Qhl cK c2 hlen.1 hlen.2) ?_|refine kU ?_|refine kV ?_ ?_<;>intro q|fail
   all_goals first|exfalso;simp only[decide_eq_true_eq,decide_eq_false_iff_not] at*;omega|exfalso;have hz:=hz.out (by assumption) (by simp only[beq_iff_eq] at*;assumption);simp only[decide_eq_true_eq,decide_eq_false_iff_not] at*;omega|rw[hq.out];(refine QN 5 (hx:=?_);exact⟨rfl,rfl⟩)
  ·refine kH fun gvs=>?_
   repeat' first|refine kS ?_|refine qS (QcZ cK c1 hw'.out) ?_|refine qS (Qhl cK c2 hlen.1 hlen.2) ?_|refine(QhG Ty.h rfl rfl r1 g1 (kk:=?_))|(show AWP _ (.region 12 _ _) _ _;refine(Fg.awp_drawF (id:=12) [] [12] ?_))|refine qD (QcY Ty.h rfl rfl r2 rfl) ?_|refine(QlP Ty.h rfl rfl r2 (g2 _) (kk:=?_))|refine(QhG Ty.h rfl rfl r3 (g3 _) (kk:=?_))|(show AWP _ (.region 14 _ _) _ _;refine(Qa 9 (h:=Fg.awp_drawF (id:=14) [1] [2,3] ?_)))|refine kU ?_|refine kV ?_ ?_<;>intro q|fail
   all_goals first|exfalso;simp only[decide_eq_true_eq,decide_eq_false_iff_not] at*;omega|exfalso;have hz:=hz.out (by assumption) (by simp only[beq_iff_eq] at*;assumption);simp only[decide_eq_true_eq,decide_eq_false_iff_not] at*;omega|rw[hq.out];refine QN 5 (hx:=?_);refine⟨?_,?_⟩;rfl;exact hlay.out.symm
def Q9(s:Pm.Store)(t:Pl.Tree):List Pl.Ptr:=
 if t.depth=0∨Pl.ptrHole t.root=true then [] else t.root::(if t.depth=2 then(Qi s t.root 2).1.filter fun p=> !Pl.ptrHole p else [])
def QL(s:Pm.Store)(t:Pl.Tree)(depth level:Int):List Pl.Ptr:=
 if t.depth≠depth then A2 4 Pl.hole else if level=depth then [t.root] else if(Qi s t.root depth).2 then(Qi s t.root depth).1 else A2 4 Pl.hole
def eBelow(g:Nat)(w:Pl.Sto)(N:Nat)(hw:w.W N)(p:Pl.Ptr)(level:Int):
 DoesE A0 233 [oS g w,.d (dPtr p),.d (dI level)] (hS g w) (gS g w) (fun x H=>x= .tup [.d (tPtrs (Qi w.st p level).1),.d (dB (Qi w.st p level).2)]/\H=hS g w):=by
 cases h1:Pl.ptrHole p;rotate_left
 ·have hB:A8 (Qi w.st p level=(A2 4 Pl.hole,true)):=Pm.hid (by unfold Qi;rw[if_pos h1])
  rw[hB.out];refine kH fun gvs=>?_
  refine Qa 6 (h:=?_)
  repeat' first|refine kS ?_|refine qS (lC (h1▸Qdk p)) ?_|refine qS (Qdh cK (Qhd 4 (by omega)) rfl) ?_|refine kU ?_|fail
  refine Qdt 5 (hx:=?_);exact⟨rfl,rfl⟩
 cases h2:Pl.ptrOk p
 ·have hB:A8 (Qi w.st p level=([],false)):=Pm.hid (by simp[Qi,h1,h2])
  rw[hB.out];refine kH fun gvs=>?_
  refine Qa 6 (h:=?_)
  repeat' first|refine kS ?_|refine qS (lC (h1▸Qdk p)) ?_|refine qS (lC (h2▸aPtrOk p)) ?_|refine kU ?_|fail
  refine Qa 7 (h:=?_);refine Qdt 5 (hx:=?_);exact⟨rfl,rfl⟩
 have c3:=al7R w.st hw.good p fun _=>h2
 have hlen:=Qh4 w.st hw.good p
 have hB:A8 (Qi w.st p level=if(p.level==level)&&decide (p.birth<=w.txg)&&(Qf w.st.1 p).2 then
  if(QaF (Qf w.st.1 p).1).1.any (fun q=>decide (p.birth<q.birth)) then([],false) else QaF (Qf w.st.1 p).1 else([],false)):=Pm.hid (by unfold Qi;rw[if_neg (by simp[h1]),h2];simp only[Bool.true_and];rfl)
 generalize Qf w.st.1 p=tb at*;generalize Qi w.st p level=res at*;obtain⟨text,ok⟩:=tb;have c4:=aFanGet text (by simp only at hlen;omega);have hfl:=Qku text;simp only at hB;generalize QaF text=fb at*;obtain⟨l,fine⟩:=fb;simp only at hfl hlen;have hw':=Pm.hid hw;clear hw;refine kH fun gvs=>?_
 refine Qa 6 (h:=?_)
 repeat' first|refine kS ?_|refine qS (lC (h1▸Qdk p)) ?_|refine qS (lC (h2▸aPtrOk p)) ?_|refine qS (QcZ cK c3 hw'.out) ?_|refine kU ?_|refine kV ?_ ?_<;>intro q|fail
 ·refine Qa 7 (h:=?_)
  refine Qdt 5 (hx:=?_);rw[hB.out,if_neg (by simp at q;simp[q])];exact⟨rfl,rfl⟩
 ·refine Qa 7 (h:=?_)
  refine Qdt 5 (hx:=?_);rw[hB.out,if_neg (by simp at q;simp;intro _ _;omega)];exact⟨rfl,rfl⟩
 ·refine Qa 7 (h:=?_)
  refine Qdt 5 (hx:=?_);rw[hB.out,if_neg (by simp at q;simp[q])];exact⟨rfl,rfl⟩
 rename_i q1 q2
 refine Qo (fun m st=> ∃k:Nat,k<=l.length/\m=l.length -k/\A8 ((l.take k).any (fun q=>decide (p.birth<q.birth))=false)/\
  st=⟨64,[(10,.d (tPtrs l)),(11,.d (dB fine)),(12,.d (dI k)),(4,.d (.pd [dI p.pat,dI p.birth,dI p.size,dI p.sum,dI p.level])),(1000000,.gh (gS g w) gvs)],hS g w⟩) [10,11,12,4,1000000] 5 l.length ⟨0,by omega,rfl,Pm.hid rfl,rfl⟩ (round:=?_)
 rintro m st ⟨k,hk,rfl,hF,rfl⟩
 repeat refine kG ?_
 have hC:((p.level==level)&&decide (p.birth<=w.txg)&&ok)=true:=by simp at q q1 q2;simp[q,q2];omega
 rw[if_pos hC] at hB;cases q3:decide ((k:Int)<(l.length:Int))
 ·repeat refine kA ?_
  refine Qdt 5 (hx:=?_);have:k=l.length:=by simp at q3;omega
  have h:=hF.out;rw[this,A6 (AG _)] at h;rw[hB.out,if_neg (by simp[h])];exact⟨rfl,rfl⟩
 have hk2:k<l.length:=by simp at q3;omega
 obtain⟨x,hx⟩: ∃x,l[k]? =some x:=⟨_,A5 hk2⟩;have hr:=Qt (f:=fun p:Pl.Ptr=>[dI p.pat,dI p.birth,dI p.size,dI p.sum,dI p.level]) hx;have T:A8 ((l.take (k+1)).any (fun q=>decide (p.birth<q.birth))=decide (p.birth<x.birth)):=Pm.hid (by rw[A9,hx,List.any_append,hF.out];simp)
 have F:A8 (p.birth<x.birth->res=([],false)):=fun e=>by
  rw[hB.out,if_pos];rw[List.any_eq_true];exact⟨x,List.mem_of_getElem? hx,by simpa using e⟩
 clear hx
 repeat' first|refine kS ?_|refine qD (iy hr) ?_|refine kU ?_|refine kV ?_ ?_<;>intro q|fail
 ·refine Qa 5 (h:=?_)
  refine Qdt 5 (hx:=?_);rw[F.out (by simpa using q)];exact⟨rfl,rfl⟩
 ·exact Qh (l.length -(k+1)) (by omega) ⟨k+1,by omega,rfl,Pm.hid (T.out.trans q),rfl⟩
def eOld(g:Nat)(w:Pl.Sto)(N:Nat)(hw:w.W N)(t:Pl.Tree)(depth level:Int):
 DoesE A0 165 [oS g w,.d (dTree t),.d (dI depth),.d (dI level)] (hS g w) (gS g w) (fun x H=>x= .d (tPtrs (QL w.st t depth level))/\H=hS g w):=by
 have c:=eBelow g w N hw t.root depth;have hd:=Pm.hid (QL.eq_def w.st t depth level);have ch:=Qhd 4 (by omega);generalize QL w.st t depth level=res at*;generalize Qi w.st t.root depth=bb at*;obtain⟨l,ok⟩:=bb;obtain⟨b1,hb1⟩: ∃b,A8 (b=(t.depth !=depth)):=⟨_,Pm.hid rfl⟩;obtain⟨b2,hb2⟩: ∃b,A8 (b=(level==depth)):=⟨_,Pm.hid rfl⟩;have hr:A8 (res=if b1 then A2 4 Pl.hole else if b2 then [t.root] else if ok then l else A2 4 Pl.hole):=Pm.hid (by rw[hd.out,hb1.out,hb2.out];simp);clear hd
 cases b1<;>cases b2<;>cases ok<;>(
  refine kH fun gvs=>?_
  refine Qa 6 (h:=?_)
  repeat' first|refine kS ?_|refine QA [0,1,2,3,4] c cK (k:=kX ?_)|refine kU ?_|refine kV ?_ ?_<;>intro q|fail
  all_goals first
   |exact absurd (hb1.out.trans ‹(t.depth !=depth)=_›) (by decide)
   |exact absurd (hb2.out.trans ‹(level==depth)=_›) (by decide)
   |(refine Q1 5 (hx:=?_);rw[hr.out];exact⟨rfl,rfl⟩)
   |(refine Qa 7 (h:=?_);refine Q1 5 (hx:=?_);rw[hr.out];exact⟨rfl,rfl⟩))
theorem eInner(g:Nat)(w:Pl.Sto)(N:Nat)(hw:w.W N)(t:Pl.Tree):
 DoesE A0 164 [oS g w,.d (dTree t)] (hS g w) (gS g w) (fun x H=>x= .d (tPtrs (Q9 w.st t))/\H=hS g w):=by
 have c:=eBelow g w N hw t.root 2;have ch:=Qdk t.root;have hd:A8 (Q9 w.st t=if t.depth=0∨Pl.ptrHole t.root=true then [] else t.root::(if t.depth=2 then(Qi w.st t.root 2).1.filter (fun p=> !Pl.ptrHole p) else [])):=Pm.hid rfl;have hl:=QeK w.st t.root 2;generalize Q9 w.st t=res at*;generalize Qi w.st t.root 2=bb at*;obtain⟨l,ok⟩:=bb;simp only at hl hd;have hl2:A8 (l.length<=4):=Pm.hid hl
 by_cases h0:t.depth=0∨Pl.ptrHole t.root=true
 ·rw[if_pos h0] at hd
  clear c;refine kH fun gvs=>?_
  refine Qa 6 (h:=?_)
  repeat' first|refine kS ?_|refine QV Ty.h rfl Ty.h (hb:=?_) (kk:=?_)|refine kU ?_|refine kV ?_ ?_<;>intro q|fail
  all_goals first|simp;done|refine Qa 7 (h:=?_);refine Q1 5 (hx:=?_);rw[hd.out];exact⟨rfl,rfl⟩|exfalso;clear ch;simp_all;done
 rw[if_neg h0] at hd;obtain⟨h0,h1⟩:=not_or.1 h0
 by_cases h2:t.depth=2
 rotate_left
 ·rw[if_neg h2] at hd
  clear c;refine kH fun gvs=>?_
  refine Qa 6 (h:=?_)
  repeat' first|refine kS ?_|refine QV Ty.h rfl Ty.h (hb:=?_) (kk:=?_)|refine kU ?_|refine kV ?_ ?_<;>intro q|fail
  all_goals first|simp;done|refine Qa 7 (h:=?_);refine Q1 5 (hx:=?_);rw[hd.out];exact⟨rfl,rfl⟩|exfalso;clear ch;simp_all;done
 rw[if_pos h2] at hd;refine kH fun gvs=>?_
 refine Qa 6 (h:=?_)
 repeat' first|refine kS ?_|refine QV Ty.h rfl Ty.h (hb:=?_) (kk:=?_)|refine QA [0,1,2,3,4] c cK (k:=kX ?_)|refine kU ?_|refine kV ?_ ?_<;>intro q|fail
 all_goals first|simp;done|exfalso;clear ch c;simp_all;done|skip
 clear c;refine QdI [5,6,8,1000000] [0,1,2,3,4,7] (env':=[(5,.osl 5 1 0 1),(6,.d (tPtrs l)),(8,.d (dI 0)),(1000000,.gh (gS g w) gvs)]) (H':=hS g w++[.arr 1 5 31 [rPtr t.root]]) (h:=?_)
 refine Qo (fun m st=> ∃(k:Nat) (out:List Pl.Ptr),k<=l.length/\m=l.length -k/\out.length<=k+1/\A8 (out=t.root::(l.take k).filter fun p=> !Pl.ptrHole p)/\
  st=⟨54,[(5,.osl 5 out.length 0 out.length),(6,.d (tPtrs l)),(8,.d (dI k)),(1000000,.gh (gS g w) gvs)],hS g w++[.arr out.length 5 31 (out.map rPtr)]⟩) [5,6,8,1000000] 6 l.length ⟨0,[t.root],by omega,rfl,by simp,Pm.hid rfl,rfl⟩ (round:=?_)
 rintro m st ⟨k,out,hk,rfl,hol,hO,rfl⟩;have hl:=hl2.out;simp only[hS,AA,List.nil_append]
 repeat refine kG ?_
 cases q3:decide ((k:Int)<(l.length:Int))
 ·repeat refine kA ?_
  refine Qa 5 (h:=?_);refine Q1 5 (hx:=?_);have:k=l.length:=by simp at q3;omega
  have h:=hO.out;rw[this,A6 (AG _)] at h;rw[hd.out,<-h];refine⟨?_,rfl⟩;show AV.d (.sl true 5 (((out.map rPtr).drop 0).take out.length))=_;rw[Qfo (by simp)]
 have hk2:k<l.length:=by simp at q3;omega
 obtain⟨x,hx⟩: ∃x,l[k]? =some x:=⟨_,A5 hk2⟩;have hr:=Qt (f:=rPtr) hx
 have T:A8 (t.root::(l.take (k+1)).filter (fun p=> !Pl.ptrHole p)=if Pl.ptrHole x then out else out++[x]):=Pm.hid (by
  rw[A9,hx,List.filter_append,<-AA,<-hO.out]
  cases h:Pl.ptrHole x<;>simp[h])
 have c1:=Qdk x;clear hx hO hd ch h0 h1 h2;cases hh:Pl.ptrHole x
 ·rw[hh] at c1 T
  repeat' first|refine kS ?_|refine qS (iy hr) ?_|refine QV Ty.h rfl Ty.h (hb:=?_) (kk:=?_)|refine kU ?_|fail
  all_goals first|simp;omega|refine Qh (l.length -(k+1)) (by omega) ⟨k+1,out++[x],by omega,rfl,by simp;omega,Pm.hid T.out.symm,?_⟩;simp[keepE,go_sem];done
 ·rw[hh] at c1 T
  repeat' first|refine kS ?_|refine qS (iy hr) ?_|refine kU ?_|fail
  refine Qh (l.length -(k+1)) (by omega) ⟨k+1,out,by omega,rfl,by omega,Pm.hid T.out.symm,?_⟩;simp[keepE,go_sem]
