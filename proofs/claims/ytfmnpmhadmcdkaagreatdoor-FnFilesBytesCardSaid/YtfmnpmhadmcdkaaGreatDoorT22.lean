/- Of fby_card; no condition. -/
import Derived.Test.YtfmnpmhadmcdkaaGreatDoorT18
set_option linter.all false
set_option maxRecDepth 100000
set_option maxHeartbeats 16000000
open Bool renaming false_eq_true->A5,and_eq_true->AJ,not_eq_true'->AQ
open Go.Proofs.Tryz renaming prog->AI
open Int renaming toNat_natCast->AR
open List renaming mem_append_left->A0,mem_append_right->A1,getD_eq_getElem?_getD->A2,replicate->A3,mem_cons_self->A4,mem_cons_of_mem->A6,mem_append->A8,append_assoc->A9,replicate_append_replicate->AA,all_eq_true->AB,mem_replicate->AC,mem_of_mem_take->AE,map_congr_left->AF,getElem?_append_right->AG,flatMap_cons->AH,getElem?_replicate->AK,take_of_length_le->AL,mem_of_mem_drop->AM,range->AO,mem_singleton->AP,perm_middle->AS,nil_sublist->AT,flatMap_def->AU,length_set->AW,mem_cons->AY
open List.Perm renaming append_left->A7,append_right->AD,cons->AX
open List.Sublist renaming filter->AN,append->Ab
open Nat renaming le_trans->AZ,zero_add->Aa
open Option.some renaming inj->Ac
namespace Go.Proofs.YtfmnpmhadmcdkaaGreatDoor
noncomputable section
open Go.RowKit
namespace Aw
variable{w w':Pl.Sto}{t:Pl.Tree}{N j k:Nat}{α:Type}{L M X:List Pl.Ptr}{p:Pl.Ptr}{b:Bool}{m:List UInt8}{x y:Operand}{T T' t1 t2:TypeId}{i:Int}{κ κ':IntKind}
theorem pinS{f:FuncId}{args:List AV}{X:Nat->AV}{C:Nat->Prop}{g:Nat}(h:DoesE AI f args (hS g w) (gS g w) (fun x H=> ∃g',C g'/\x=X g'/\H=hS g' w')):
 DoesE AI f args (hS g w) (gS g w) (fun x H=> ∃g',(g<g'∨g'=g/\w'.gone.length=w.gone.length)/\C g'/\x=X g'/\H=hS g' w'):=by
 intro B σ S w0 cargs gvs h1 h2 h3 h4 h5 h6;refine(h.pins B σ S w0 cargs gvs h1 h2 h3 h4 h5 h6).mono ?_;rintro _ _ ⟨x,H1,⟨⟨g',h0,rfl,rfl⟩,h7⟩,h8,h9⟩;refine⟨_,_,⟨g',?_,h0,rfl,rfl⟩,h8,h9⟩;obtain⟨C',e1,e2⟩:=h7 3 _ rfl;obtain rfl:=Ac e1;obtain⟨_,_,e3|⟨e3,e4,_⟩⟩:=e2
 ·omega
 grind
def QcD(a b:Pl.Sto):Prop:=b.gone=a.gone/\b.txg=a.txg/\b.same=a.same
def QnL(w:Pl.Sto)(l:List Pl.Ptr)(level:Int)(old:Pl.Ptr):QcD w (Qai w l level old).1:=by
 unfold Qai;split
 ·exact⟨rfl,rfl,rfl⟩
 ·split
  ·exact⟨rfl,rfl,rfl⟩
  ·have:=Pl.Qg6 w (QX l).1 level
   exact⟨Pl.QeT _ _ _,this.1,this.2⟩
def QgP(w:Pl.Sto)(l:List Pl.Ptr)(level:Int)(was:List Pl.Ptr): ∀i,QcD w (Qz w l level was i).1
 |0=>⟨rfl,rfl,rfl⟩
 |i+1=>by
  have h:=QgP w l level was i;have h2:=QnL (Qz w l level was i).1 ((l.take (4*(i+1))).drop (4*i)) level (was.getD i Pl.hole);simp only[Qz];split
  ·split
   ·exact⟨h2.1.trans h.1,h2.2.1.trans h.2.1,h2.2.2.trans h.2.2⟩
   ·exact h
  ·exact h
theorem Qm7(w:Pl.Sto)(t:Pl.Tree)(l:List Pl.Ptr)(depth:Int): ∀k,QcD w (Qv w t l depth k).1
 |0=>⟨rfl,rfl,rfl⟩
 |k+1=>by
  have h:=Qm7 w t l depth k;simp only[Qv];split
  ·have h2:=QgP (Qv w t l depth k).1 (Q3 (Qv w t l depth k).2.1) (k+1:Nat) (QL (Qv w t l depth k).1.st t depth (k+1:Nat)) ((Q3 (Qv w t l depth k).2.1).length/4)
   exact⟨h2.1.trans h.1,h2.2.1.trans h.2.1,h2.2.2.trans h.2.2⟩
  ·exact h
theorem Qi0{leaves:List Pl.Ptr}{many:Nat}(h:(Qw w t leaves many).2.2=false):QcD w (Qw w t leaves many).1:=by grind [Qw,Qm7]
theorem lev_W{w:Pl.Sto}{N:Nat}(h:w.W N)(t:Pl.Tree)(ht:Pl.ptrOk t.root=true){l:List Pl.Ptr}(hl: ∀p∈l,Pl.ptrOk p=true)(hll:l.length<=16)(depth:Int): ∀k,(Qv w t l depth k).1.W (N+4*k)/\(∀p∈(Qv w t l depth k).2.1,Pl.ptrOk p=true)/\(Qv w t l depth k).2.1.length<=16
 |0=>⟨h,hl,hll⟩
 |k+1=>by
  obtain⟨h1,h2,h3⟩:=lev_W h t ht hl hll depth k;have hp:(Q3 (Qv w t l depth k).2.1).length<=16:=by unfold Q3;grind
  obtain⟨f1,_,f3,f4,_⟩:=Qri h1 (l:=Q3 (Qv w t l depth k).2.1) (level:=((k+1:Nat):Int)) (Qqk (Qv w t l depth k).1.st t depth (k+1:Nat) ht) ((Q3 (Qv w t l depth k).2.1).length/4);simp only[Qv];split
  ·exact⟨f1.le (by omega),f3,AZ f4 (by omega)⟩
  ·exact⟨h1.le (by omega),h2,h3⟩
theorem QmH{l:List Pl.Ptr}: ∀{w:Pl.Sto} {N:Nat},w.W N->(∀p∈l,Pl.ptrOk p=true)->(w.freeL l).W (N+l.length):=by
 induction l with
 |nil=>exact fun h _=>h
 |cons p l ih=>
  intro w N h hl;have:=ih (h.free (hl p A4)) fun q hq=>hl q (A6 _ hq)
  exact this.le (by grind)
theorem QtZ(many:Nat):Q2 many<=2:=by unfold Q2;grind
theorem lay_W(h:w.W N)(ht:Pl.ptrOk t.root=true){leaves:List Pl.Ptr}(hl: ∀p∈leaves,Pl.ptrOk p=true){many:Nat}(hm:many<=16):(Qw w t leaves many).1.W (N+13)/\((Qw w t leaves many).2.2=true->Qx (Qw w t leaves many).2.1):=by
 have h0: ∀p∈leaves.take many,Pl.ptrOk p=true:=fun p hp=>hl p (AE hp)
 obtain⟨h1,h2,_⟩:=lev_W h t ht h0 (by grind) (Q2 many) (Q2 many);have hd:=QtZ many;have hi:=Qkm w.st t ht
 have hun: ∀st,(∀p∈QaQ (Q9 w.st t) st,Pl.ptrOk p=true)/\(QaQ (Q9 w.st t) st).length<=5:=fun st=>
  ⟨fun p hp=>hi.1 p (List.mem_filter.1 hp).1,AZ (List.length_filter_le _ _) hi.2⟩
 unfold Qw;split
 ·obtain⟨u1,u2⟩:=hun (Qv w t (leaves.take many) (Q2 many) (Q2 many)).2.2.1
  refine⟨(QmH h1 u1).le (by omega),fun _=>⟨by grind,by grind,Qgy h2 0,by grind,by grind⟩⟩
 ·exact⟨h1.le (by omega),fun h=>by cases h⟩
def QM(w:Pl.Sto)(t:Pl.Tree)(many:Nat):Pl.Sto×Pl.Tree×Bool:=
 if(many:Int)=t.many then(w,t,true) else
 if(Qw w t (Qe w.st t) many).2.2 then((Qw w t (Qe w.st t) many).1.freeL ((Qe w.st t).drop many),(Qw w t (Qe w.st t) many).2.1,true) else((Qw w t (Qe w.st t) many).1,t,false)
theorem cut_W(h:w.W N)(ht:Qx t){many:Nat}(hm:many<=16):(QM w t many).1.W (N+29)/\Qx (QM w t many).2.1:=by
 have h1:=lay_W h ht.root (Qfn w.st ht.root) hm;unfold QM;split
 ·exact⟨h.le (by omega),ht⟩
 ·split
  ·refine⟨(QmH h1.1 fun p hp=>Qfn w.st ht.root p (AM hp)).le ?_,h1.2 (by assumption)⟩
   have:=Qd3 w.st ht.hi
   grind
  ·exact⟨h1.1.le (by omega),ht⟩
theorem QjA(b:UInt8): ∀l:List (List UInt8),l≠[]->(∀x∈l,b∉x)->Pl.cutB b (Qap b l)=l
 |[],h,_=>absurd rfl h
 |[x],_,h=>by grind [Qap,List.intersperse,Pl.Qe1]
 |x::y::l,_,h=>by
  have ih:=QjA b (y::l) (by simp) fun z hz=>h z (A6 _ hz)
  simp_all[Qap,Pl.Qeb]
theorem Qr7(p:Pl.Ptr):(44:UInt8)∉Pl.ptrPut p:=by
 have hd: ∀n,(44:UInt8)∉Pl.dec n:=fun n hm=>absurd (AB.1 (Pl.Qg1 n) _ hm) (by decide)
 unfold Pl.ptrPut;split
 ·split
  ·decide
  ·simp[Pl.ptrText,Pl.dots,hd]
 ·simp
theorem Qj9{l:List Pl.Ptr}(h:(QX l).2=true):QaF (QX l).1=(l,true):=by
 unfold QX at h⊢;split at h
 ·rename_i hc
  obtain⟨h1,h2,h3⟩:=hc;rw[if_pos ⟨h1,h2,h3⟩];have hne:l.map Pl.ptrPut≠[]:=by cases l<;>grind
  have hc2:Pl.cutB 44 (Qap 44 (l.map Pl.ptrPut))=l.map Pl.ptrPut:=QjA 44 _ hne fun x hx=>by
   grind [Qr7]
  have hpg:(l.map Pl.ptrPut).map QB=l.map fun p=>(p,true):=by
   rw[List.map_map];exact AF fun p hp=>pg_is ⟨AB.1 h3 p hp,rfl⟩
  unfold QaF;dsimp only;rw[hc2,hpg]
  simp_all[Function.comp_def]
 ·cases h
theorem QiA{l:List Pl.Ptr}(h:1<=(QX l).1.length):(QX l).2=true:=by grind [QX]
theorem Qnm{K L:List α}(h:K.Sublist L): ∃R,L.Perm (K++R):=by
 induction h with
 |slnil=>simp
 |cons a _ ih=>obtain⟨R,hR⟩:=ih;exact⟨a::R,(AX a hR).trans AS.symm⟩
 |cons_cons a _ ih=>simp_all
def Qba(L:List Pl.Ptr)(i:Nat):Nat:=L.countP fun p=>p.pat.toNat==i
theorem Qte(L M:List Pl.Ptr)(i:Nat):Qba (L++M) i=Qba L i+Qba M i:=List.countP_append ..
theorem QgJ(p:Pl.Ptr)(L:List Pl.Ptr)(i:Nat):Qba (p::L) i=Qba L i+if p.pat.toNat=i then 1 else 0:=by
 unfold Qba;grind
def QqI(h:L.Perm M)(i:Nat):Qba L i=Qba M i:=h.countP_eq _
theorem QnB(h:p∈L):1<=Qba L p.pat.toNat:=List.countP_pos_iff.2 ⟨p,h,by simp⟩
structure QU(w:Pl.Sto)(L:List Pl.Ptr):Prop where
 rows:w.rows.length=64
 refs:w.refs.length=64
 fit: ∀p∈L,QaU p (w.rows.getD p.pat.toNat [])=true
 bir: ∀p∈L,p.birth<=w.txg
 cnt: ∀i,((Qba L i+Qba w.gone i:Nat):Int)<=w.refs.getD i 0
theorem QfL{s:List UInt8}(h:QaU p s=true):Pl.ptrOk p=true/\Pl.ptrHole p=false/\p.pat.toNat<64/\1<=s.length:=by
 unfold QaU at h;simp only[AJ,AQ,beq_iff_eq] at h;obtain⟨⟨⟨h1,h2⟩,h3⟩,_⟩:=h;have h4:=QdD h1 h2
 grind [Pl.ptrOk]
def QU.perm(h:QU w L)(hp:L.Perm M):QU w M:=
 ⟨h.rows,h.refs,fun p hm=>h.fit p (hp.mem_iff.2 hm),fun p hm=>h.bir p (hp.mem_iff.2 hm),fun i=>by rw[<-QqI hp];exact h.cnt i⟩
theorem QU.left(h:QU w (L++M)):QU w L:=
 ⟨h.rows,h.refs,fun p hm=>h.fit p (A0 _ hm),fun p hm=>h.bir p (A0 _ hm),fun i=>by have:=h.cnt i;grind [Qte]⟩
def QU.sub{R:List Pl.Ptr}(h:QU w L)(hp:L.Perm (M++R)):QU w M:=(h.perm hp).left
def QaC(w w':Pl.Sto)(L:List Pl.Ptr):Prop:= ∀p∈L,w'.rows.getD p.pat.toNat []=w.rows.getD p.pat.toNat []
def QaC.trans{w1 w2:Pl.Sto}(h:QaC w w1 L)(h2:QaC w1 w2 M)(hs: ∀p∈L,p∈M):QaC w w2 L:=fun p hp=>(h2 p (hs p hp)).trans (h p hp)
theorem Qos(h:QU w L){text:List UInt8}{level:Int}(hok:(w.write text level).2.2=true):
 QU (w.write text level).1 ((w.write text level).2.1::L)/\QaC w (w.write text level).1 L/\(w.write text level).2.1.birth=w.txg/\(w.write text level).2.1.level=level/\
 (w.write text level).1.rows.getD (w.write text level).2.1.pat.toNat []=text/\1<=text.length:=by
 unfold Pl.Sto.write at hok⊢;cases hs:w.seek text level with
 |none=>rw[hs] at hok;cases hok
 |some a=>
  rw[hs] at hok;dsimp only[Pl.Sto.put] at hok⊢;cases hp:(Pl.ptrOf a w.txg level text).2
  ·grind
  obtain⟨e,l1,l2,o1,o2⟩:=Pl.Qnv hp;obtain⟨g1,g2,g3⟩:=Pl.QkZ hs;rw[if_pos rfl];dsimp only
  have hk:QaC w (w.lay1 a text) L:=fun p hm=>by
   unfold Pl.Sto.lay1;dsimp only;rw[Pl.getD_set];split
   ·rename_i hc
    rcases g3 with g3|⟨_,g3,_⟩
    ·have h1:=QnB hm
     have h2:=h.cnt p.pat.toNat
     grind
    grind
   ·rfl
  have hrow:(w.lay1 a text).rows.getD a []=text:=by
   unfold Pl.Sto.lay1;dsimp only;rw[Pl.getD_set,if_pos ⟨rfl,by rw[h.rows];exact g2⟩]
  have ea:(Pl.ptrOf a w.txg level text).1.pat.toNat=a:=by grind
  refine⟨⟨?_,?_,?_,?_,?_⟩,hk,by rw[e],by rw[e],by grind,l1⟩
  ·simp[Pl.Sto.lay1,h.rows]
  ·simp[Pl.Sto.lay1,h.refs]
  ·intro p hm
   rcases AY.1 hm with rfl|hm
   ·grind [QaU]
   ·rw[hk p hm];exact h.fit p hm
  ·intro p hm
   rcases AY.1 hm with rfl|hm
   ·rw[e];exact Int.le_refl _
   ·exact h.bir p hm
  ·intro i
   have h1:=h.cnt i;unfold Pl.Sto.lay1;dsimp only;rw[QgJ,ea,Pl.getD_set]
   by_cases hi:a=i
   ·rw[if_pos hi,if_pos ⟨hi,by rw[h.refs];omega⟩]
    grind
   grind
theorem Qsf(hr:w.rows.length=64)(hf:w.refs.length=64)(hp:p.pat.toNat<64)(hfit: ∀q∈L,QaU q (w.rows.getD q.pat.toNat [])=true)(hb: ∀q∈L,q.birth<=w.txg)
 {G:List Pl.Ptr} (hc: ∀i,((Qba (p::L) i+Qba G i:Nat):Int)<=w.refs.getD i 0):
 QaC w (w.drop p.pat.toNat) L/\(w.drop p.pat.toNat).rows.length=64/\(w.drop p.pat.toNat).refs.length=64/\(∀q∈L,QaU q ((w.drop p.pat.toNat).rows.getD q.pat.toNat [])=true)/\(∀q∈L,q.birth<=(w.drop p.pat.toNat).txg)/\
 (∀i,((Qba L i+Qba G i:Nat):Int)<=(w.drop p.pat.toNat).refs.getD i 0):=by
 have hk:QaC w (w.drop p.pat.toNat) L:=fun q hq=>by
  grind [Pl.Sto.drop,QnB,QgJ]
 refine⟨hk,?_,?_,fun q hq=>by rw[hk q hq];grind,hb,fun i=>?_⟩
 ·unfold Pl.Sto.drop;grind
 ·simp[Pl.Sto.drop,hf]
 grind [QgJ,Pl.Sto.drop]
theorem QnD(w:Pl.Sto)(p:Pl.Ptr):(w.free p).txg=w.txg/\(w.free p).same=w.same:=by
 unfold Pl.Sto.free;split
 ·grind
 ·split<;>exact⟨rfl,rfl⟩
def QgK: ∀(F:List Pl.Ptr) (w:Pl.Sto),(w.freeL F).txg=w.txg
 |[],w=>rfl
 |p::F,w=>(QgK F (w.free p)).trans (QnD w p).1
theorem Qse(h:QU w (p::L)):QU (w.free p) L/\QaC w (w.free p) L:=by
 obtain⟨_,o2,o3,_⟩:=QfL (h.fit p A4);unfold Pl.Sto.free;rw[o2];simp only[A5,if_false];split
 ·refine⟨⟨h.rows,h.refs,fun q hq=>h.fit q (A6 _ hq),fun q hq=>h.bir q (A6 _ hq),fun i=>?_⟩,fun q hq=>rfl⟩
  have:=h.cnt i
  grind [Qba]
 ·obtain⟨k1,k2,k3,k4,k5,k6⟩:=Qsf h.rows h.refs o3 (L:=L) (fun q hq=>h.fit q (A6 _ hq)) (fun q hq=>h.bir q (A6 _ hq)) h.cnt
  exact⟨⟨k2,k3,k4,k5,k6⟩,k1⟩
def Qib: ∀(F:List Pl.Ptr) {w:Pl.Sto} {L:List Pl.Ptr},QU w (F++L)->QU (w.freeL F) L/\QaC w (w.freeL F) L
 |[],w,L,h=>⟨h,fun _ _=>rfl⟩
 |p::F,w,L,h=>by
  obtain⟨h1,h2⟩:=Qse (L:=F++L) h;obtain⟨h3,h4⟩:=Qib F h1;exact⟨h3,fun q hq=>(h4 q hq).trans (h2 q (A1 _ hq))⟩
theorem Lv_next(h:QU w L)(hg: ∀p∈w.gone,Pl.ptrOk p=true/\Pl.ptrHole p=false):QU w.next L/\QaC w w.next L:=by
 have key: ∀(G:List Pl.Ptr) (u:Pl.Sto),(∀p∈G,p.pat.toNat<64)->u.rows.length=64->u.refs.length=64->(∀q∈L,QaU q (u.rows.getD q.pat.toNat [])=true)->(∀q∈L,q.birth<=u.txg)->(∀i,((Qba L i+Qba G i:Nat):Int)<=u.refs.getD i 0)->
  QaC u (u.dropL G) L/\(u.dropL G).rows.length=64/\(u.dropL G).refs.length=64/\(∀q∈L,QaU q ((u.dropL G).rows.getD q.pat.toNat [])=true)/\(∀q∈L,q.birth<=(u.dropL G).txg)/\(∀i,((Qba L i:Nat):Int)<=(u.dropL G).refs.getD i 0):=by
  intro G;induction G with
  |nil=>intro u _ h1 h2 h3 h4 h5;exact⟨fun _ _=>rfl,h1,h2,h3,h4,fun i=>by have:=h5 i;show _<=u.refs.getD i 0;omega⟩
  |cons p G ih=>
   intro u h0 h1 h2 h3 h4 h5;obtain⟨k1,k2,k3,k4,k5,k6⟩:=Qsf h1 h2 (h0 p A4) h3 h4 (G:=G) (fun i=>by grind [QgJ]);obtain⟨j1,j2⟩:=ih (u.drop p.pat.toNat) (fun q hq=>h0 q (A6 _ hq)) k2 k3 k4 k5 k6;exact⟨fun q hq=>(j1 q hq).trans (k1 q hq),j2⟩
 obtain⟨k1,k2,k3,k4,k5,k6⟩:=key w.gone w (fun p hp=>by have:=QdD (hg p hp).1 (hg p hp).2;omega) h.rows h.refs h.fit h.bir h.cnt;have ht:=(Pl.Qfh w.gone w).2.1;refine⟨⟨k2,k3,k4,fun q hq=>?_,fun i=>?_⟩,k1⟩
 ·have:=h.bir q hq
  show q.birth<=w.txg+1;omega
 ·have:=k6 i
  show((Qba L i+0:Nat):Int)<=(w.dropL w.gone).refs.getD i 0;exact this
def Qr(l:List Pl.Ptr):List Pl.Ptr:=l.filter fun p=> !Pl.ptrHole p
theorem Qeu(l m:List Pl.Ptr):Qr (l++m)=Qr l++Qr m:=List.filter_append ..
theorem Qew(n:Nat):Qr (A3 n Pl.hole)=[]:=by
 unfold Qr;rw[List.filter_eq_nil_iff];intro p hp;rw[(AC.1 hp).2];decide
theorem QeA{l:List Pl.Ptr}:p∈Qr l↔p∈l/\Pl.ptrHole p=false:=by
 grind [Qr]
theorem Qdj:Pl.ptrHole Pl.hole=true:=by decide
theorem Qgw(h:Pl.ptrHole p=true):p=Pl.hole:=of_decide_eq_true h
def Qem{n:Int}(hr:Pl.ptrHole p=false->w'.rows.getD p.pat.toNat []=w.rows.getD p.pat.toNat [])(ht:w.txg<=w'.txg)(h:(Qi w.st p n).2=true):Qi w'.st p n=Qi w.st p n:=by
 unfold Qi at h⊢;cases hh:Pl.ptrHole p;rotate_left
 ·simp
 have hrd:Qf w'.st.1 p=Qf w.st.1 p:=by
  unfold Qf;show(if Pl.ptrHole p=true then _ else if QaU p (w'.rows.getD p.pat.toNat [])=true then(w'.rows.getD p.pat.toNat [],true) else _)=_;rw[hr hh];rfl
 rw[hh] at h;simp only[A5,if_false] at h⊢;rw[hrd];split at h
 ·rename_i hc
  rw[if_pos hc,if_pos];simp only[AJ,beq_iff_eq,decide_eq_true_eq] at hc⊢;refine⟨⟨hc.1.1,?_⟩,hc.2⟩;have h1:=hc.1.2;show p.birth<=w'.txg;have h2:p.birth<=w.txg:=h1;omega
 ·cases h
theorem leaves0(s:Pm.Store)(h:t.depth=0):QI s t=([t.root],true):=by unfold QI;rw[h];rfl
theorem leaves1(s:Pm.Store)(h:t.depth=1):QI s t=if(Qi s t.root 1).2=true then((Qi s t.root 1).1,true) else([],false):=by simp_all[QI,QaY]
theorem leaves2(s:Pm.Store)(h:t.depth=2):QI s t=if(Qi s t.root 2).2=true then(if(Qi s t.root 2).1.all (fun p=>(Qi s p 1).2)=true then((Qi s t.root 2).1.flatMap fun p=>(Qi s p 1).1,true) else([],false)) else([],false):=by
 unfold QI;rw[h]
 grind [QaY]
structure Qbr(w:Pl.Sto)(t:Pl.Tree):Prop where
 good:Qx t
 dep:t.depth=(Q2 t.many.toNat:Nat)
 lv:(QI w.st t).2=true
 zero: ∀p∈(QI w.st t).1,Pl.ptrHole p=true∨p.level=0
 top: ∀i,t.many.toNat<=i->(Qe w.st t).getD i Pl.hole=Pl.hole
def Q7(s:Pm.Store)(t:Pl.Tree):List Pl.Ptr:=Q9 s t++Qr (QI s t).1
theorem QfM(m:Nat):Q2 m=0∨Q2 m=1∨Q2 m=2:=by unfold Q2;grind
theorem QfZ{s:Pm.Store}(h:t.depth=0):Q9 s t=[]:=by unfold Q9;grind
theorem QeG{s:Pm.Store}(h:t.depth=1):Q9 s t=Qr [t.root]:=by grind [Q9,Qr]
theorem QeF{s:Pm.Store}(h:t.depth=2):Q9 s t=Qr [t.root]++Qr (Qi s t.root 2).1:=by grind [Q9,Qr,Qi,Qdj]
theorem QeS(h:Qbr w t)(hk:QaC w w' (Q9 w.st t))(ht:w.txg<=w'.txg):Qbr w' t/\QI w'.st t=QI w.st t/\Q9 w'.st t=Q9 w.st t/\Q7 w'.st t=Q7 w.st t/\Qe w'.st t=Qe w.st t:=by
 have key:QI w'.st t=QI w.st t/\Q9 w'.st t=Q9 w.st t:=by
  have hl:=h.lv;have hd:t.depth=0∨t.depth=1∨t.depth=2:=by rw[h.dep];grind [QfM]
  rcases hd with hd|hd|hd
  ·grind [leaves0,QfZ]
  ·rw[leaves1 _ hd] at hl
   rw[QeG hd] at hk
   have hb:(Qi w.st t.root 1).2=true:=by
    grind
   rw[leaves1 _ hd,leaves1 _ hd,QeG hd,QeG hd,Qem (fun hh=>hk _ (QeA.2 ⟨A4,hh⟩)) ht hb]
   grind
  ·rw[leaves2 _ hd] at hl
   rw[QeF hd] at hk
   have hb:(Qi w.st t.root 2).2=true:=by
    grind
   rw[if_pos hb] at hl
   have hb2:(Qi w.st t.root 2).1.all (fun p=>(Qi w.st p 1).2)=true:=by
    grind
   have e1:=Qem (w':=w') (fun hh=>hk _ (A0 _ (QeA.2 ⟨A4,hh⟩))) ht hb
   have e2: ∀p∈(Qi w.st t.root 2).1,Qi w'.st p 1=Qi w.st p 1:=fun p hp=>
    Qem (fun hh=>hk _ (A1 _ (QeA.2 ⟨hp,hh⟩))) ht (AB.1 hb2 p hp)
   grind [leaves2,QeF,AF]
 obtain⟨k1,k2⟩:=key;have k3:Qe w'.st t=Qe w.st t:=by grind [Qe]
 exact⟨⟨h.good,h.dep,by rw[k1];exact h.lv,by rw[k1];exact h.zero,by rw[k3];exact h.top⟩,k1,k2,by unfold Q7;grind,k3⟩
theorem fan1_in{c:List Pl.Ptr}{o:Pl.Ptr}{n:Int}(h:QU w L)(hc4:c.length=4)(hcb: ∀q∈c,Pl.ptrHole q=true∨q.birth<=w.txg)(hn:1<=n)(ho:Pl.ptrHole o=true∨o∈L/\(Qi w.st o n).2=true)(hok:(Qai w c n o).2.2=true):
 ∃F,QU (Qai w c n o).1 (F++L)/\QaC w (Qai w c n o).1 L/\Qi (Qai w c n o).1.st (Qai w c n o).2.1 n=(c,true)/\
  (F=[(Qai w c n o).2.1]/\Pl.ptrHole (Qai w c n o).2.1=false∨F=[]/\(Pl.ptrHole (Qai w c n o).2.1=true∨(Qai w c n o).2.1=o/\Pl.ptrHole o=false)):=by
 unfold Qai at hok⊢;split
 ·rename_i hall
  refine⟨[],h,fun _ _=>rfl,?_,.inr ⟨rfl,.inl Qdj⟩⟩;have:c=A3 4 Pl.hole:=List.eq_replicate_iff.2 ⟨hc4,fun p hp=>Qgw (AB.1 hall p hp)⟩;unfold Qi
  grind
 ·rename_i hall
  rw[if_neg hall] at hok;split
  ·rename_i hk
   simp only[AJ,AQ,beq_iff_eq] at hk;obtain⟨⟨k1,k2⟩,k3⟩:=hk;have hput:=QiA (QfL k2).2.2.2;refine⟨[],h,fun _ _=>rfl,?_,.inr ⟨rfl,.inr ⟨rfl,k1⟩⟩⟩;rcases ho with ho|⟨_,ho⟩
   ·grind
   have hrd:Qf w.st.1 o=((QX c).1,true):=by
    unfold Qf;rw[k1];simp only[A5,if_false];show(if QaU o (w.rows.getD o.pat.toNat [])=true then(w.rows.getD o.pat.toNat [],true) else _)=_
    grind
   grind [Qi,Qj9]
  ·rename_i hk
   rw[if_neg hk] at hok;obtain⟨g1,g2,g3,g4,g5,g6⟩:=Qos h hok;have hput:=QiA g6;have hfit:=g1.fit _ A4;obtain⟨f1,f2,_,_⟩:=QfL hfit;refine⟨[(w.write (QX c).1 n).2.1],g1,g2,?_,.inl ⟨rfl,f2⟩⟩;have hbir:=g1.bir _ A4;have htx:=(Pl.Qg6 w (QX c).1 n).1;generalize w.write (QX c).1 n=y at*
   have hrd:Qf y.1.st.1 y.2.1=((QX c).1,true):=by
    unfold Qf;rw[f2];simp only[A5,if_false];show(if QaU y.2.1 (y.1.rows.getD y.2.1.pat.toNat [])=true then(y.1.rows.getD y.2.1.pat.toNat [],true) else _)=_
    grind
   unfold Qi;rw[f2,hrd];simp only[A5,if_false];rw[Qj9 hput,if_pos,if_neg]
   ·simp only[List.any_eq_true,decide_eq_true_eq,not_exists,not_and]
    intro q hq;rcases hcb q hq with hh|hb
    ·rw[Qgw hh,g3]
     have h1:1<=y.2.1.birth:=by
      grind [Pl.ptrOk]
     rw[g3] at h1;show ¬w.txg<0;omega
    omega
   ·rw[f1,g4]
    simp only[beq_self_eq_true,Bool.and_true,Bool.true_and,decide_eq_true_eq];exact hbir
def Qbg(l:List Pl.Ptr)(j:Nat):List Pl.Ptr:=(l.take (4*(j+1))).drop (4*j)
theorem QrB{l:List Pl.Ptr}{n:Nat}(h:l.length=4*n)(hj:j<n):(Qbg l j).length=4:=by unfold Qbg;grind
theorem QrA{l:List Pl.Ptr}(h:p∈Qbg l j):p∈l:=AE (AM h)
theorem QrC{l:List Pl.Ptr}: ∀{n:Nat},4*n<=l.length->(AO n).flatMap (Qbg l)=l.take (4*n)
 :=by intro l;induction l<;>grind [List.range_succ,Qbg]
theorem Qkt{w:Pl.Sto}{L l was:List Pl.Ptr}{level:Int}{n:Nat}(h:QU w L)(hl4:l.length=4*n)(hl: ∀q∈l,Pl.ptrHole q=true∨q.birth<=w.txg)(hlev:1<=level)(hw: ∀o∈was,Pl.ptrHole o=true∨o∈L/\(Qi w.st o level).2=true):
 ∀i,i<=n->(Qz w l level was i).2.2.2=true-> ∃F K,QU (Qz w l level was i).1 (F++L)/\QaC w (Qz w l level was i).1 L/\(Qz w l level was i).2.1.length=i/\
  (∀j,j<i->Qi (Qz w l level was i).1.st ((Qz w l level was i).2.1.getD j Pl.hole) level=(Qbg l j,true))/\
  (Qr (Qz w l level was i).2.1).Perm (F++K)/\K.Sublist (Qr (was.take i))/\(∀q∈K,q∈(Qz w l level was i).2.2.1)/\(∀q∈(Qz w l level was i).2.1,Pl.ptrHole q=true∨q∈F++L)
 |0,_,_=>⟨[],[],h,fun _ _=>rfl,rfl,fun j hj=>absurd hj (by omega),.refl _,AT _,by simp,by simp[Qz]⟩
 |i+1,hi,hok=>by
  have hok1:(Qz w l level was i).2.2.2=true:=by
   grind [Qj8]
  obtain⟨F,K,h1,h2,h3,h4,h5,h6,h7,h8⟩:=Qkt h hl4 hl hlev hw i (by omega) hok1;have hsim:=QgP w l level was i;simp only[Qz] at hok⊢;rw[hok1] at hok⊢;simp only[if_true] at hok⊢;generalize Qz w l level was i=r at*
  have hok2:(Qai r.1 (Qbg l i) level (was.getD i Pl.hole)).2.2=true:=by
   show(Qai r.1 ((l.take (4*(i+1))).drop (4*i)) level (was.getD i Pl.hole)).2.2=true
   grind
  have ho:Pl.ptrHole (was.getD i Pl.hole)=true∨was.getD i Pl.hole∈F++L/\(Qi r.1.st (was.getD i Pl.hole) level).2=true:=by
   rw[A2];cases hx:was[i]? with
   |none=>exact .inl Qdj
   |some o=>
    rcases hw o (List.mem_of_getElem? hx) with e|⟨e1,e2⟩
    ·grind
    ·refine .inr ⟨A1 _ e1,?_⟩
     show(Qi r.1.st o level).2=true;rw[Qem (fun _=>h2 o e1) (by rw[hsim.2.1];omega) e2];exact e2
  obtain⟨F1,g1,g2,g3,g4⟩:=fan1_in h1 (QrB hl4 (by omega)) (fun q hq=>by rw[hsim.2.1];grind [QrA]) hlev ho hok2;have hs1:=QnL r.1 (Qbg l i) level (was.getD i Pl.hole);have ec:(l.take (4*(i+1))).drop (4*i)=Qbg l i:=rfl;simp only[ec];clear hok ec;generalize Qai r.1 (Qbg l i) level (was.getD i Pl.hole)=y at*;rw[hok2];simp only[if_true];have hlen:(r.2.1++[y.2.1]).length=i+1:=by simp[h3]
  have hbel: ∀j,j<i+1->Qi y.1.st ((r.2.1++[y.2.1]).getD j Pl.hole) level=(Qbg l j,true):=by
   intro j hj
   by_cases hji:j=i
   ·grind
   ·have hj2:j<r.2.1.length:=by omega
    rw[A2,List.getElem?_append_left hj2,<-A2];have h4j:=h4 j (by omega);rw[<-h4j];refine Qem (fun hh=>?_) (by rw[hs1.2.1];omega) (by rw[h4j]);rcases h8 _ (Pl.QdE (d:=Pl.hole) hj2) with e|e
    ·grind
    ·exact g2 _ e
  have htake:was.take (i+1)=was.take i++(match was[i]? with|some o=>[o]|none=>[]):=by
   rw[List.take_add_one];cases was[i]? <;>rfl
  rcases g4 with⟨rfl,hh⟩|⟨rfl,hh⟩
  ·refine⟨y.2.1::F,K,g1,h2.trans g2 (fun p hp=>A1 _ hp),hlen,hbel,?_,?_,fun q hq=>A0 _ (h7 q hq),fun q hq=>?_⟩
   ·rw[Qeu]
    have e:Qr [y.2.1]=[y.2.1]:=by simp[Qr,hh]
    grind
   ·grind [Qeu]
   grind
  ·rcases hh with hh|⟨hh,hh2⟩
   ·refine⟨F,K,g1,h2.trans g2 (fun p hp=>A1 _ hp),hlen,hbel,?_,?_,fun q hq=>A0 _ (h7 q hq),fun q hq=>?_⟩
    ·grind [Qr]
    ·grind [Qeu]
    grind
   ·have hwi:was[i]? =some y.2.1:=by
     rw[hh,A2];cases hx:was[i]? with
     |none=>rw[A2,hx] at hh2;exact absurd hh2 (by decide)
     |some o=>rfl
    refine⟨F,K++[y.2.1],g1,h2.trans g2 (fun p hp=>A1 _ hp),hlen,hbel,?_,?_,fun q hq=>?_,fun q hq=>?_⟩
    ·rw[Qeu]
     have e:Qr [y.2.1]=[y.2.1]:=by grind [Qr]
     grind
    ·rw[htake,Qeu,hwi]
     have e:Qr [y.2.1]=[y.2.1]:=by grind [Qr]
     grind
    ·grind
    grind
theorem Qkb(l:List Pl.Ptr):(Q3 l).length=4*((Q3 l).length/4):=by unfold Q3;grind
theorem nh_pad4(l:List Pl.Ptr):Qr (Q3 l)=Qr l:=by grind [Q3,Qeu,Qew]
def QoU(f:Pl.Ptr->List α)(l:List Pl.Ptr):l.flatMap f=(AO l.length).flatMap fun j=>f (l.getD j Pl.hole):=by
 induction l with
 |nil=>rfl
 |cons p l ih=>
  rw[AH,List.length_cons,List.range_succ_eq_map,AH,ih,List.flatMap_map];rfl
theorem QlF{l:List Pl.Ptr}(h:l.length=4):Qbg l 0=l:=by unfold Qbg;grind
theorem QjH(s:Pm.Store)(n:Int):Qi s Pl.hole n=(A3 4 Pl.hole,true):=by grind [Qi,Qdj]
theorem lev_in{lv:List Pl.Ptr}{many:Nat}(hT:Qbr w t)(h:QU w (Q9 w.st t++X))(hm:many<=16)(hll:lv.length=16)(hl: ∀q∈lv.take many,Pl.ptrHole q=true∨(q∈X/\q.level=0))(hok:(Qv w t (lv.take many) (Q2 many) (Q2 many)).2.2.2=true):
 ∃F K,QU (Qv w t (lv.take many) (Q2 many) (Q2 many)).1 (F++(Q9 w.st t++X))/\QaC w (Qv w t (lv.take many) (Q2 many) (Q2 many)).1 (Q9 w.st t++X)/\K.Sublist (Q9 w.st t)/\(∀q∈K,q∈(Qv w t (lv.take many) (Q2 many) (Q2 many)).2.2.1)/\
  QI (Qv w t (lv.take many) (Q2 many) (Q2 many)).1.st ⟨(Qv w t (lv.take many) (Q2 many) (Q2 many)).2.1.getD 0 Pl.hole,(Q2 many:Nat),many⟩=(lv.take many++A3 (4^Q2 many -many) Pl.hole,true)/\
  (Q9 (Qv w t (lv.take many) (Q2 many) (Q2 many)).1.st ⟨(Qv w t (lv.take many) (Q2 many) (Q2 many)).2.1.getD 0 Pl.hole,(Q2 many:Nat),many⟩).Perm (F++K)/\many<=4^Q2 many:=by
 have hlen:(lv.take many).length=many:=by grind
 have hb0: ∀q∈lv.take many,Pl.ptrHole q=true∨q.birth<=w.txg:=fun q hq=>(hl q hq).imp id fun e=>h.bir q (A1 _ e.1)
 generalize lv.take many=l at*
 have hpad: ∀q∈Q3 l,Pl.ptrHole q=true∨q.birth<=w.txg:=fun q hq=>by
  rcases A8.1 hq with hq|hq
  ·grind
  grind [Qdj]
 have hrootI:Pl.ptrHole t.root=false->t.depth≠0->t.root∈Q9 w.st t:=fun h1 h2=>by
  unfold Q9
  grind
 have hd:Q2 many=0/\many<=1∨Q2 many=1/\2<=many/\many<=4∨Q2 many=2/\5<=many:=by
  unfold Q2;grind
 rcases hd with⟨hd,hm1⟩|⟨hd,hm1,hm2⟩|⟨hd,hm1⟩
 ·rw[hd] at hok⊢
  refine⟨[],[],h,fun _ _=>rfl,AT _,by simp,?_,?_,by omega⟩
  ·rw[leaves0 _ rfl]
   show([l.getD 0 Pl.hole],true)=_
   match l,hlen with
   |[],e=>subst e;rfl
   |[a],e=>subst e;rfl
   |_::_::_,e=>grind
  grind [QfZ]
 ·rw[hd] at hok⊢
  have hn:(Q3 l).length/4=1:=by unfold Q3;grind
  have hp4:(Q3 l).length=4:=by grind [Qkb]
  have e1:Qv w t l (1:Nat) 1=((Qz w (Q3 l) 1 (QL w.st t 1 1) 1).1,(Qz w (Q3 l) 1 (QL w.st t 1 1) 1).2.1,(Qz w (Q3 l) 1 (QL w.st t 1 1) 1).2.2.1,(Qz w (Q3 l) 1 (QL w.st t 1 1) 1).2.2.2):=by
   grind [Qv]
  have hold: ∀o∈QL w.st t 1 1,Pl.ptrHole o=true∨o∈Q9 w.st t++X/\(Qi w.st o 1).2=true:=by
   unfold QL;intro o ho;split at ho
   ·rw[(AC.1 ho).2];exact .inl Qdj
   ·rename_i hdd
    have hdd:t.depth=1:=by omega
    rw[if_pos rfl] at ho;rw[AP.1 ho];cases hh:Pl.ptrHole t.root
    ·refine .inr ⟨A0 _ (hrootI hh (by omega)),?_⟩
     have:=hT.lv
     grind [leaves1]
    grind
  have hsub:(Qr ((QL w.st t 1 1).take 1)).Sublist (Q9 w.st t):=by
   grind [QL,Qew,QeG]
  rw[e1] at hok⊢;dsimp only at hok⊢;obtain⟨F,K,f1,f2,f3,f4,f5,f6,f7,f8⟩:=Qkt h (n:=1) hp4 hpad (by omega) hold 1 (by omega) hok;generalize Qz w (Q3 l) 1 (QL w.st t 1 1) 1=r at*;have hb:=f4 0 (by omega);rw[QlF hp4] at hb;refine⟨F,K,f1,f2,f6.trans hsub,f7,?_,?_,by omega⟩
  ·rw[leaves1 _ rfl]
   dsimp only;rw[hb,if_pos rfl];show(Q3 l,true)=_;unfold Q3;rw[hlen,show(4 -many%4)%4=4^1 -many by omega]
  ·rw[QeG rfl]
   dsimp only
   have:r.2.1=[r.2.1.getD 0 Pl.hole]:=by
    match r.2.1,f3 with
    |[a],_=>rfl
   grind
 ·rw[hd] at hok⊢
  have hn:(Q3 l).length/4=(many+3)/4:=by unfold Q3;grind
  have hp4:(Q3 l).length=4*((many+3)/4):=by grind [Qkb]
  have e1:Qv w t l (2:Nat) 1=((Qz w (Q3 l) 1 (QL w.st t 2 1) ((many+3)/4)).1,(Qz w (Q3 l) 1 (QL w.st t 2 1) ((many+3)/4)).2.1,(Qz w (Q3 l) 1 (QL w.st t 2 1) ((many+3)/4)).2.2.1,(Qz w (Q3 l) 1 (QL w.st t 2 1) ((many+3)/4)).2.2.2):=by
   grind [Qv]
  have hold: ∀o∈QL w.st t 2 1,Pl.ptrHole o=true∨o∈Q9 w.st t++X/\(Qi w.st o 1).2=true:=by
   unfold QL;intro o ho;split at ho
   ·rw[(AC.1 ho).2];exact .inl Qdj
   ·rename_i hdd
    have hdd:t.depth=2:=by omega
    rw[if_neg (by omega)] at ho;split at ho
    ·rename_i hb
     have hlv:=hT.lv;rw[leaves2 _ hdd,if_pos hb] at hlv;split at hlv
     ·rename_i hb2
      cases hh:Pl.ptrHole o
      ·refine .inr ⟨A0 _ ?_,AB.1 hb2 o ho⟩
       rw[QeF hdd];exact A1 _ (QeA.2 ⟨ho,hh⟩)
      grind
     grind
    grind [Qdj]
  have hok1:(Qv w t l (2:Nat) 1).2.2.2=true:=by
   grind [Qv]
  have e2:Qv w t l (2:Nat) 2=((Qz (Qv w t l (2:Nat) 1).1 (Q3 (Qv w t l (2:Nat) 1).2.1) 2 (QL (Qv w t l (2:Nat) 1).1.st t 2 2) ((Q3 (Qv w t l (2:Nat) 1).2.1).length/4)).1,(Qz (Qv w t l (2:Nat) 1).1 (Q3 (Qv w t l (2:Nat) 1).2.1) 2 (QL (Qv w t l (2:Nat) 1).1.st t 2 2) ((Q3 (Qv w t l (2:Nat) 1).2.1).length/4)).2.1,
   (Qv w t l (2:Nat) 1).2.2.1++(Qz (Qv w t l (2:Nat) 1).1 (Q3 (Qv w t l (2:Nat) 1).2.1) 2 (QL (Qv w t l (2:Nat) 1).1.st t 2 2) ((Q3 (Qv w t l (2:Nat) 1).2.1).length/4)).2.2.1,(Qz (Qv w t l (2:Nat) 1).1 (Q3 (Qv w t l (2:Nat) 1).2.1) 2 (QL (Qv w t l (2:Nat) 1).1.st t 2 2) ((Q3 (Qv w t l (2:Nat) 1).2.1).length/4)).2.2.2):=by
   grind [Qv]
  rw[e2] at hok⊢;rw[e1] at hok hok1⊢;dsimp only at hok hok1⊢;obtain⟨F1,K1,f1,f2,f3,f4,f5,f6,f7,f8⟩:=Qkt h hp4 hpad (by omega) hold ((many+3)/4) (by omega) hok1;have hsim:=QgP w (Q3 l) 1 (QL w.st t 2 1) ((many+3)/4)
  have hK1:K1.Sublist (if t.depth=2 then Qr (Qi w.st t.root 2).1 else []):=by
   refine f6.trans ?_;unfold QL
   by_cases hdd:t.depth=2
   ·rw[if_neg (by omega),if_neg (by omega),if_pos hdd]
    split
    ·exact AN _ (List.take_sublist _ _)
    grind [Qew]
   grind [Qew]
  generalize Qz w (Q3 l) 1 (QL w.st t 2 1) ((many+3)/4)=r at*;have hn2:(Q3 r.2.1).length/4=1:=by unfold Q3;grind
  have hp42:(Q3 r.2.1).length=4:=by grind [Qkb]
  rw[hn2] at hok⊢
  have hpad2: ∀q∈Q3 r.2.1,Pl.ptrHole q=true∨q.birth<=r.1.txg:=fun q hq=>by
   rcases A8.1 hq with hq|hq
   ·exact(f8 q hq).imp id fun e=>f1.bir q e
   grind [Qdj]
  have hold2: ∀o∈QL r.1.st t 2 2,Pl.ptrHole o=true∨o∈F1++(Q9 w.st t++X)/\(Qi r.1.st o 2).2=true:=by
   unfold QL;intro o ho;split at ho
   ·grind [Qdj]
   ·rename_i hdd
    have hdd:t.depth=2:=by omega
    rw[if_pos rfl] at ho;rw[AP.1 ho];cases hh:Pl.ptrHole t.root
    ·have hr:=A0 X (hrootI hh (by omega))
     refine .inr ⟨A1 _ hr,?_⟩;have hlv:=hT.lv;rw[leaves2 _ hdd] at hlv;split at hlv
     ·rename_i hb
      rw[Qem (fun _=>f2 _ hr) (by rw[hsim.2.1];omega) hb];exact hb
     grind
    grind
  have hsub2:(Qr ((QL r.1.st t 2 2).take 1)).Sublist (if t.depth=2 then Qr [t.root] else []):=by
   grind [QL,Qew]
  obtain⟨F2,K2,g1,g2,g3,g4,g5,g6,g7,g8⟩:=Qkt f1 (n:=1) hp42 hpad2 (by omega) hold2 1 (by omega) hok;have hsim2:=QgP r.1 (Q3 r.2.1) 2 (QL r.1.st t 2 2) 1;generalize Qz r.1 (Q3 r.2.1) 2 (QL r.1.st t 2 2) 1=r2 at*;have hb:=g4 0 (by omega);rw[QlF hp42] at hb
  have hbelow: ∀j,j<(many+3)/4->Qi r2.1.st (r.2.1.getD j Pl.hole) 1=(Qbg (Q3 l) j,true):=fun j hj=>by
   rw[<-f4 j hj];refine Qem (fun hh=>?_) (by rw[hsim2.2.1];omega) (by grind);rcases f8 _ (Pl.QdE (d:=Pl.hole) (show j<r.2.1.length by omega)) with e|e
   ·grind
   ·exact g2 _ e
  have hrep: ∀k,(A3 k Pl.hole).flatMap (fun p=>(Qi r2.1.st p 1).1)=A3 (4*k) Pl.hole:=fun k=>by
   induction k with
   |zero=>rfl
   |succ k ih=>
    rw[List.replicate_succ,AH,ih,QjH,AA]
    grind
  refine⟨F2++F1,K2++K1,?_,?_,?_,?_,?_,?_,by omega⟩
  ·grind
  ·exact f2.trans g2 fun p hp=>A1 _ hp
  ·by_cases hdd:t.depth=2
   ·rw[if_pos hdd] at hK1 hsub2
    rw[QeF hdd];exact Ab (g6.trans hsub2) hK1
   grind
  ·grind
  ·rw[leaves2 _ rfl]
   dsimp only;rw[hb,if_pos rfl,if_pos]
   ·congr 1
    unfold Q3;rw[List.flatMap_append,hrep,QoU,f3]
    have e3:(AO ((many+3)/4)).flatMap (fun j=>(Qi r2.1.st (r.2.1.getD j Pl.hole) 1).1)=(AO ((many+3)/4)).flatMap (Qbg (Q3 l)):=by
     rw[AU,AU,AF fun j hj=>by rw[hbelow j (List.mem_range.1 hj)]]
    rw[e3,QrC (by omega),AL (by omega)];unfold Q3;rw[A9,AA,hlen]
    congr 2;omega
   ·rw[AB]
    intro q hq;rcases A8.1 hq with hq|hq
    ·obtain⟨j,hj,rfl⟩:=List.getElem_of_mem hq
     grind
    grind [QjH]
  ·rw[QeF rfl]
   dsimp only;rw[hb]
   have:r2.2.1=[r2.2.1.getD 0 Pl.hole]:=by
    match r2.2.1,g3 with
    |[a],_=>rfl
   rw[<-this,nh_pad4];refine(List.Perm.append g5 f5).trans ?_
   grind
theorem Qj0{α:Type}(p:α->Bool): ∀l:List α,l.Perm (l.filter (fun x=> !p x)++l.filter p)
 |[]=> .refl _
 |x::l=>by
  have ih:=Qj0 p l;cases h:p x
  ·simp_all
  ·rw[List.filter_cons_of_neg (by simp[h]),List.filter_cons_of_pos (by simp[h])]
   exact(AX _ ih).trans AS.symm
theorem Qp4{s:Pm.Store}{l:List Pl.Ptr}{n many:Nat}(h:QI s t=(l++A3 (n -many) Pl.hole,true))(hl:l.length=many)(hn:many<=n)(h16:n<=16):Qe s t=l++A3 (16 -many) Pl.hole:=by grind [Qe,AA]
theorem QtU{lv:List Pl.Ptr}{many:Nat}(hT:Qbr w t)(h:QU w (Q9 w.st t++X))(hm:many<=16)(hll:lv.length=16)(hl: ∀q∈lv.take many,Pl.ptrHole q=true∨(q∈X/\q.level=0))(hok:(Qw w t lv many).2.2=true):
 Qbr (Qw w t lv many).1 (Qw w t lv many).2.1/\Qe (Qw w t lv many).1.st (Qw w t lv many).2.1=lv.take many++A3 (16 -many) Pl.hole/\
 QI (Qw w t lv many).1.st (Qw w t lv many).2.1=(lv.take many++A3 (4^Q2 many -many) Pl.hole,true)/\
 QU (Qw w t lv many).1 (Q9 (Qw w t lv many).1.st (Qw w t lv many).2.1++X)/\QaC w (Qw w t lv many).1 X/\(Qw w t lv many).1.txg=w.txg/\(Qw w t lv many).2.1.many=many/\(Qw w t lv many).2.1.depth=(Q2 many:Nat):=by
 have hlen:(lv.take many).length=many:=by grind
 unfold Qw at hok⊢;split at hok;rotate_left
 ·cases hok
 rename_i hok2;rw[if_pos hok2];obtain⟨F,K,f1,f2,f3,f4,f5,f6,f7⟩:=lev_in hT h hm hll hl hok2;have hsim:=Qm7 w t (lv.take many) (Q2 many:Nat) (Q2 many);dsimp only;generalize Qv w t (lv.take many) (Q2 many:Nat) (Q2 many)=r at*;have hd16:4^Q2 many<=16:=by grind [QfM]
 have hkept:K.Sublist ((Q9 w.st t).filter fun p=>r.2.2.1.contains p):=by
  have h1:=AN (fun p=>r.2.2.1.contains p) f3
  rwa [List.filter_eq_self.2 fun q hq=>by grind] at h1
 obtain⟨R,hR⟩:=Qnm hkept
 have hp:(F++(Q9 w.st t++X)).Perm (QaQ (Q9 w.st t) r.2.2.1++((F++K)++X++R)):=by
  have h1:(Q9 w.st t).Perm (QaQ (Q9 w.st t) r.2.2.1++(K++R)):=(Qj0 (fun p=>r.2.2.1.contains p) _).trans (A7 _ hR);refine(A7 F (AD X h1)).trans ?_;generalize QaQ (Q9 w.st t) r.2.2.1=U
  have e1:(F++(U++(K++R)++X)).Perm (U++(F++((K++R)++X))):=by
   grind
  refine e1.trans (A7 U ?_);rw[A9,A9,A9];refine A7 F (A7 K ?_)
  grind
 obtain⟨g1,g2⟩:=Qib _ (f1.perm hp);have g3:=g1.left;have htx:=QgK (QaQ (Q9 w.st t) r.2.2.1) r.1
 have hTr:Qbr r.1 ⟨r.2.1.getD 0 Pl.hole,(Q2 many:Nat),many⟩:=by
  have hwd:=Qp4 f5 hlen f7 hd16;refine⟨⟨by grind,by grind [QtZ],?_,by grind,by grind⟩,?_,by rw[f5],?_,?_⟩
  ·--the root is a pointer
   show Pl.ptrOk (r.2.1.getD 0 Pl.hole)=true
   by_cases hd0:Q2 many=0
   ·have hlv:=f5
    rw[leaves0 _ (by grind)] at hlv;have h2:=(Prod.mk.inj hlv).1;have h3:r.2.1.getD 0 Pl.hole∈lv.take many++A3 (4^Q2 many -many) Pl.hole:=by grind
    rcases A8.1 h3 with h4|h4
    ·rcases hl _ h4 with e|⟨e,_⟩
     ·rw[Qgw e];exact QdA
     ·exact(QfL (h.fit _ (A1 _ e))).1
    grind [QdA]
   ·cases hh:Pl.ptrHole (r.2.1.getD 0 Pl.hole)
    ·have hin:r.2.1.getD 0 Pl.hole∈Q9 r.1.st ⟨r.2.1.getD 0 Pl.hole,(Q2 many:Nat),many⟩:=by
      unfold Q9
      simp_all
     have h3:=f6.mem_iff.1 hin
     have h4:r.2.1.getD 0 Pl.hole∈F++(Q9 w.st t++X):=by
      grind
     exact(QfL (f1.fit _ h4)).1
    grind [Qgw,QdA]
  ·simp
  ·grind [Qdj]
  ·intro i hi
   have hi2:many<=i:=by simp_all
   rw[hwd,A2,AG (by omega),AK];split<;>rfl
 have hkeep:QaC r.1 (r.1.freeL (QaQ (Q9 w.st t) r.2.2.1)) (Q9 r.1.st ⟨r.2.1.getD 0 Pl.hole,(Q2 many:Nat),many⟩):=fun q hq=>
  g2 q (A0 _ (A0 _ (f6.mem_iff.1 hq)))
 obtain⟨k1,k2,k3,_,k5⟩:=QeS hTr hkeep (by omega);refine⟨k1,by grind [Qp4],by grind,?_,?_,by rw[htx];exact hsim.2.1,rfl,rfl⟩
 ·rw[k3]
  exact g3.perm (AD X f6.symm)
 ·exact fun q hq=>(g2 q (A0 _ (A1 _ hq))).trans (f2 q (A1 _ hq))
theorem Qln(l:List Pl.Ptr)(n:Nat):Qr l=Qr (l.take n)++Qr (l.drop n):=by rw[<-Qeu,List.take_append_drop]
theorem Qkr: ∀(l:List Pl.Ptr) (w:Pl.Sto),w.freeL l=w.freeL (Qr l)
 |[],_=>rfl
 |p::l,w=>by
  cases hh:Pl.ptrHole p
  ·have e:Qr (p::l)=p::Qr l:=by grind [Qr]
   rw[e];exact Qkr l (w.free p)
  ·have e:Qr (p::l)=Qr l:=by grind [Qr]
   rw[e];have e2:w.free p=w:=by unfold Pl.Sto.free;grind
   show(w.free p).freeL l=_;rw[e2];exact Qkr l w
theorem Qmp(s:Pm.Store)(t:Pl.Tree):Qr (Qe s t)=Qr (QI s t).1:=by grind [Qe,Qeu,Qew]
theorem Qr4{many:Nat}(hT:Qbr w t)(h:QU w (Q7 w.st t++X))(hm:many<=16)(hok:(QM w t many).2.2=true):
 Qbr (QM w t many).1 (QM w t many).2.1/\(QM w t many).2.1.many=many/\QU (QM w t many).1 (Q7 (QM w t many).1.st (QM w t many).2.1++X)/\QaC w (QM w t many).1 X/\(QM w t many).1.txg=w.txg/\
 (∀i,i<many->(Qe (QM w t many).1.st (QM w t many).2.1).getD i Pl.hole=(Qe w.st t).getD i Pl.hole)/\QaC w (QM w t many).1 (Qr ((Qe w.st t).take many)):=by
 unfold QM at hok⊢;split at hok
 ·rename_i he
  rw[if_pos he];exact⟨hT,he.symm,h,fun _ _=>rfl,rfl,fun _ _=>rfl,fun _ _=>rfl⟩
 ·rename_i he
  rw[if_neg he];split at hok;rotate_left
  ·cases hok
  rename_i hok2;rw[if_pos hok2];have hwl:=Qd3 w.st hT.good.hi;have hnw:Qr (QI w.st t).1=Qr ((Qe w.st t).take many)++Qr ((Qe w.st t).drop many):=by grind [Qmp,Qln]
  have hL:QU w (Q9 w.st t++(Qr ((Qe w.st t).take many)++(Qr ((Qe w.st t).drop many)++X))):=by
   grind [Q7]
  have hz: ∀q∈Qe w.st t,Pl.ptrHole q=true∨q.level=0:=fun q hq=>by
   rcases A8.1 hq with hq|hq
   ·exact hT.zero q hq
   grind [Qdj]
  obtain⟨y1,y2,y3,y4,y5,y6,y7,y8⟩:=QtU hT hL hm hwl (fun q hq=>by
   cases hh:Pl.ptrHole q
   ·refine .inr ⟨A0 _ (QeA.2 ⟨hq,hh⟩),?_⟩
    grind
   grind) hok2
  generalize Qw w t (Qe w.st t) many=y at*;dsimp only
  have hp:(Q9 y.1.st y.2.1++(Qr ((Qe w.st t).take many)++(Qr ((Qe w.st t).drop many)++X))).Perm (Qr ((Qe w.st t).drop many)++(Q7 y.1.st y.2.1++X)):=by
   grind [Q7,Qeu,Qew]
  rw[Qkr];obtain⟨g1,g2⟩:=Qib _ (y4.perm hp);have htx:=QgK (Qr ((Qe w.st t).drop many)) y.1;obtain⟨k1,k2,k3,k4,k5⟩:=QeS (w':=y.1.freeL (Qr ((Qe w.st t).drop many))) y1 (fun q hq=>g2 q (A0 _ (A0 _ hq))) (by omega);refine⟨k1,y7,by grind,fun q hq=>?_,by omega,fun i hi=>?_,fun q hq=>?_⟩
  ·exact(g2 q (A1 _ hq)).trans (y5 q (A1 _ (A1 _ hq)))
  ·grind
  ·refine(g2 q (A0 _ ?_)).trans (y5 q (A0 _ hq))
   grind [Q7,Qeu]
def Qa5(w:Pl.Sto)(t:Pl.Tree)(k many:Nat)(p:Pl.Ptr)(lv:List Pl.Ptr):Pl.Sto×Pl.Tree×Bool:=
 if(Qw w t (lv.set k p) many).2.2 then(if p=lv.getD k Pl.hole then(Qw w t (lv.set k p) many).1 else(Qw w t (lv.set k p) many).1.free (lv.getD k Pl.hole),(Qw w t (lv.set k p) many).2.1,true)
 else((Qw w t (lv.set k p) many).1,(Qw w t (lv.set k p) many).2.1,false)
def Qm(w:Pl.Sto)(t:Pl.Tree)(k:Nat)(text:List UInt8):Pl.Sto×Pl.Tree×Bool:=
 if(Qf w.rows ((Qe w.st t).getD k Pl.hole)).1=text then
  (if max t.many.toNat (k+1)=t.many.toNat then(w,t,true) else Qa5 w t k (max t.many.toNat (k+1)) ((Qe w.st t).getD k Pl.hole) (Qe w.st t))
 else if text=[] then Qa5 w t k (max t.many.toNat (k+1)) Pl.hole (Qe w.st t)
 else if(w.write text 0).2.2 then Qa5 (w.write text 0).1 t k (max t.many.toNat (k+1)) (w.write text 0).2.1 (Qe w.st t)
 else(w,t,false)
theorem Qst{l:List Pl.Ptr}(h:k<l.length):(Qr (l.set k p)++Qr [l.getD k Pl.hole]).Perm (Qr [p]++Qr l):=by
 have e1:l.set k p=l.take k++p::l.drop (k+1):=List.set_eq_take_append_cons_drop .. ▸(by grind)
 have e2:l=l.take k++l.getD k Pl.hole::l.drop (k+1):=by
  simp_all
 have hc: ∀(x:Pl.Ptr) (m:List Pl.Ptr),Qr (x::m)=Qr [x]++Qr m:=fun x m=>Qeu [x] m
 grind [Qeu]
theorem Qfq(rows:List (List UInt8)):Qf rows Pl.hole=([],true):=by grind [Qf,Qdj]
theorem QtQ{rows:List (List UInt8)}(h:QaU p (rows.getD p.pat.toNat [])=true):Qf rows p=(rows.getD p.pat.toNat [],true):=by
 unfold Qf;rw[(QfL h).2.1,h];rfl
theorem Qml{many:Nat}(hT:Qbr w t)(hk:k<16)(hm:many=max t.many.toNat (k+1))
 (h:QU w (Q9 w.st t++(Qr ((Qe w.st t).set k p)++(Qr (if p=(Qe w.st t).getD k Pl.hole then [] else [(Qe w.st t).getD k Pl.hole])++X)))) (hp:Pl.ptrHole p=true∨p.level=0) (hok:(Qa5 w t k many p (Qe w.st t)).2.2=true):
 Qbr (Qa5 w t k many p (Qe w.st t)).1 (Qa5 w t k many p (Qe w.st t)).2.1/\(Qa5 w t k many p (Qe w.st t)).2.1.many=many/\QU (Qa5 w t k many p (Qe w.st t)).1 (Q7 (Qa5 w t k many p (Qe w.st t)).1.st (Qa5 w t k many p (Qe w.st t)).2.1++X)/\
 QaC w (Qa5 w t k many p (Qe w.st t)).1 (Qr ((Qe w.st t).set k p)++X)/\(Qa5 w t k many p (Qe w.st t)).1.txg=w.txg/\Qe (Qa5 w t k many p (Qe w.st t)).1.st (Qa5 w t k many p (Qe w.st t)).2.1=(Qe w.st t).set k p:=by
 have hwl:=Qd3 w.st hT.good.hi;have hm16:many<=16:=by have:=hT.good.manyHi;omega
 have hz: ∀q∈Qe w.st t,Pl.ptrHole q=true∨q.level=0:=fun q hq=>by
  rcases A8.1 hq with hq|hq
  ·exact hT.zero q hq
  ·rw[(AC.1 hq).2];exact .inl Qdj
 have htop:=hT.top;have hinner:=fun s':Pm.Store=>s'
 clear hinner;generalize hwd:Qe w.st t=wd at*
 have hset:(wd.set k p).take many++A3 (16 -many) Pl.hole=wd.set k p:=by
  refine List.ext_getElem? fun i=>?_
  by_cases hi:i<many
  ·grind
  ·rw[AG (by grind),List.length_take,AW,AK,List.getElem?_set_ne (by omega)]
   by_cases h16:i<16
   ·rw[if_pos (by omega)]
    have:=htop i (by omega)
    grind
   grind
 have hns:Qr ((wd.set k p).take many)=Qr (wd.set k p):=by
  grind [Qeu,Qew]
 unfold Qa5 at hok⊢;split at hok;rotate_left
 ·cases hok
 rename_i hok2;rw[if_pos hok2]
 obtain⟨y1,y2,y3,y4,y5,y6,y7,y8⟩:=QtU hT h hm16 (by grind) (fun q hq=>by
  cases hh:Pl.ptrHole q
  ·refine .inr ⟨A0 _ (QeA.2 ⟨AE hq,hh⟩),?_⟩
   grind
  grind) hok2
 generalize Qw w t (wd.set k p) many=y at*;dsimp only;rw[hset] at y2
 have htps:Q7 y.1.st y.2.1=Q9 y.1.st y.2.1++Qr (wd.set k p):=by
  grind [Q7,Qeu,Qew]
 by_cases hpo:p=wd.getD k Pl.hole
 ·rw[if_pos hpo] at y4 y5⊢
  refine⟨y1,y7,?_,fun q hq=>y5 q ?_,y6,y2⟩
  ·rw[htps,A9];exact y4
  grind
 ·rw[if_neg hpo] at y4 y5⊢
  cases hh:Pl.ptrHole (wd.getD k Pl.hole);rotate_left
  ·grind [Pl.Sto.free,Qr]
  ·have e3:Qr [wd.getD k Pl.hole]=[wd.getD k Pl.hole]:=by grind [Qr]
   rw[e3] at y4 y5
   have hp2:(Q9 y.1.st y.2.1++(Qr (wd.set k p)++([wd.getD k Pl.hole]++X))).Perm (wd.getD k Pl.hole::(Q7 y.1.st y.2.1++X)):=by
    grind
   obtain⟨g1,g2⟩:=Qse (y4.perm hp2);have htx:=(QnD y.1 (wd.getD k Pl.hole)).1;obtain⟨k1,k2,k3,k4,k5⟩:=QeS (w':=y.1.free (wd.getD k Pl.hole)) y1 (fun q hq=>g2 q (A0 _ (A0 _ hq))) (by omega);refine⟨k1,y7,by grind,fun q hq=>?_,by omega,by grind⟩;rcases A8.1 hq with e|e
   ·exact(g2 q (A0 _ (by grind))).trans (y5 q (A0 _ e))
   ·exact(g2 q (A1 _ e)).trans (y5 q (A1 _ (A1 _ e)))
theorem Qhh{many:Nat}{lv:List Pl.Ptr}(h:(Qa5 w t k many p lv).2.2=false):QcD w (Qa5 w t k many p lv).1:=by grind [Qa5,Qi0]
theorem Qmd{text:List UInt8}(hT:Qbr w t)(hk:k<16)(h:QU w (Q7 w.st t++X))(hok:(Qm w t k text).2.2=true):
 Qbr (Qm w t k text).1 (Qm w t k text).2.1/\(Qm w t k text).2.1.many=(max t.many.toNat (k+1):Nat)/\QU (Qm w t k text).1 (Q7 (Qm w t k text).1.st (Qm w t k text).2.1++X)/\QaC w (Qm w t k text).1 X/\(Qm w t k text).1.txg=w.txg/\
 (∀i,i≠k->(Qe (Qm w t k text).1.st (Qm w t k text).2.1).getD i Pl.hole=(Qe w.st t).getD i Pl.hole/\(Qf (Qm w t k text).1.rows ((Qe w.st t).getD i Pl.hole)).1=(Qf w.rows ((Qe w.st t).getD i Pl.hole)).1)/\
 (Qf (Qm w t k text).1.rows ((Qe (Qm w t k text).1.st (Qm w t k text).2.1).getD k Pl.hole)).1=text:=by
 have hwl:=Qd3 w.st hT.good.hi;have hk2:k<(Qe w.st t).length:=by omega
 have hlv:Q7 w.st t++X=Q9 w.st t++(Qr (Qe w.st t)++X):=by grind [Q7,Qmp]
 rw[hlv] at h
 have hz: ∀q∈Qe w.st t,Pl.ptrHole q=true∨q.level=0:=fun q hq=>by
  rcases A8.1 hq with hq|hq
  ·exact hT.zero q hq
  ·rw[(AC.1 hq).2];exact .inl Qdj
 have fin: ∀{u y:Pl.Sto} {tt:Pl.Tree} {p:Pl.Ptr},QaC u y (Qr ((Qe w.st t).set k p))->QaC w u (Qr (Qe w.st t))->Qe y.st tt=(Qe w.st t).set k p->
  ∀i,i≠k->(Qe y.st tt).getD i Pl.hole=(Qe w.st t).getD i Pl.hole/\(Qf y.rows ((Qe w.st t).getD i Pl.hole)).1=(Qf w.rows ((Qe w.st t).getD i Pl.hole)).1:=by
  intro u y tt p h1 h2 h3 i hi;have e1:((Qe w.st t).set k p).getD i Pl.hole=(Qe w.st t).getD i Pl.hole:=by grind
  refine⟨by grind,?_⟩;cases hh:Pl.ptrHole ((Qe w.st t).getD i Pl.hole)
  ·have hil:i<(Qe w.st t).length:=by
    rw[A2] at hh;cases hx:(Qe w.st t)[i]? with
    |none=>rw[hx] at hh;exact absurd hh (by decide)
    |some q=>grind
   have m1:=Pl.QdE (d:=Pl.hole) hil
   have m2:(Qe w.st t).getD i Pl.hole∈(Qe w.st t).set k p:=by
    grind
   unfold Qf;rw[hh];simp only[A5,if_false];rw[h1 _ (QeA.2 ⟨m2,hh⟩),h2 _ (QeA.2 ⟨m1,hh⟩)]
  grind [Qgw,Qfq]
 unfold Qm at hok⊢;split at hok
 ·rename_i he
  rw[if_pos he];split at hok
  ·rename_i hm
   rw[if_pos hm];dsimp only;refine⟨hT,by omega,by grind,fun _ _=>rfl,rfl,fun i hi=>⟨rfl,rfl⟩,he⟩
  ·rename_i hm
   rw[if_neg hm]
   have hs:(Qe w.st t).set k ((Qe w.st t).getD k Pl.hole)=Qe w.st t:=by
    simp_all
   obtain⟨y1,y2,y3,y4,y5,y6⟩:=Qml hT hk rfl (p:=(Qe w.st t).getD k Pl.hole) (X:=X) (by rw[if_pos rfl,hs];exact h) (hz _ (Pl.QdE hk2)) hok;refine⟨y1,y2,y3,fun q hq=>y4 q (A1 _ hq),y5,fin (fun q hq=>y4 q (A0 _ hq)) (fun _ _=>rfl) y6,?_⟩;rw[y6,hs];rw[hs] at y4;cases hh:Pl.ptrHole ((Qe w.st t).getD k Pl.hole)
   ·have:Qf (Qa5 w t k (max t.many.toNat (k+1)) ((Qe w.st t).getD k Pl.hole) (Qe w.st t)).1.rows ((Qe w.st t).getD k Pl.hole)=Qf w.rows ((Qe w.st t).getD k Pl.hole):=by
     unfold Qf;rw[hh];simp only[A5,if_false];rw[y4 _ (A0 _ (QeA.2 ⟨Pl.QdE hk2,hh⟩))]
    grind
   grind [Qgw,Qfq]
 ·rename_i he
  rw[if_neg he];have hpm:=fun p=>Qst (p:=p) hk2
  split at hok
  ·rename_i ht
   rw[if_pos ht];have hne: ¬Pl.hole=(Qe w.st t).getD k Pl.hole:=fun e=>he (by grind [Qfq])
   have hnp:(Qr (Qe w.st t)++X).Perm (Qr ((Qe w.st t).set k Pl.hole)++(Qr [(Qe w.st t).getD k Pl.hole]++X)):=by
    rw[<-A9];exact AD X ((hpm Pl.hole).symm)
   obtain⟨y1,y2,y3,y4,y5,y6⟩:=Qml hT hk rfl (p:=Pl.hole) (X:=X) (by rw[if_neg hne];exact h.perm (A7 _ hnp)) (.inl Qdj) hok;refine⟨y1,y2,y3,fun q hq=>y4 q (A1 _ hq),y5,fin (fun q hq=>y4 q (A0 _ hq)) (fun _ _=>rfl) y6,?_⟩
   grind [Qfq]
  ·rename_i ht
   rw[if_neg ht];split at hok;rotate_left
   ·cases hok
   rename_i hwok;rw[if_pos hwok];obtain⟨g1,g2,g3,g4,g5,g6⟩:=Qos h hwok;have hfit:=g1.fit _ A4;obtain⟨_,f2,_,_⟩:=QfL hfit;have htx:=(Pl.Qg6 w text 0).1;generalize w.write text 0=v at*;obtain⟨k1,k2,k3,k4,k5⟩:=QeS (w':=v.1) hT (fun q hq=>g2 q (A0 _ hq)) (by omega)
   have hne: ¬v.2.1=(Qe w.st t).getD k Pl.hole:=by
    intro e;have hm:(Qe w.st t).getD k Pl.hole∈Qr (Qe w.st t):=QeA.2 ⟨Pl.QdE hk2,by grind⟩;have hfo:=h.fit _ (A1 _ (A0 _ hm));have h1:=g2 _ (A1 _ (A0 _ hm))
    grind [QtQ]
   have hnp:(v.2.1::(Q9 w.st t++(Qr (Qe w.st t)++X))).Perm (Q9 w.st t++(Qr ((Qe w.st t).set k v.2.1)++(Qr [(Qe w.st t).getD k Pl.hole]++X))):=by
    grind [Qr]
   obtain⟨y1,y2,y3,y4,y5,y6⟩:=Qml (w:=v.1) (t:=t) (k:=k) (p:=v.2.1) (X:=X) k1 hk rfl (by rw[k5,k3,if_neg hne];exact g1.perm hnp) (.inr g4) (by grind);rw[k5] at y1 y2 y3 y4 y5 y6;refine⟨y1,y2,y3,fun q hq=>(y4 q (A1 _ hq)).trans (g2 q (A1 _ (A1 _ hq))),y5.trans htx,fin (fun q hq=>y4 q (A0 _ hq)) (fun q hq=>g2 q (A1 _ (A0 _ hq))) y6,?_⟩;have hm2:v.2.1∈Qr ((Qe w.st t).set k v.2.1):=QeA.2 ⟨List.mem_set hk2 _,f2⟩;rw[y6,Pl.getD_set,if_pos ⟨rfl,hk2⟩];have h1:=y4 _ (A0 _ hm2)
   grind [QtQ]
section
variable{P:Program}{dst:Option Tmp}{ty:TypeId}{pos:String}{after:Array Edge}{gd:Option (Nat×Bool)}{env:List (Nat×AV)}{H:List Blk}
def Qd8{l:List UInt8}(hx:aval env x= .d (.v (.string ⟨l.toArray⟩)))(hy:aval env y= .d (.v (.string ⟨m.toArray⟩)))(hb:(l==m)=b):
 Loc P ⟨dst,.binOp .eql T x y T',ty,pos,after,gd⟩ env H (.d (.v (.bool b))) none:=hb▸Qdm hx hy
def QdS{l:List UInt8}(hx:aval env x= .d (.v (.string ⟨l.toArray⟩)))(hy:aval env y= .d (.v (.string ⟨m.toArray⟩)))(hb:(l==m)=b):
 Loc P ⟨dst,.binOp .neq T x y T',ty,pos,after,gd⟩ env H (.d (.v (.bool !b))) none:=hb▸Qd2 hx hy
def QgH{j m:Int}(hx:aval env x= .d (.v (.int κ i)))(hy:aval env y= .d (.v (.int κ' j)))(hm:(if j>i then j else i)=m):Loc P ⟨dst,.call ⟨.builtin .max, #[x,y], #[t1,t2]⟩,ty,pos,after,gd⟩ env H (.d (.v (.int κ m))) none:=hm▸Qmz hx hy
def Qkf{j m:Int}(hx:aval env x= .d (.v (.int κ i)))(hy:aval env y= .d (.v (.int κ' j)))(hm:(if j<i then j else i)=m):Loc P ⟨dst,.call ⟨.builtin .min, #[x,y], #[t1,t2]⟩,ty,pos,after,gd⟩ env H (.d (.v (.int κ m))) none:=hm▸Qmy hx hy
end
theorem Qiw{dst:Option Tmp}{ty:TypeId}{pos:String}{after:Array Edge}{gd:Option (Nat×Bool)}{env:List (Nat×AV)}{H:List Blk}{x y:Tmp}{q:Pl.Ptr}(hx:aval env (.tmp x)= .d (dPtr p))(hy:aval env (.tmp y)= .d (dPtr q))(hb:decide (p=q)=b):
 Loc AI ⟨dst,.binOp .neq 31 (.tmp x) (.tmp y) T',ty,pos,after,gd⟩ env H (.d (dB !b)) none:=hb▸
 loc_bin' (X:= .agg #[.int .i64 p.pat,.int .i64 p.birth,.int .i64 p.size,.int .i64 p.sum,.int .i64 p.level]) (Y:= .agg #[.int .i64 q.pat,.int .i64 q.birth,.int .i64 q.size,.int .i64 q.sum,.int .i64 q.level]) (by rw[hx];rfl) (by rw[hy];rfl) fun w=>by
  obtain⟨p1,p2,p3,p4,p5⟩:=p;obtain⟨q1,q2,q3,q4,q5⟩:=q
  go_simp
  grind
theorem tgood0:Qx ⟨Pl.hole,0,0⟩:=⟨by decide,by decide,QdA,by decide,by decide⟩
theorem QpZ(h:w.W N)(ht:Pl.ptrOk t.root=true){many:Nat}{lv:List Pl.Ptr}(hp:Pl.ptrOk p=true)(hl: ∀q∈lv,Pl.ptrOk q=true)(hm:many<=16):(Qa5 w t k many p lv).1.W (N+14)/\Qx (Qa5 w t k many p lv).2.1:=by
 have hl2: ∀q∈lv.set k p,Pl.ptrOk q=true:=fun q hq=>by
  grind
 have h1:=lay_W h ht hl2 hm;unfold Qa5;split
 ·rename_i hc
  refine⟨?_,h1.2 hc⟩;split
  ·exact h1.1.le (by omega)
  ·exact(h1.1.free (Qgy hl k)).le (by omega)
 ·rename_i hc
  refine⟨h1.1.le (by omega),?_⟩
  grind [Qw,tgood0]
theorem QeV(h:w.W N)(ht:Qx t)(hk:k<16)(text:List UInt8):(Qm w t k text).1.W (N+15)/\Qx (Qm w t k text).2.1:=by
 have hm:max t.many.toNat (k+1)<=16:=by have:=ht.manyHi;omega
 have ho:=Qfn w.st ht.root;unfold Qm;split
 ·split
  ·exact⟨h.le (by omega),ht⟩
  ·have:=QpZ h ht.root (k:=k) (Qgy ho k) ho hm
   exact⟨this.1.le (by omega),this.2⟩
 ·split
  ·have:=QpZ h ht.root (k:=k) QdA ho hm
   exact⟨this.1.le (by omega),this.2⟩
  ·split
   ·have hw:=h.write text 0
    have:=QpZ hw.1 ht.root (k:=k) hw.2 ho hm;omega
   ·exact⟨h.le (by omega),ht⟩
theorem Qeh{text:List UInt8}(h:(Qm w t k text).2.2=false):QcD w (Qm w t k text).1:=by
 unfold Qm at h⊢;split
 ·grind [Qhh]
 ·rename_i h1
  rw[if_neg h1] at h;split
  ·grind [Qhh]
  ·rename_i h2
   rw[if_neg h2] at h;split
   ·rename_i h3
    rw[if_pos h3] at h;have a:=Qhh h;have b:=Pl.Qg6 w text 0;have c:=Pl.QeT w text 0;exact⟨a.1.trans c,a.2.1.trans b.1,a.2.2.trans b.2⟩
   ·exact⟨rfl,rfl,rfl⟩
theorem Qmb{text:List UInt8}{level:Int}(h:(w.write text level).2.2=false):(w.write text level).1=w:=by
 unfold Pl.Sto.write at h⊢;cases hs:w.seek text level with
 |none=>rfl
 |some a=>
  grind [Pl.Sto.put]
attribute [local irreducible] ASeq ADraw AWP Loc AStep Fg.PlanF Fg.Flts EndR
def ePut_c(g:Nat)(w:Pl.Sto)(N:Nat)(hN:N<=800000)(hw:w.W N)(t:Pl.Tree)(ht:Qx t)(k:Nat)(hk:k<16)(text:List UInt8)(htx:text.length<=Pm.big)(h1: ¬(Qf w.rows ((Qe w.st t).getD k Pl.hole)).1=text)(h2: ¬text=[]):
 DoesE AI 46 [oS g w,.d (dTree t),.d (dI k),.d (dS text)] (hS g w) (gS g w) (fun x H=> ∃g',((Qm w t k text).2.2=false->g'=g)/\x= .tup [oS g' (Qm w t k text).1,.d (dTree (Qm w t k text).2.1),.d (dB (Qm w t k text).2.2)]/\H=hS g' (Qm w t k text).1):=by
 have hgood:=hw.good;have c1:=dWide w.st hgood t ht;have hl:=Qd3 w.st ht.hi;have ho:=Qfn w.st ht.root
 have hfl:[Blk.arr 2 5 31 ((Qe w.st t).map rPtr)].all Blk.flat=true:=by
  simp[Blk.flat];intro x _;exact⟨rfl,rfl,rfl,rfl,rfl⟩
 have hd:=Pm.hid (Qm.eq_def w t k text);have hm1:=ht.manyLo;have hm2:=ht.manyHi;have hmx:(if((k:Int)+1)>t.many then((k:Int)+1) else t.many)=((max t.many.toNat (k+1):Nat):Int):=by split<;>omega
 have hmk:max t.many.toNat (k+1)<=16:=by omega
 have hmq:(max t.many.toNat (k+1)=t.many.toNat)↔((max t.many.toNat (k+1):Nat):Int)=t.many:=by omega
 generalize max t.many.toNat (k+1)=many at*;generalize Qm w t k text=res at*;generalize Qe w.st t=wd at*;have hkl:k<wd.length:=by omega
 have hr0:(wd.map rPtr)[0+(k:Int).toNat]? =some (rPtr (wd.getD k Pl.hole)):=by
  rw[Aa,AR,List.getElem?_map,A2,List.getElem?_eq_getElem hkl];rfl
 have hoo:=Qgy ho k;have hset: ∀p,(wd.map rPtr).set (0+(k:Int).toNat) (rPtr p)=(wd.set k p).map rPtr:=fun p=>by rw[Aa,AR,List.map_set]
 have hsl: ∀p,(wd.set k p).length=16:=fun p=>by rw[AW];exact hl
 have hT: ∀p,((wd.set k p).map rPtr).take 16=(wd.set k p).map rPtr:=fun p=>AL (by simp[hl])
 have hso: ∀p,Pl.ptrOk p=true-> ∀q∈wd.set k p,Pl.ptrOk q=true:=fun p hp q hq=>by
  rcases List.mem_or_eq_of_mem_set hq with e|e
  ·exact ho q e
  ·rw[e];exact hp
 have c2:=al7R w.st hgood (wd.getD k Pl.hole) fun _=>hoo
 have hF: ∀(w1:Pl.Sto) (p:Pl.Ptr),Hid (Qa5 w1 t k many p wd=if(Qw w1 t (wd.set k p) many).2.2 then(if p=wd.getD k Pl.hole then(Qw w1 t (wd.set k p) many).1 else(Qw w1 t (wd.set k p) many).1.free (wd.getD k Pl.hole),(Qw w1 t (wd.set k p) many).2.1,true)
  else((Qw w1 t (wd.set k p) many).1,(Qw w1 t (wd.set k p) many).2.1,false)):=fun w1 p=>Pm.hid rfl
 generalize wd.getD k Pl.hole=old at*;rw[show w.st.1=w.rows from rfl] at c2;generalize Qf w.rows old=rb at*;obtain⟨was,wok⟩:=rb;simp only at c2 hd h1;have hw':=hw.le (M:=N+1) (by omega)
 have go: ∀(w1:Pl.Sto) (p:Pl.Ptr),w1.W (N+1)->Pl.ptrOk p=true->w1.gone=w.gone->Hid (res=Qa5 w1 t k many p wd)->
  ((was==text)=false/\(text==[])=false/\DoesE AI 95 [oS g w,.d (dS text),.d (dI 0)] (hS g w) (gS g w) (fun x H=>x= .tup [oS g w1,.d (dPtr p),.d (dB true)]/\H=hS g w1))->
  DoesE AI 46 [oS g w,.d (dTree t),.d (dI k),.d (dS text)] (hS g w) (gS g w) (fun x H=> ∃g',(res.2.2=false->g'=g)/\x= .tup [oS g' res.1,.d (dTree res.2.1),.d (dB res.2.2)]/\H=hS g' res.1):=by
  intro w1 p hw1 hp hgn hd hcase;rw[(hF w1 p).out] at hd;have cL:=pinS (X:=fun g'=> .tup [oS g' (Qw w1 t (wd.set k p) many).1,.d (dTree (Qw w1 t (wd.set k p) many).2.1),.d (dB (Qw w1 t (wd.set k p) many).2.2)]) (C:=fun g'=>(Qw w1 t (wd.set k p) many).2.2=false->g'=g) (eLay g w1 (N+1) (by omega) hw1 t ht.root (wd.set k p) (hsl p) (hso p hp) many hmk);have hWy:=(lay_W hw1 ht.root (hso p hp) hmk).1;have hst:=hset p;rw[<-show(AV.d (.sl true 5 (((wd.set k p).map rPtr).take 16)))= .d (tPtrs (wd.set k p)) by rw[hT]] at cL;generalize Qw w1 t (wd.set k p) many=y at*;clear hset hT hso hsl;generalize (wd.set k p).map rPtr=rows2 at*;obtain⟨w2,t2,ok2⟩:=y;simp only at cL hd hWy;rw[hgn] at cL;have v0:w2.rows.length=w.rows.length:=by rw[hWy.rows,hw.rows]
  have v1:w2.refs.length=w.refs.length:=by rw[hWy.refs,hw.refs]
  have v2:w2.last.length=w.last.length:=by rw[hWy.last,hw.last]
  have cf:=fun g'=>eFree2 g' w2 (N+1+13) (by omega) hWy old hoo
  have hWf:=hWy.free hoo;have u0:(w2.free old).rows.length=w.rows.length:=by rw[hWf.rows,hw.rows]
  have u1:(w2.free old).refs.length=w.refs.length:=by rw[hWf.refs,hw.refs]
  have u2:(w2.free old).last.length=w.last.length:=by rw[hWf.last,hw.last]
  generalize w2.free old=wf at*;clear hWf hWy hF;have hpo: ∃b,decide (p=old)=b:=⟨_,rfl⟩;obtain⟨bpo,hpo⟩:=hpo;have hdF:ok2=false->Hid (res=(w2,t2,false)):=fun e=>Pm.hid (by rw[hd.out,e];rfl)
  have hdT:ok2=true->bpo=true->Hid (res=(w2,t2,true)):=fun e e3=>Pm.hid (by rw[hd.out,e,if_pos rfl,if_pos (of_decide_eq_true (hpo.trans e3))])
  have hdN:ok2=true->bpo=false->Hid (res=(wf,t2,true)):=fun e e3=>Pm.hid (by rw[hd.out,e,if_pos rfl,if_neg (of_decide_eq_false (hpo.trans e3))])
  clear hd;obtain⟨hb1,hb3,c3⟩:=hcase;cases ok2;rotate_left;cases bpo
  all_goals
   refine kH fun gvs=>?_
   repeat' first|refine kS ?_|refine(QdK (ds:=[dTree t]) c1 cK hw rfl hfl (k:=?_))|refine qS (QcY Ty.h rfl rfl hr0 rfl) ?_|refine qS (QcZ cK c2 hw) ?_|refine qS (QgH rfl rfl hmx) ?_|refine qS (Qd8 rfl rfl hb1) ?_|refine qS (QdS rfl rfl hb1) ?_|refine qS (QdS (m:=[]) rfl rfl hb3) ?_|refine QA [0,1,2,3,4] c3 cK (k:=kX ?_)|refine(Qnc Ty.h rfl rfl hr0 hst (kk:=?_))|refine(Qa 9 (C:= .arr 2 5 31 rows2) (h:=?_))|(refine QA [0,1,2,3,4] cL cK (k:=?_);rintro _ _ ⟨g2,hg2,hC,rfl,rfl⟩;refine Qd1 (k:=?_))|refine qS (Qiw rfl rfl hpo) ?_|(refine QA [0,1,2,3,4] (cf _) cK (k:=?_);rintro _ _ ⟨g3,hg3,rfl,rfl⟩;refine Qd1 (k:=?_))|refine(Qa 6 (h:=Fg.awp_drawF [1] [2,3] ?_))|refine kU ?_|fail
  all_goals first
   |exact absurd (hb2.out.symm.trans ‹((many:Int)==t.many)=true›) (by decide)
   |(obtain rfl:=hC rfl
     rcases hg2 with hg2|⟨_,hg2⟩
     ·omega
     ·refine QN 5 (hx:=?_)
      rw[(hdF rfl).out]
      exact⟨_,fun _=>rfl,rfl,rfl⟩)
   |(have hg4:g<g3∨g3=g/\wf.gone.length=w.gone.length:=by
      rcases hg2 with h1|⟨h1,h2⟩<;>rcases hg3 with h3|⟨h3,h4⟩<;>first|(left;omega)|(right;exact⟨by omega,h4.trans h2⟩)
     rcases hg4 with hg4|⟨rfl,hg4⟩<;>(refine QN 5 (hx:=?_);rw[(hdN rfl rfl).out];refine⟨_,?_,rfl,rfl⟩;intro h;cases h))
   |(rcases hg2 with hg2|⟨rfl,hg2⟩<;>(refine QN 5 (hx:=?_);rw[(hdT rfl rfl).out];refine⟨_,?_,rfl,rfl⟩;intro h;cases h))
 have hb1: ∀b,decide (was=text)=b->(was==text)=b:=fun b h=>by rw[<-h];by_cases e:was=text<;>simp[e]
 replace hb1:=hb1 false (by simpa using h1)
 rw[if_neg h1] at hd;rw[if_neg h2] at hd;have hb3:(text==[])=false:=by simpa using h2
 have c3:=eWrite g w N (by omega) hw text htx 0;have hww:=hw.write text 0;have hwg:=Pl.QeT w text 0;have hwf:=Qmb (w:=w) (text:=text) (level:=0);generalize w.write text 0=y at*;obtain⟨w1,p1,ok1⟩:=y;simp only at c3 hd hww hwg hwf;cases ok1
 ·obtain rfl:w1=w:=hwf rfl
  simp only[A5,if_false] at hd;clear go hF hset hT hso hsl;refine kH fun gvs=>?_
  repeat' first|refine kS ?_|refine(QdK (ds:=[dTree t]) c1 cK hw rfl hfl (k:=?_))|refine qS (QcY Ty.h rfl rfl hr0 rfl) ?_|refine qS (QcZ cK c2 hw) ?_|refine qS (QgH rfl rfl hmx) ?_|refine qS (Qd8 rfl rfl hb1) ?_|refine qS (QdS rfl rfl hb1) ?_|refine qS (QdS (m:=[]) rfl rfl hb3) ?_|refine QA [0,1,2,3,4] c3 cK (k:=kX ?_)|(show AWP _ (.region 13 _ _) _ _;refine(Qa 6 (h:=Fg.awp_drawF (id:=13) [1] [2,3] ?_)))|refine kU ?_|fail
  all_goals first|refine QN 5 (hx:=?_);rw[hd.out];exact⟨g,fun _=>rfl,rfl,rfl⟩
 simp only[if_true] at hd;exact go w1 p1 hww.1 hww.2 hwg hd ⟨hb1,hb3,c3⟩
