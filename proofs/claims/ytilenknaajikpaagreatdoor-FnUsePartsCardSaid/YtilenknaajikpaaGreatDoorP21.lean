/- Of parts_card; no condition. -/
import Derived.Test.YtilenknaajikpaaGreatDoorP18
set_option linter.all false
set_option maxRecDepth 100000
set_option maxHeartbeats 16000000
open Bool renaming false_eq_true->A5,and_eq_true->AX,not_eq_true'->Ai,and_true->Ax
open Go renaming TypeId->Aj
open Go.Proofs.Tryz renaming prog->AJ
open Go.RowKit renaming Hid->Aq
open Int renaming toNat_natCast->AS,le_refl->An
open List renaming mem_append_left->A0,mem_append_right->A1,getD_eq_getElem?_getD->A2,mem_replicate->A3,replicate->A4,mem_cons_self->A6,append_assoc->A7,mem_append->A8,take_of_length_le->A9,append_nil->AB,mem_cons_of_mem->AC,nil_append->AD,getElem?_eq_getElem->AE,replicate_append_replicate->AF,all_eq_true->AG,flatMap_cons->AH,mem_of_mem_take->AI,cons_append->AK,take_replicate->AL,flatMap_def->AN,mem_of_getElem?->AO,map_congr_left->AP,mem_singleton->AQ,getElem?_append_right->AR,take_add_one->AT,length_take->AU,perm_middle->AW,getElem?_replicate->AY,length_filter_le->AZ,mem_of_mem_drop->Aa,flatMap_append->Ac,mem_cons->Ae,filter_append->Af,range->Ag,getElem?_map->Ah,length_cons->Ak,flatMap_nil->Al,nil_sublist->Am,mem_filter->Ao,length_set->Ar,map_take->Au
open List.Perm renaming append_left->AA,append_right->AM,cons->As
open List.Sublist renaming filter->Ad,append->B1
open Nat renaming add_sub_cancel'->Ab,add_assoc->Av,le_trans->Ay,zero_add->Az,le_refl->B0
open Option.some renaming inj->Ap
namespace Go.Proofs.YtilenknaajikpaaGreatDoor
noncomputable section
section
open Go.RowKit
namespace Aw
variable{Q0:AV->List Blk->Prop}{H0:List Blk}{gl:List AV}{f:FuncId}{P:Program}{p old:Pl.Ptr}{after:Array Edge}{pos:String}{ty T:Aj}{N:Nat}{w:Pl.Sto}{j:Int}{κ':IntKind}{rows':List (List D)}{u y:Operand}{E:TyF}
def QqH{σ:Sg}{S:Nat->Prop}{H:List Blk}{w:World}{x:AV}{v:Value}(h:Rel σ S H w x v):Rel σ S H w x.weak1 v:=by
 cases x with
 |d x=>cases h with|d _ _ h=>exact .d _ _ h.weak
 |_=>exact h
theorem DoesE.arg{l l':List AV}(h:DoesE P f l' H0 gl Q0)(ha:l.map AV.weak1=l':=by rfl):DoesE P f l H0 gl Q0:=by
 intro B σ S w cargs gvs h1 h2 h3 h4 h5 h6;subst ha;refine h B σ S w cargs gvs h1 h2 (by grind) (fun i d v hd hv=>?_) h5 h6;rw[Ah] at hd;obtain⟨d0,g1,rfl⟩:=Option.map_eq_some_iff.1 hd;exact QqH (h4 i d0 v g1 hv)
theorem Qmf{dst:Option Tmp}{T':Aj}{gd:Option (Nat×Bool)}{env:List (Nat×AV)}{H:List Blk}{x y:Tmp}{q:Pl.Ptr}(hx:aval env (.tmp x)= .d (dPtr p))(hy:aval env (.tmp y)= .d (dPtr q)):
 Loc AJ ⟨dst,.binOp .eql 31 (.tmp x) (.tmp y) T',ty,pos,after,gd⟩ env H (.d (dB (decide (p=q)))) none:=
 loc_bin' (X:= .agg #[.int .i64 p.pat,.int .i64 p.birth,.int .i64 p.size,.int .i64 p.sum,.int .i64 p.level]) (Y:= .agg #[.int .i64 q.pat,.int .i64 q.birth,.int .i64 q.size,.int .i64 q.sum,.int .i64 q.level]) (by rw[hx];rfl) (by rw[hy];rfl) fun w=>by
  obtain⟨p1,p2,p3,p4,p5⟩:=p;obtain⟨q1,q2,q3,q4,q5⟩:=q
  go_simp
  grind
def Q2(w:Pl.Sto)(l:List Pl.Ptr)(level:Int)(was:List Pl.Ptr):Nat->Pl.Sto×List Pl.Ptr×List Pl.Ptr×Bool
 |0=>(w,[],[],true)
 |i+1=>if(Q2 w l level was i).2.2.2 then
   (if(Qan (Q2 w l level was i).1 ((l.take (4*(i+1))).drop (4*i)) level (was.getD i Pl.hole)).2.2 then
     ((Qan (Q2 w l level was i).1 ((l.take (4*(i+1))).drop (4*i)) level (was.getD i Pl.hole)).1,(Q2 w l level was i).2.1++[(Qan (Q2 w l level was i).1 ((l.take (4*(i+1))).drop (4*i)) level (was.getD i Pl.hole)).2.1],
       (Q2 w l level was i).2.2.1++(if(Qan (Q2 w l level was i).1 ((l.take (4*(i+1))).drop (4*i)) level (was.getD i Pl.hole)).2.1=was.getD i Pl.hole then [was.getD i Pl.hole] else []),true)
   else((Q2 w l level was i).1,(Q2 w l level was i).2.1,(Q2 w l level was i).2.2.1,false)) else Q2 w l level was i
def Q6(l:List Pl.Ptr):List Pl.Ptr:=l++A4 ((4 -l.length%4)%4) Pl.hole
def Qv(w:Pl.Sto)(t:Pl.Tree)(l:List Pl.Ptr)(depth:Int):Nat->Pl.Sto×List Pl.Ptr×List Pl.Ptr×Bool
 |0=>(w,l,[],true)
 |k+1=>if(Qv w t l depth k).2.2.2 then
   ((Q2 (Qv w t l depth k).1 (Q6 (Qv w t l depth k).2.1) (k+1:Nat) (QK (Qv w t l depth k).1.st t depth (k+1:Nat)) ((Q6 (Qv w t l depth k).2.1).length/4)).1,
    (Q2 (Qv w t l depth k).1 (Q6 (Qv w t l depth k).2.1) (k+1:Nat) (QK (Qv w t l depth k).1.st t depth (k+1:Nat)) ((Q6 (Qv w t l depth k).2.1).length/4)).2.1,
    (Qv w t l depth k).2.2.1++(Q2 (Qv w t l depth k).1 (Q6 (Qv w t l depth k).2.1) (k+1:Nat) (QK (Qv w t l depth k).1.st t depth (k+1:Nat)) ((Q6 (Qv w t l depth k).2.1).length/4)).2.2.1,
    (Q2 (Qv w t l depth k).1 (Q6 (Qv w t l depth k).2.1) (k+1:Nat) (QK (Qv w t l depth k).1.st t depth (k+1:Nat)) ((Q6 (Qv w t l depth k).2.1).length/4)).2.2.2) else Qv w t l depth k
def QaZ(old stays:List Pl.Ptr):List Pl.Ptr:=old.filter fun p=> !stays.contains p
def Q5(many:Nat):Nat:=if many<=1 then 0 else if many<=4 then 1 else 2
def Qw(w:Pl.Sto)(t:Pl.Tree)(leaves:List Pl.Ptr)(many:Nat):Pl.Sto×Pl.Tree×Bool:=
 if(Qv w t (leaves.take many) (Q5 many) (Q5 many)).2.2.2 then
  ((Qv w t (leaves.take many) (Q5 many) (Q5 many)).1.freeL (QaZ (QC w.st t) (Qv w t (leaves.take many) (Q5 many) (Q5 many)).2.2.1),⟨(Qv w t (leaves.take many) (Q5 many) (Q5 many)).2.1.getD 0 Pl.hole,Q5 many,many⟩,true)
 else((Qv w t (leaves.take many) (Q5 many) (Q5 many)).1,⟨Pl.hole,0,0⟩,false)
def Qst(h:w.W N){l:List Pl.Ptr}{level:Int}(ho:Pl.ptrOk old=true):(Qan w l level old).1.W (N+1)/\Pl.ptrOk (Qan w l level old).2.1=true/\(Qan w l level old).1.gone=w.gone:=by
 unfold Qan;split
 ·exact⟨h.le (by omega),QdN,rfl⟩
 ·split
  ·exact⟨h.le (by omega),ho,rfl⟩
  ·have:=h.write (QZ l).1 level
   exact⟨this.1,this.2,Pl.Qfm _ _ _⟩
theorem QgU{l:List Pl.Ptr}(h: ∀p∈l,Pl.ptrOk p=true)(i:Nat):Pl.ptrOk (l.getD i Pl.hole)=true:=by
 rw[A2];cases hi:l[i]? with
 |none=>exact QdN
 |some p=>grind
theorem Qss{w:Pl.Sto}{N:Nat}(h:w.W N){l:List Pl.Ptr}{level:Int}{was:List Pl.Ptr}(ho: ∀p∈was,Pl.ptrOk p=true): ∀i,(Q2 w l level was i).1.W (N+i)/\(Q2 w l level was i).1.gone=w.gone/\
 (∀p∈(Q2 w l level was i).2.1,Pl.ptrOk p=true)/\(Q2 w l level was i).2.1.length<=i/\(Q2 w l level was i).2.2.1.length<=i
 |0=>⟨h,rfl,by simp[Q2],by simp[Q2],by simp[Q2]⟩
 |i+1=>by
  obtain⟨h1,h2,h3,h4,h5⟩:=Qss h (l:=l) (level:=level) ho i;have:=Qst h1 (l:=(l.take (4*(i+1))).drop (4*i)) (level:=level) (QgU ho i);simp only[Q2];generalize Q2 w l level was i=r at*;generalize Qan r.1 ((l.take (4*(i+1))).drop (4*i)) level (was.getD i Pl.hole)=y at*;split
  ·split
   ·grind
   ·exact⟨h1.le (by omega),h2,h3,by grind,by grind⟩
  ·exact⟨h1.le (by omega),h2,h3,by omega,by omega⟩
theorem QhR{w:Pl.Sto}{l:List Pl.Ptr}{level:Int}{was:List Pl.Ptr}{i:Nat}(h:(Q2 w l level was i).2.2.2=false): ∀j,Q2 w l level was (i+j)=Q2 w l level was i
 |0=>rfl
 |j+1=>by
  have ih:=QhR h j;show Q2 w l level was (i+j+1)=_;simp only[Q2]
  grind
theorem Qjg{w:Pl.Sto}{t:Pl.Tree}{l:List Pl.Ptr}{depth:Int}{k:Nat}(h:(Qv w t l depth k).2.2.2=false): ∀j,Qv w t l depth (k+j)=Qv w t l depth k
 |0=>rfl
 |j+1=>by
  have ih:=Qjg h j;show Qv w t l depth (k+j+1)=_;simp only[Qv]
  grind
theorem Qqa{l:List Pl.Ptr}{level:Int}(h:(Qan w l level old).2.2=false):(Qan w l level old).1=w:=by
 unfold Qan at h⊢;split
 ·rfl
 ·rename_i h1
  rw[if_neg h1] at h;split
  ·rfl
  ·rename_i h2
   rw[if_neg h2] at h;unfold Pl.Sto.write at h⊢;cases hs:w.seek (QZ l).1 level with
   |none=>rfl
   |some a=>
    rw[hs] at h;simp only[Pl.Sto.put] at h⊢
    grind
theorem QkT(s:Pm.Store)(t:Pl.Tree)(ht:Pl.ptrOk t.root=true):(∀p∈QC s t,Pl.ptrOk p=true)/\(QC s t).length<=5:=by
 unfold QC;split
 ·simp
 ·refine⟨fun p hp=>?_,?_⟩
  ·rcases Ae.1 hp with rfl|hp
   ·exact ht
   ·split at hp
    ·exact Qi8 s _ _ p (Ao.1 hp).1
    grind
  ·rw[Ak]
   split
   ·have h1:=AZ (fun p=> !Pl.ptrHole p) (Qh s t.root 2).1
    have h2:=QeF s t.root 2;omega
   ·simp
def DoesE.pins{args:List AV}(h:DoesE P f args H0 gl Q0):DoesE P f args H0 gl fun x H1=>Q0 x H1/\ ∀i C,H0[i]? =some C-> ∃C',H1[i]? =some C'/\pin1 gl i C C':=
 fun B σ S w cargs gvs h1 h2 h3 h4 h5 h6=>(h B σ S w cargs gvs h1 h2 h3 h4 h5 h6).mono fun _ _ ⟨x,H1,h7,h8,h9⟩=>⟨x,H1,⟨h7,h8⟩,h8,h9⟩
theorem eFree2(g:Nat)(w:Pl.Sto)(N:Nat)(hN:N<=1000000)(hw:w.W N)(p:Pl.Ptr)(hp:Pl.ptrOk p=true):
 DoesE AJ 81 [oS g w,.d (dPtr p)] (hS g w) (gS g w) (fun x H=> ∃g',(g<g'∨g'=g/\(w.free p).gone.length=w.gone.length)/\x=oS g' (w.free p)/\H=hS g' (w.free p)):=by
 intro B σ S w0 cargs gvs h1 h2 h3 h4 h5 h6;refine((eFree g w N hN hw p hp).pins B σ S w0 cargs gvs h1 h2 h3 h4 h5 h6).mono ?_;rintro _ _ ⟨x,H1,⟨⟨g',rfl,rfl⟩,h7⟩,h8,h9⟩;refine⟨_,_,⟨g',?_,rfl,rfl⟩,h8,h9⟩;obtain⟨C',e1,e2⟩:=h7 3 _ rfl;obtain rfl:=Ap e1;obtain⟨_,_,e3|⟨e3,e4,_⟩⟩:=e2
 ·omega
 grind
attribute [local irreducible] ASeq ADraw AWP Loc AStep Fg.PlanF Fg.Flts EndR Fk.PlanF Fk.Flts Fk.AStepM Fk.Grew Fk.Gs
def Qkb{dst:Option Tmp}{gd:Option (Nat×Bool)}{env:List (Nat×AV)}{H:List Blk}{e:Aj}{F:TyF}{x:Operand}{rows:List (List D)}{κ:IntKind}{i:Int} [hT:Ty P T F](he:F.elem=some e) [hE:Ty P e E](hu:aval env u= .d (.sl true E.size rows))(hx:aval env x= .d (.v (.int κ i)))(hy:aval env y= .d (.v (.int κ' j)))
 (h0:0<=i) (h1:i<=j) (h2:j<=rows.length) (hq:(rows.take j.toNat).drop i.toNat=rows'):Loc P ⟨dst,.slice T u (some x) (some y) none,ty,pos,after,gd⟩ env H (.d (.sl true E.size rows')) none:=hq▸Qmc he hu hx hy h0 h1 h2
def QrL{dst:Option Tmp}{gd:Option (Nat×Bool)}{env:List (Nat×AV)}{H:List Blk}{e:Aj}{F:TyF}{rows:List (List D)} [hT:Ty P T F](he:F.elem=some e) [hE:Ty P e E](hu:aval env u= .d (.sl true E.size rows))(hy:aval env y= .d (.v (.int κ' j)))
 (h0:0<=j) (h2:j<=rows.length) (hq:rows.take j.toNat=rows'):Loc P ⟨dst,.slice T u none (some y) none,ty,pos,after,gd⟩ env H (.d (.sl true E.size rows')) none:=hq▸Qg3 he hu hy h0 h2
def fan_four'{s:List UInt8}(h:(QaH s).2=true):(QaH s).1.length=4:=by
 unfold QaH at h⊢;simp only at h⊢;split at h
 ·rename_i h';rw[if_pos h'];simp at h';simp[h'.1.2]
 ·cases h
def Qkv{s:Pm.Store}{n:Int}(h:(Qh s p n).2=true):(Qh s p n).1.length=4:=by
 unfold Qh at h⊢;split
 ·simp
 ·rename_i h1
  rw[if_neg h1] at h;split at h
  ·rename_i h2
   rw[if_pos h2];split at h
   ·cases h
   ·rename_i h3;rw[if_neg h3];exact fan_four' h
  ·cases h
def QtK(s:Pm.Store)(t:Pl.Tree)(depth level:Int):level≠depth->(QK s t depth level).length=4:=by
 intro h;unfold QK;split
 ·simp
 ·split
  ·exact Qkv (by assumption)
  ·simp
def QtJ(s:Pm.Store)(t:Pl.Tree)(depth level:Int):1<=(QK s t depth level).length/\(QK s t depth level).length<=4:=by
 unfold QK;split
 ·simp
 ·split
  ·simp
  ·split
   ·rw[Qkv (by assumption)];simp
   ·simp
def Qr4(s:Pm.Store)(t:Pl.Tree)(depth level:Int)(ht:Pl.ptrOk t.root=true): ∀p∈QK s t depth level,Pl.ptrOk p=true:=by
 have hr: ∀p∈A4 4 Pl.hole,Pl.ptrOk p=true:=fun p hp=>by rw[(A3.1 hp).2];exact QdN
 unfold QK;split
 ·exact hr
 ·split
  ·simpa using ht
  ·split
   ·exact Qi8 s _ _
   ·exact hr
abbrev zSt:List AV:=[.d (.v (.slice none 0 0)),.d (.v (.slice none 0 0)),.d (.v (.slice none 0 0)),.d (.v (.int .i64 0)),.d (.v (.slice none 0 0)),.d (.v (.int .i64 0)),.d (.v (.slice none 0 0)),.d (.v (.bool false))]
abbrev zTr:List AV:=[.d (.v (.int .i64 0)),.d (.v (.int .i64 0)),.d (.v (.int .i64 0)),.d (.v (.int .i64 0)),.d (.v (.int .i64 0)),.d (.v (.int .i64 0)),.d (.v (.int .i64 0))]
abbrev zPt:List AV:=[.d (.v (.int .i64 0)),.d (.v (.int .i64 0)),.d (.v (.int .i64 0)),.d (.v (.int .i64 0)),.d (.v (.int .i64 0))]
def Qeu(n1:Nat)(ts ks:List Nat){I:Nat->St->Prop}{ts0:List Nat}{m n:Nat}{env env':List (Nat×AV)}{H H':List Blk}(h1:n1<n)(h2:I n1 ⟨N,env',H'⟩)(he:keepE env ts=renE (pk ks) env':=by rfl)(hks:ks.map (fun k=>H[k]?)=(H'.map (Blk.ren (pk ks))).map some:=by rfl)(hnd:ks.Nodup:=by decide)
 (h3:envLt H'.length env'=true:=by rfl) (h4:H'.all (Blk.lt H'.length)=true:=by rfl):Back I ts0 m n ⟨N,env,H⟩:=⟨_,n1,Ql5 ts ks he hks hnd h3 h4,h1,h2⟩
abbrev rowS(g:Nat)(w:Pl.Sto):List AV:=[.osl 0 1 0 64,.osl 1 1 0 64,.osl 2 1 0 64,.d (dI w.txg),.osl 3 g 0 w.gone.length,.d (dI 0),.osl 4 1 0 0,.d (dB w.same)]
theorem eLay(g:Nat)(w:Pl.Sto)(N:Nat)(hN:N<=900000)(hw:w.W N)(t:Pl.Tree)(ht:Pl.ptrOk t.root=true)(leaves:List Pl.Ptr)(hl:leaves.length=16)(hlo: ∀p∈leaves,Pl.ptrOk p=true)(many:Nat)(hm:many<=16):
 DoesE AJ 80 [oS g w,.d (dTree t),.d (tPtrs leaves),.d (dI many)] (hS g w) (gS g w) (fun x H=> ∃g',((Qw w t leaves many).2.2=false->g'=g)/\x= .tup [oS g' (Qw w t leaves many).1,.d (dTree (Qw w t leaves many).2.1),.d (dB (Qw w t leaves many).2.2)]/\H=hS g' (Qw w t leaves many).1):=by
 have c1:Pure AJ 103 [dI many] (dI (Q5 many)):=by
  have:=Ql0 many
  have e:(if(many:Int)<=1 then 0 else if(many:Int)<=4 then 1 else 2)=((Q5 many:Nat):Int):=by
   unfold Q5;split<;>split<;>(try split)<;>(try split)<;>first|rfl|omega
  rw[e] at this;exact this
 have c2:=eInner g w N hw t;have hd:=Pm.hid (Qw.eq_def w t leaves many);have hdep:Aq (Q5 many<=2/\(Q5 many=1->many<=4)):=Pm.hid (by unfold Q5;split<;>(try split)<;>omega);have hE0:(leaves.map rPtr).take (many:Int).toNat=(leaves.take many).map rPtr:=by rw[AS,Au]
 have hl0:(leaves.take many).length=many:=by rw[AU];omega
 have hE1:([]:List (List D)).length+((leaves.take many).map rPtr).length=many:=by rw[List.length_map,hl0];simp
 have hlk:Aq (∀p∈leaves.take many,Pl.ptrOk p=true):=Pm.hid fun p hp=>hlo p (AI hp)
 generalize leaves.take many=l0 at*;have hold:Aq (∀p∈QC w.st t,Pl.ptrOk p=true):=Pm.hid (QkT w.st t ht).1;have hol:(QC w.st t).length<=5:=(QkT w.st t ht).2;generalize QC w.st t=old at*;generalize Q5 many=dep at*;generalize Qw w t leaves many=res at*;refine kH fun gvs=>?_
 refine Qa 6 (h:=?_)
 repeat' first|refine kS ?_|refine qS (QrL rfl rfl rfl (by omega) (by simp;omega) hE0) ?_|refine QdW Ty.h rfl Ty.h (hb:=?_) (hcell:=?_) (kk:=?_)|refine QD [0,1,2,3,4] c2 cK (k:=kX ?_)|refine kU ?_|fail
 ·exact Qdy l0
 ·simp;omega
 refine QdV [15,11,4,5,8,9,3,12,13,14,1000000] [0,1,2,3,4,5,7,8,9,10] (env':=[(15,.d (dI ((0+1:Nat):Int))),(11,.d (dI dep)),(4,.ptr 5 0 0),(5,.d (.pd [dI t.root.pat,dI t.root.birth,dI t.root.size,dI t.root.sum,dI t.root.level,dI t.depth,dI t.many])),(8,.ptr 6 0 0),(9,.ptr 7 0 0),(3,.d (dI many)),(12,.d (tPtrs old)),(13,.osl 8 1 0 l0.length),(14,.osl 9 0 0 0),(1000000,.gh (gS g w) gvs)])
  (H':=hS g w++[.row 0 (rowS g w),.row 0 zSt,.row 0 zTr,.arr 1 5 31 (l0.map rPtr),.arr 0 5 31 []]) (h:=?_)
 clear hlo hE0 hE1 c1 c2
 refine Qs (fun m st=> ∃(k gl:Nat) (wk:Pl.Sto) (l stays:List Pl.Ptr),k<=dep/\m=dep -k/\Aq (Qv w t l0 dep k=(wk,l,stays,true))/\Aq (wk.W (N+4*k)/\wk.gone=w.gone/\(∀p∈l,Pl.ptrOk p=true)/\(k=0->l.length=many)/\(k≠0->l.length<=4))/\l.length<=16/\stays.length<=4*k/\
  st=⟨145,[(15,.d (dI ((k+1:Nat):Int))),(11,.d (dI dep)),(4,.ptr 5 0 0),(5,.d (.pd [dI t.root.pat,dI t.root.birth,dI t.root.size,dI t.root.sum,dI t.root.level,dI t.depth,dI t.many])),(8,.ptr 6 0 0),(9,.ptr 7 0 0),(3,.d (dI many)),(12,.d (tPtrs old)),(13,.osl 8 gl 0 l.length),(14,.osl 9 stays.length 0 stays.length),(1000000,.gh (gS g w) gvs)],
   hS g wk++[.row 0 (rowS g wk),.row 0 zSt,.row 0 zTr,.arr gl 5 31 (l.map rPtr),.arr stays.length 5 31 (stays.map rPtr)]⟩) [15,11,4,5,8,9,3,12,13,14,1000000] 10 dep
  ⟨0,1,w,l0,[],by omega,rfl,Pm.hid rfl,Pm.hid ⟨hw,rfl,hlk.out,fun _=>hl0,fun h=>absurd rfl h⟩,by omega,by simp,rfl⟩ (round:=?_)
 rintro m st ⟨k,gl,wk,l,stays,hk,rfl,hL,hF,hll,hsl,rfl⟩;simp only[hS,AK,AD]
 repeat refine kG ?_
 cases q1:decide (((k+1:Nat):Int)<=(dep:Int))
 ·have hkd:k=dep:=by simp at q1;omega
  subst hkd;obtain⟨hWk,hgk,hlk1,_,_⟩:=hF.out;have hd2:=hdep.out.1;have hres:Aq (res=(wk.freeL (QaZ old stays),⟨l.getD 0 Pl.hole,k,many⟩,true)):=Pm.hid (by rw[hd.out,hL.out];simp);have z4:wk.gone.length=w.gone.length:=by rw[hgk]
  clear hd hL hF hdep hlk hl0;refine Qa 9 (h:=?_);refine Qa 8 (h:=?_);have hTs:(stays.map rPtr).take stays.length=stays.map rPtr:=A9 (by simp);have hTl:(l.map rPtr).take l.length=l.map rPtr:=A9 (by simp);rw[hTs,hTl]
  repeat refine kA ?_
  refine Qs (fun m st=> ∃(i g':Nat) (wi:Pl.Sto),i<=old.length/\m=old.length -i/\Aq (wi=wk.freeL (QaZ (old.take i) stays))/\Aq (wi.W (N+4*k+i))/\(g<g'∨g'=g/\wi.gone.length=w.gone.length)/\
   st=⟨145,[(22,.d (dI i)),(11,.d (dI k)),(4,.ptr 5 0 0),(8,.ptr 6 0 0),(9,.ptr 7 0 0),(3,.d (dI many)),(12,.d (tPtrs old)),(13,.d (tPtrs l)),(14,.d (tPtrs stays)),(1000000,.gh (gS g w) gvs)],
    hS g' wi++[.row 0 (rowS g' wi),.row 0 zSt,.row 0 zTr]⟩) [22,11,4,8,9,3,12,13,14,1000000] 8 old.length
   ⟨0,g,wk,by omega,rfl,Pm.hid rfl,Pm.hid hWk,.inr ⟨rfl,z4⟩,rfl⟩ (round:=?_)
  rintro m st ⟨i,g',wi,hi,rfl,hwi,hWi,hgi,rfl⟩;simp only[hS,AK,AD]
  repeat refine kG ?_
  cases q4:decide ((i:Int)<(old.length:Int))
  ·have hio:i=old.length:=by simp at q4;omega
   have hw2:=hwi.out;rw[hio,A9 (B0 _)] at hw2;have hW:=hWi.out;have v0:wi.rows.length=w.rows.length:=by rw[hW.rows,hw.rows]
   have v1:wi.refs.length=w.refs.length:=by rw[hW.refs,hw.refs]
   have v2:wi.last.length=w.last.length:=by rw[hW.last,hw.last]
   have hres2:Aq (res=(wi,⟨l.getD 0 Pl.hole,k,many⟩,true)):=Pm.hid (by rw[hres.out,<-hw2]);clear hw2 hwi hWi hres hold hW;cases l with
   |nil=>
    repeat' first|refine kS ?_|(show AWP _ (.region 36 _ _) _ _;refine(Qa 8 (h:=Fg.awp_drawF (id:=36) [1,2,3,4] [5,6] ?_)))|refine kU ?_|fail
    all_goals first|(rcases hgi with hgi|⟨rfl,hgi⟩<;>(refine QN 5 (hx:=?_);rw[hres2.out];refine⟨_,?_,rfl,rfl⟩;intro h;cases h))
   |cons x0 l=>
    have hr0:((x0::l).map rPtr)[(0:Int).toNat]? =some (rPtr x0):=rfl
    repeat' first|refine kS ?_|refine qS (Qdc Ty.h rfl Ty.h rfl rfl rfl (by simp) hr0) ?_|(show AWP _ (.region 36 _ _) _ _;refine(Qa 8 (h:=Fg.awp_drawF (id:=36) [1,2,3,4] [5,6] ?_)))|refine kU ?_|refine kV ?_ ?_<;>intro q|fail
    all_goals first|exfalso;have:=of_decide_eq_false q;omega|(rcases hgi with hgi|⟨rfl,hgi⟩<;>(refine QN 5 (hx:=?_);rw[hres2.out];refine⟨_,?_,rfl,rfl⟩;intro h;cases h))
  have hi2:i<old.length:=by simp at q4;omega
  obtain⟨x,hx⟩: ∃x,old[i]? =some x:=⟨_,AE hi2⟩;have hr:=Qu (f:=rPtr) hx;have hxo:=hold.out x (AO hx);have hW:=hWi.out;have cf:=eFree2 g' wi (N+4*k+i) (by omega) hW x hxo;have hWf:=hW.free hxo
  have hun:Aq (QaZ (old.take (i+1)) stays=QaZ (old.take i) stays++(if stays.contains x then [] else [x])):=Pm.hid (by
   unfold QaZ;rw[AT,hx,Af]
   congr 1
   by_cases h:x∈stays<;>simp[h])
  have hF2:Aq (wk.freeL (QaZ (old.take (i+1)) stays)=if stays.contains x then wi else wi.free x):=Pm.hid (by
   rw[hun.out,hwi.out]
   cases h:stays.contains x<;>simp[Pl.Sto.freeL])
  clear hun hx;generalize wi.free x=wf at*
  repeat refine kA ?_
  refine Qs (fun m st=> ∃j:Nat,j<=stays.length/\m=stays.length -j/\
   st=⟨145,[(24,.d (dI j)),(23,.d (dB ((stays.take j).contains x))),(22,.d (dI i)),(11,.d (dI k)),(4,.ptr 5 0 0),(8,.ptr 6 0 0),(9,.ptr 7 0 0),(3,.d (dI many)),(12,.d (tPtrs old)),(13,.d (tPtrs l)),(14,.d (tPtrs stays)),(1000000,.gh (gS g w) gvs)],
    hS g' wi++[.row 0 (rowS g' wi),.row 0 zSt,.row 0 zTr]⟩) [24,23,22,11,4,8,9,3,12,13,14,1000000] 8 stays.length
   ⟨0,by omega,rfl,rfl⟩ (round:=?_)
  rintro m st ⟨j,hj,rfl,rfl⟩;simp only[hS,AK,AD]
  repeat refine kG ?_
  cases q5:decide ((j:Int)<(stays.length:Int))
  ·have hjs:j=stays.length:=by simp at q5;omega
   rw[hjs,A9 (B0 _)];cases hkp:stays.contains x
   ·rw[hkp] at hF2
    simp only[A5,if_false] at hF2
    repeat' first|refine kS ?_|refine qD (iy hr) ?_|(show AWP _ (.region 32 _ _) _ _;refine(Fg.awp_drawF (id:=32) [] [5,6] ?_))|(refine Qfb [0,1,2,3,4] cf cK (k:=?_);rintro _ _ ⟨g2,hg2,rfl,rfl⟩;refine Qlv (k:=?_))|refine kU ?_|fail
    all_goals first|refine Qn (old.length -(i+1)) (by omega) ⟨i+1,g2,wf,by omega,rfl,Pm.hid hF2.out.symm,Pm.hid hWf,(by rcases hgi with h1|⟨h1,h2⟩<;>rcases hg2 with h3|⟨h3,h4⟩<;>first|(left;omega)|(right;exact⟨by omega,by omega⟩)),?_⟩;simp[keepE,go_sem];done
   ·rw[hkp] at hF2
    simp only[if_true] at hF2
    repeat refine kA ?_
    all_goals first|refine Qn (old.length -(i+1)) (by omega) ⟨i+1,g',wi,by omega,rfl,Pm.hid hF2.out.symm,Pm.hid (hW.le (by omega)),hgi,?_⟩;simp[keepE,go_sem];done
  have hj2:j<stays.length:=by simp at q5;omega
  obtain⟨y,hy⟩: ∃y,stays[j]? =some y:=⟨_,AE hj2⟩;have hry:=Qu (f:=rPtr) hy
  have hT2:Aq ((stays.take (j+1)).contains x=((stays.take j).contains x||decide (y=x))):=Pm.hid (by
   rw[AT,hy]
   by_cases h2:y=x
   ·subst h2;simp
   ·have h3: ¬x=y:=fun h=>h2 h.symm
    simp[h2,h3])
  clear hy cf hF2 hwi hWi hres;generalize (stays.take j).contains x=kb at*
  cases kb<;>(
   repeat' first|refine kS ?_|refine qD (iy hry) ?_|refine qD (iy hr) ?_|refine qD (Qmf rfl rfl) ?_|refine kU ?_|fail
   all_goals first
    |(refine Qn (stays.length -(j+1)) (by omega) ⟨j+1,by omega,rfl,?_⟩;rw[hT2.out];simp[keepE,go_sem];done))
 have hk1:k+1<=dep:=by simp at q1;omega
 have hd2:=hdep.out.1;obtain⟨hWk,hgk,hlk1,hlk2,hlk3⟩:=hF.out;have c3:=eOld g wk (N+4*k) hWk t dep (k+1:Nat);have ho1:Aq (((k+1:Nat):Int)≠dep->(QK wk.st t dep (k+1:Nat)).length=4):=Pm.hid (QtK _ _ _ _);have ho2:=QtJ wk.st t dep (k+1:Nat);have ho3:Aq (∀p∈QK wk.st t dep (k+1:Nat),Pl.ptrOk p=true):=Pm.hid (Qr4 _ _ _ _ ht)
 have hLk:Aq (Qv w t l0 dep (k+1)=((Q2 wk (Q6 l) (k+1:Nat) (QK wk.st t dep (k+1:Nat)) ((Q6 l).length/4)).1,(Q2 wk (Q6 l) (k+1:Nat) (QK wk.st t dep (k+1:Nat)) ((Q6 l).length/4)).2.1,
  stays++(Q2 wk (Q6 l) (k+1:Nat) (QK wk.st t dep (k+1:Nat)) ((Q6 l).length/4)).2.2.1,(Q2 wk (Q6 l) (k+1:Nat) (QK wk.st t dep (k+1:Nat)) ((Q6 l).length/4)).2.2.2)):=Pm.hid (by
   simp only[Qv];rw[if_pos (by rw[hL.out]),hL.out])
 generalize QK wk.st t dep (k+1:Nat)=was at*
 repeat' first|refine kS ?_|refine QD [0,1,2,3,4] c3 cK (k:=kX ?_)|refine kU ?_|fail
 clear c3
 refine Qs (fun m st=> ∃(j gl':Nat) (l':List Pl.Ptr),j<=(4 -l.length%4)%4/\m=(4 -l.length%4)%4 -j/\Aq (l'=l++A4 j Pl.hole)/\l'.length=l.length+j/\
  st=⟨145,[(15,.d (dI ((k+1:Nat):Int))),(11,.d (dI dep)),(4,.ptr 5 0 0),(5,.d (.pd [dI t.root.pat,dI t.root.birth,dI t.root.size,dI t.root.sum,dI t.root.level,dI t.depth,dI t.many])),(8,.ptr 6 0 0),(9,.ptr 7 0 0),(3,.d (dI many)),(12,.d (tPtrs old)),(13,.osl 8 gl' 0 l'.length),(14,.osl 9 stays.length 0 stays.length),(16,.d (tPtrs was)),(17,.osl 10 0 0 0),(1000000,.gh (gS g w) gvs)],
   hS g wk++[.row 0 (rowS g wk),.row 0 zSt,.row 0 zTr,.arr gl' 5 31 (l'.map rPtr),.arr stays.length 5 31 (stays.map rPtr),.arr 0 5 31 []]⟩) [15,11,4,5,8,9,3,12,13,14,16,17,1000000] 11 ((4 -l.length%4)%4)
  ⟨0,gl,l,by omega,rfl,Pm.hid (by simp),by omega,rfl⟩ (round:=?_)
 rintro m st ⟨j,gl',l',hj,rfl,hP,hpl,rfl⟩;simp only[hS,AK,AD]
 repeat refine kG ?_
 repeat' first|refine kS ?_|refine qS (QhI rfl rfl (by omega) (by omega)) ?_|refine QU Ty.h rfl Ty.h (hb:=?_) (kk:=?_)|refine kU ?_|refine kV ?_ ?_<;>intro q|fail
 all_goals first|simp;omega|refine Qn ((4 -l.length%4)%4 -(j+1)) (by have:=bne_iff_ne.1 q;omega) ⟨j+1,gl'+1,l'++[Pl.hole],by have:=bne_iff_ne.1 q;omega,rfl,Pm.hid (by rw[hP.out,A7,List.replicate_succ']),by simp;omega,?_⟩;simp[keepE,go_sem,Pl.hole];done|skip
 have hjp:j=(4 -l.length%4)%4:=by have:=bne_eq_false_iff_eq.1 q;omega
 have hl4:Q6 l=l':=by rw[hP.out,hjp];rfl
 have hl44:l'.length=4*(l'.length/4):=by have:=bne_eq_false_iff_eq.1 q;omega
 have hlow:Aq (∀p∈l',Pl.ptrOk p=true):=Pm.hid fun p hp=>by
  rw[hP.out] at hp;rcases A8.1 hp with hp|hp
  ·exact hlk1 p hp
  ·rw[(A3.1 hp).2];exact QdN
 have hwl:l'.length/4<=was.length:=by
  by_cases h:((k+1:Nat):Int)=dep
  ·have hk4:l.length<=4:=by
    by_cases h0:k=0
    ·have:=hlk2 h0;have:=hdep.out.2 (by omega);omega
    ·exact hlk3 h0
   omega
  ·have:=ho1.out h;omega
 rw[hl4] at hLk;clear hP hl4 hpl hj hjp q hL ho1 hdep hlk1 hlk2 hlk3;refine Qa 8 (h:=?_);have hT:(l'.map rPtr).take l'.length=l'.map rPtr:=A9 (by simp);rw[hT]
 refine Qs (fun m st=> ∃(i:Nat) (wi:Pl.Sto) (next st2:List Pl.Ptr),i<=l'.length/4/\m=l'.length/4 -i/\Aq (Q2 wk l' (k+1:Nat) was i=(wi,next,st2,true))/\Aq (wi.W (N+4*k+i)/\wi.gone=w.gone/\ ∀p∈next,Pl.ptrOk p=true)/\next.length=i/\st2.length<=i/\
  st=⟨145,[(18,.d (dI i)),(15,.d (dI ((k+1:Nat):Int))),(11,.d (dI dep)),(4,.ptr 5 0 0),(5,.d (.pd [dI t.root.pat,dI t.root.birth,dI t.root.size,dI t.root.sum,dI t.root.level,dI t.depth,dI t.many])),(8,.ptr 6 0 0),(9,.ptr 7 0 0),(3,.d (dI many)),(12,.d (tPtrs old)),(13,.d (tPtrs l')),(14,.osl 9 (stays++st2).length 0 (stays++st2).length),(16,.d (tPtrs was)),(17,.osl 10 next.length 0 next.length),(1000000,.gh (gS g w) gvs)],
   hS g wi++[.row 0 (rowS g wi),.row 0 zSt,.row 0 zTr,.arr (gl'+1) 5 31 [],.arr (stays++st2).length 5 31 ((stays++st2).map rPtr),.arr next.length 5 31 (next.map rPtr)]⟩) [18,15,11,4,5,8,9,3,12,13,14,16,17,1000000] 11 (l'.length/4)
  ⟨0,wk,[],[],by omega,rfl,Pm.hid rfl,Pm.hid ⟨hWk,hgk,by simp⟩,rfl,by simp,by simp[keepE,go_sem]⟩ (round:=?_)
 rintro m st ⟨i,wi,next,st2,hi,rfl,hFi,hGi,hnl,hs2,rfl⟩;simp only[hS,AK,AD]
 repeat refine kG ?_
 cases q3:decide (((i:Int)*4)<(l'.length:Int))
 ·have hic:i=l'.length/4:=by simp at q3;omega
  rw[<-hic,hFi.out] at hLk;obtain⟨g1,g2,g3⟩:=hGi.out;have g4:=g1.le (M:=N+4*(k+1)) (by omega);have hnl4:next.length<=4:=by omega
  clear hFi hGi hF hT hwl ho2 ho3 hlow
  repeat' first|refine kS ?_|refine qD (Qd4 rfl rfl (by omega)) ?_|refine qS (Qd4 rfl rfl (by omega)) ?_|refine kU ?_|refine kV ?_ ?_<;>intro q|fail
  all_goals first|exact absurd (‹decide ((i:Int)*4<(l'.length:Int))=true›.symm.trans q3) (by decide)|refine Qeu (dep -(k+1)) [15,11,4,5,8,9,3,12,13,14,1000000] [0,1,2,3,4,5,6,7,10,9] (by omega) ⟨k+1,next.length,wi,next,stays++st2,hk1,rfl,hLk,Pm.hid ⟨g4,g2,g3,fun h=>by omega,fun _=>hnl4⟩,by omega,by simp;omega,rfl⟩
 have hic:i<l'.length/4:=by simp at q3;omega
 obtain⟨g1,g2,g3⟩:=hGi.out;obtain⟨x,hx⟩: ∃x,was[i]? =some x:=⟨_,AE (by omega)⟩;have hxo:Pl.ptrOk x=true:=ho3.out x (AO hx);have hr:=Qu (f:=rPtr) hx;have hxd:was.getD i Pl.hole=x:=by rw[A2,hx];rfl
 have hch:((l'.map rPtr).take (((i:Int)+1)*4).toNat).drop ((i:Int)*4).toNat=((l'.take (4*(i+1))).drop (4*i)).map rPtr:=by
  have h1:(((i:Int)+1)*4).toNat=4*(i+1):=by omega
  have h2:((i:Int)*4).toNat=4*i:=by omega
  rw[h1,h2,List.map_drop,Au]
 have hcl:((l'.take (4*(i+1))).drop (4*i)).length=4:=by rw[List.length_drop,AU];omega
 have hy:=Qst g1 (l:=(l'.take (4*(i+1))).drop (4*i)) (level:=((k+1:Nat):Int)) hxo
 have hstep:Aq (Q2 wk l' (k+1:Nat) was (i+1)=if(Qan wi ((l'.take (4*(i+1))).drop (4*i)) (k+1:Nat) x).2.2 then((Qan wi ((l'.take (4*(i+1))).drop (4*i)) (k+1:Nat) x).1,next++[(Qan wi ((l'.take (4*(i+1))).drop (4*i)) (k+1:Nat) x).2.1],st2++(if(Qan wi ((l'.take (4*(i+1))).drop (4*i)) (k+1:Nat) x).2.1=x then [x] else []),true) else(wi,next,st2,false)):=Pm.hid (by
  simp only[Q2,hFi.out,hxd,if_true])
 have cF:=(eFan g wi (N+4*k+i) (by omega) g1 ((l'.take (4*(i+1))).drop (4*i)) hcl ((k+1:Nat):Int) x hxo).arg (l:=[oS g wi,.d (tPtrs ((l'.take (4*(i+1))).drop (4*i))),.d (dI ((k+1:Nat):Int)),.d (dPtr x)]);have hyf:=Qqa (w:=wi) (l:=(l'.take (4*(i+1))).drop (4*i)) (level:=((k+1:Nat):Int)) (old:=x);generalize (l'.take (4*(i+1))).drop (4*i)=ch at*;generalize Qan wi ch ((k+1:Nat):Int) x=y at*;obtain⟨w2,p2,ok2⟩:=y;simp only at hy hstep cF hyf;obtain⟨y1,y2,y3⟩:=hy;have z3:w2.gone.length=wi.gone.length:=by rw[y3]
 have hno: ∀p∈next++[p2],Pl.ptrOk p=true:=fun p hp=>by
  rcases A8.1 hp with hp|hp
  ·exact g3 p hp
  ·rw[AQ.1 hp];exact y2
 cases ok2
 ·obtain rfl:w2=wi:=hyf rfl
  have hs2:Q2 wk l' (k+1:Nat) was (l'.length/4)=(w2,next,st2,false):=by
   have h1:=hstep.out;simp only[A5,if_false] at h1;have h2:=QhR (show(Q2 wk l' (k+1:Nat) was (i+1)).2.2.2=false by rw[h1]) (l'.length/4 -(i+1));rw[Ab (by omega:i+1<=l'.length/4),h1] at h2;exact h2
  have hs3:Qv w t l0 dep dep=(w2,next,stays++st2,false):=by
   have h1:=hLk.out;rw[hs2] at h1;have h2:=Qjg (show(Qv w t l0 dep (k+1)).2.2.2=false by rw[h1]) (dep -(k+1));rw[Ab hk1,h1] at h2;exact h2
  have hres:Aq (res=(w2,⟨Pl.hole,0,0⟩,false)):=Pm.hid (by rw[hd.out,hs3];simp);have z4:w2.gone.length=w.gone.length:=by rw[g2]
  have v0:w2.rows.length=w.rows.length:=by rw[g1.rows,hw.rows]
  have v1:w2.refs.length=w.refs.length:=by rw[g1.refs,hw.refs]
  have v2:w2.last.length=w.last.length:=by rw[g1.last,hw.last]
  clear hs2 hs3 hd hLk hstep hFi hGi hF hno hT hlow ho3 hyf y3 z3
  repeat' first|refine kS ?_|refine qD (Qd4 rfl rfl (by omega)) ?_|refine qS (Qd4 rfl rfl (by omega)) ?_|refine qD (Qkb rfl rfl rfl rfl (by omega) (by omega) (by simp;omega) hch) ?_|refine qD (iy hr) ?_|(show AWP _ (.region 15 _ _) _ _;refine(Fk.awp_drawG (id:=15) [14,16,17,18,19] [13,20,21] [(18,.row 0 zSt),(19,.row 0 zPt)] [] 13 77 (.tup [oS g w2,.d (dPtr p2),.d (dB false)]) ?_))|refine(Fk.aw_fltA 11 ?_)|refine(Fk.aw_fltA 12 ?_)|refine(Fk.aw_planC0 (by rfl) (by kernel_rfl) rfl ?_)|refine Fk.aw_callM [0,1,2,3,4] cF cK (k:=kY ?_)|refine kU ?_|refine kV ?_ ?_<;>intro q|fail
  all_goals first|exact absurd (‹decide ((i:Int)*4<(l'.length:Int))=false›.symm.trans q3) (by decide)|refine QN 5 (hx:=?_);rw[hres.out];exact⟨g,fun _=>rfl,rfl,rfl⟩
 simp only[if_true] at hstep
 repeat' first|refine kS ?_|refine qD (Qd4 rfl rfl (by omega)) ?_|refine qS (Qd4 rfl rfl (by omega)) ?_|refine qD (Qkb rfl rfl rfl rfl (by omega) (by omega) (by simp;omega) hch) ?_|refine qD (iy hr) ?_|(show AWP _ (.region 15 _ _) _ _;refine(Fk.awp_drawG (id:=15) [14,16,17,18,19] [13,20,21] [(18,.row 0 zSt),(19,.row 0 zPt)] [] 13 77 (.tup [oS g w2,.d (dPtr p2),.d (dB true)]) ?_))|refine(Fk.aw_fltA 11 ?_)|refine(Fk.aw_fltA 12 ?_)|refine(Fk.aw_planC0 (by rfl) (by kernel_rfl) rfl ?_)|refine Fk.aw_callM [0,1,2,3,4] cF cK (k:=kY ?_)|refine qD (Qmf rfl rfl) ?_|refine QU Ty.h rfl Ty.h (hb:=?_) (kk:=?_)|refine kU ?_|refine kV ?_ ?_<;>intro q|fail
 all_goals first
  |(simp;omega)
  |exact absurd (‹decide ((i:Int)*4<(l'.length:Int))=false›.symm.trans q3) (by decide)
  |(have hpx:p2=x:=of_decide_eq_true ‹decide (p2=x)=true›
    refine Qn (l'.length/4 -(i+1)) (by omega) ⟨i+1,w2,next++[p2],st2++[x],by omega,rfl,Pm.hid (by rw[hstep.out,if_pos hpx]),Pm.hid ⟨y1,y3.trans g2,hno⟩,by simp;omega,by simp;omega,?_⟩
    subst hpx;simp[keepE,go_sem,Av];done)
  |(have hpx: ¬p2=x:=of_decide_eq_false ‹decide (p2=x)=false›
    refine Qn (l'.length/4 -(i+1)) (by omega) ⟨i+1,w2,next++[p2],st2,by omega,rfl,Pm.hid (by rw[hstep.out,if_neg hpx,AB]),Pm.hid ⟨y1,y3.trans g2,hno⟩,by simp;omega,by omega,?_⟩
    simp[keepE,go_sem,Av];done)
end Aw
end
section
open Go.RowKit
namespace Aw
variable{w w':Pl.Sto}{t:Pl.Tree}{N j k:Nat}{α:Type}{L M X:List Pl.Ptr}{p:Pl.Ptr}{b:Bool}{m:List UInt8}{x y:Operand}{T T' t1 t2:Aj}{i:Int}{κ κ':IntKind}
theorem pinS{f:FuncId}{args:List AV}{X:Nat->AV}{C:Nat->Prop}{g:Nat}(h:DoesE AJ f args (hS g w) (gS g w) (fun x H=> ∃g',C g'/\x=X g'/\H=hS g' w')):
 DoesE AJ f args (hS g w) (gS g w) (fun x H=> ∃g',(g<g'∨g'=g/\w'.gone.length=w.gone.length)/\C g'/\x=X g'/\H=hS g' w'):=by
 intro B σ S w0 cargs gvs h1 h2 h3 h4 h5 h6;refine(h.pins B σ S w0 cargs gvs h1 h2 h3 h4 h5 h6).mono ?_;rintro _ _ ⟨x,H1,⟨⟨g',h0,rfl,rfl⟩,h7⟩,h8,h9⟩;refine⟨_,_,⟨g',?_,h0,rfl,rfl⟩,h8,h9⟩;obtain⟨C',e1,e2⟩:=h7 3 _ rfl;obtain rfl:=Ap e1;obtain⟨_,_,e3|⟨e3,e4,_⟩⟩:=e2
 ·omega
 grind
def QcL(a b:Pl.Sto):Prop:=b.gone=a.gone/\b.txg=a.txg/\b.same=a.same
def QoF(w:Pl.Sto)(l:List Pl.Ptr)(level:Int)(old:Pl.Ptr):QcL w (Qan w l level old).1:=by
 unfold Qan;split
 ·exact⟨rfl,rfl,rfl⟩
 ·split
  ·exact⟨rfl,rfl,rfl⟩
  ·have:=Pl.Qhc w (QZ l).1 level
   exact⟨Pl.Qfm _ _ _,this.1,this.2⟩
def Qhx(w:Pl.Sto)(l:List Pl.Ptr)(level:Int)(was:List Pl.Ptr): ∀i,QcL w (Q2 w l level was i).1
 |0=>⟨rfl,rfl,rfl⟩
 |i+1=>by
  have h:=Qhx w l level was i;have h2:=QoF (Q2 w l level was i).1 ((l.take (4*(i+1))).drop (4*i)) level (was.getD i Pl.hole);simp only[Q2];split
  ·split
   ·exact⟨h2.1.trans h.1,h2.2.1.trans h.2.1,h2.2.2.trans h.2.2⟩
   ·exact h
  ·exact h
def Qnw(w:Pl.Sto)(t:Pl.Tree)(l:List Pl.Ptr)(depth:Int): ∀k,QcL w (Qv w t l depth k).1
 |0=>⟨rfl,rfl,rfl⟩
 |k+1=>by
  have h:=Qnw w t l depth k;simp only[Qv];split
  ·have h2:=Qhx (Qv w t l depth k).1 (Q6 (Qv w t l depth k).2.1) (k+1:Nat) (QK (Qv w t l depth k).1.st t depth (k+1:Nat)) ((Q6 (Qv w t l depth k).2.1).length/4)
   exact⟨h2.1.trans h.1,h2.2.1.trans h.2.1,h2.2.2.trans h.2.2⟩
  ·exact h
def Qjh{leaves:List Pl.Ptr}{many:Nat}(h:(Qw w t leaves many).2.2=false):QcL w (Qw w t leaves many).1:=by
 unfold Qw at h⊢;split at h
 ·cases h
 ·rename_i h1
  rw[if_neg h1];exact Qnw _ _ _ _ _
theorem lev_W{w:Pl.Sto}{N:Nat}(h:w.W N)(t:Pl.Tree)(ht:Pl.ptrOk t.root=true){l:List Pl.Ptr}(hl: ∀p∈l,Pl.ptrOk p=true)(hll:l.length<=16)(depth:Int): ∀k,(Qv w t l depth k).1.W (N+4*k)/\(∀p∈(Qv w t l depth k).2.1,Pl.ptrOk p=true)/\(Qv w t l depth k).2.1.length<=16
 |0=>⟨h,hl,hll⟩
 |k+1=>by
  obtain⟨h1,h2,h3⟩:=lev_W h t ht hl hll depth k;have hp:(Q6 (Qv w t l depth k).2.1).length<=16:=by unfold Q6;grind
  obtain⟨f1,_,f3,f4,_⟩:=Qss h1 (l:=Q6 (Qv w t l depth k).2.1) (level:=((k+1:Nat):Int)) (Qr4 (Qv w t l depth k).1.st t depth (k+1:Nat) ht) ((Q6 (Qv w t l depth k).2.1).length/4);simp only[Qv];split
  ·exact⟨f1.le (by omega),f3,Ay f4 (by omega)⟩
  ·exact⟨h1.le (by omega),h2,h3⟩
def Qn5{l:List Pl.Ptr}: ∀{w:Pl.Sto} {N:Nat},w.W N->(∀p∈l,Pl.ptrOk p=true)->(w.freeL l).W (N+l.length):=by
 induction l with
 |nil=>exact fun h _=>h
 |cons p l ih=>
  intro w N h hl;have:=ih (h.free (hl p A6)) fun q hq=>hl q (AC _ hq)
  exact this.le (by simp;omega)
theorem Qvi(many:Nat):Q5 many<=2:=by unfold Q5;grind
theorem lay_W(h:w.W N)(ht:Pl.ptrOk t.root=true){leaves:List Pl.Ptr}(hl: ∀p∈leaves,Pl.ptrOk p=true){many:Nat}(hm:many<=16):(Qw w t leaves many).1.W (N+13)/\((Qw w t leaves many).2.2=true->Qx (Qw w t leaves many).2.1):=by
 have h0: ∀p∈leaves.take many,Pl.ptrOk p=true:=fun p hp=>hl p (AI hp)
 obtain⟨h1,h2,_⟩:=lev_W h t ht h0 (by grind) (Q5 many) (Q5 many);have hd:=Qvi many;have hi:=QkT w.st t ht
 have hun: ∀st,(∀p∈QaZ (QC w.st t) st,Pl.ptrOk p=true)/\(QaZ (QC w.st t) st).length<=5:=fun st=>
  ⟨fun p hp=>hi.1 p (Ao.1 hp).1,Ay (AZ _ _) hi.2⟩
 unfold Qw;split
 ·obtain⟨u1,u2⟩:=hun (Qv w t (leaves.take many) (Q5 many) (Q5 many)).2.2.1
  refine⟨(Qn5 h1 u1).le (by omega),fun _=>⟨by grind,by grind,QgU h2 0,by grind,by grind⟩⟩
 ·exact⟨h1.le (by omega),fun h=>by cases h⟩
def QJ(w:Pl.Sto)(t:Pl.Tree)(many:Nat):Pl.Sto×Pl.Tree×Bool:=
 if(many:Int)=t.many then(w,t,true) else
 if(Qw w t (Qg w.st t) many).2.2 then((Qw w t (Qg w.st t) many).1.freeL ((Qg w.st t).drop many),(Qw w t (Qg w.st t) many).2.1,true) else((Qw w t (Qg w.st t) many).1,t,false)
theorem cut_W(h:w.W N)(ht:Qx t){many:Nat}(hm:many<=16):(QJ w t many).1.W (N+29)/\Qx (QJ w t many).2.1:=by
 have h1:=lay_W h ht.root (QfD w.st ht.root) hm;unfold QJ;split
 ·exact⟨h.le (by omega),ht⟩
 ·split
  ·refine⟨(Qn5 h1.1 fun p hp=>QfD w.st ht.root p (Aa hp)).le ?_,h1.2 (by assumption)⟩
   have:=QdG w.st ht.hi
   grind
  ·exact⟨h1.1.le (by omega),ht⟩
def Qkr(b:UInt8): ∀l:List (List UInt8),l≠[]->(∀x∈l,b∉x)->Pl.cutB b (QW b l)=l
 |[],h,_=>absurd rfl h
 |[x],_,h=>by simp only[QW,List.intersperse,List.flatten_cons,List.flatten_nil,AB];exact Pl.QeL b x (h x A6)
 |x::y::l,_,h=>by
  have ih:=Qkr b (y::l) (by simp) fun z hz=>h z (AC _ hz)
  have e:QW b (x::y::l)=x++b::QW b (y::l):=by simp[QW]
  rw[e,Pl.Qes b x _ (h x A6),ih]
def QsJ(p:Pl.Ptr):(44:UInt8)∉Pl.ptrPut p:=by
 have hd: ∀n,(44:UInt8)∉Pl.dec n:=fun n hm=>absurd (AG.1 (Pl.QgX n) _ hm) (by decide)
 unfold Pl.ptrPut;split
 ·split
  ·decide
  ·simp[Pl.ptrText,Pl.dots,hd]
 ·simp
theorem Qko{l:List Pl.Ptr}(h:(QZ l).2=true):QaH (QZ l).1=(l,true):=by
 unfold QZ at h⊢;split at h
 ·rename_i hc
  obtain⟨h1,h2,h3⟩:=hc;rw[if_pos ⟨h1,h2,h3⟩];have hne:l.map Pl.ptrPut≠[]:=by cases l<;>grind
  have hc2:Pl.cutB 44 (QW 44 (l.map Pl.ptrPut))=l.map Pl.ptrPut:=Qkr 44 _ hne fun x hx=>by
   obtain⟨p,_,rfl⟩:=List.mem_map.1 hx;exact QsJ p
  have hpg:(l.map Pl.ptrPut).map QE=l.map fun p=>(p,true):=by
   rw[List.map_map];exact AP fun p hp=>pg_is ⟨AG.1 h3 p hp,rfl⟩
  unfold QaH;dsimp only;rw[hc2,hpg];have e1:(l.map fun p=>(p,true)).all (·.2)=true:=by simp
  have e2:((l.map fun p=>(p,true)).length==4)=true:=by simp[h1]
  have e3:(l.map fun p=>(p,true)).any (fun q=> !Pl.ptrHole q.1)=true:=by simp_all
  rw[e1,e2,e3];simp[Function.comp_def]
 ·cases h
theorem Qjs{l:List Pl.Ptr}(h:1<=(QZ l).1.length):(QZ l).2=true:=by
 unfold QZ at h⊢
 grind
theorem Qof{K L:List α}(h:K.Sublist L): ∃R,L.Perm (K++R):=by
 induction h with
 |slnil=>simp
 |cons a _ ih=>obtain⟨R,hR⟩:=ih;exact⟨a::R,(As a hR).trans AW.symm⟩
 |cons_cons a _ ih=>simp_all
def QaR(L:List Pl.Ptr)(i:Nat):Nat:=L.countP fun p=>p.pat.toNat==i
def Qo8(L M:List Pl.Ptr)(i:Nat):QaR (L++M) i=QaR L i+QaR M i:=List.countP_append ..
theorem Qf0(p:Pl.Ptr)(L:List Pl.Ptr)(i:Nat):QaR (p::L) i=QaR L i+if p.pat.toNat=i then 1 else 0:=by
 unfold QaR;grind
def Qsa(h:L.Perm M)(i:Nat):QaR L i=QaR M i:=h.countP_eq _
def Qo7(h:p∈L):1<=QaR L p.pat.toNat:=List.countP_pos_iff.2 ⟨p,h,by simp⟩
structure QT(w:Pl.Sto)(L:List Pl.Ptr):Prop where
 rows:w.rows.length=64
 refs:w.refs.length=64
 fit: ∀p∈L,QaX p (w.rows.getD p.pat.toNat [])=true
 bir: ∀p∈L,p.birth<=w.txg
 cnt: ∀i,((QaR L i+QaR w.gone i:Nat):Int)<=w.refs.getD i 0
theorem Qgm{s:List UInt8}(h:QaX p s=true):Pl.ptrOk p=true/\Pl.ptrHole p=false/\p.pat.toNat<64/\1<=s.length:=by
 unfold QaX at h;simp only[AX,Ai,beq_iff_eq] at h;obtain⟨⟨⟨h1,h2⟩,h3⟩,_⟩:=h;have h4:=QdP h1 h2;refine⟨h1,h2,by omega,?_⟩
 have:1<=p.size:=by
  have h5:=h1;unfold Pl.ptrOk at h5
  grind
 omega
def QT.perm(h:QT w L)(hp:L.Perm M):QT w M:=
 ⟨h.rows,h.refs,fun p hm=>h.fit p (hp.mem_iff.2 hm),fun p hm=>h.bir p (hp.mem_iff.2 hm),fun i=>by rw[<-Qsa hp];exact h.cnt i⟩
def QT.left(h:QT w (L++M)):QT w L:=
 ⟨h.rows,h.refs,fun p hm=>h.fit p (A0 _ hm),fun p hm=>h.bir p (A0 _ hm),fun i=>by have:=h.cnt i;rw[Qo8] at this;omega⟩
def QT.sub{R:List Pl.Ptr}(h:QT w L)(hp:L.Perm (M++R)):QT w M:=(h.perm hp).left
def QaG(w w':Pl.Sto)(L:List Pl.Ptr):Prop:= ∀p∈L,w'.rows.getD p.pat.toNat []=w.rows.getD p.pat.toNat []
def QaG.trans{w1 w2:Pl.Sto}(h:QaG w w1 L)(h2:QaG w1 w2 M)(hs: ∀p∈L,p∈M):QaG w w2 L:=fun p hp=>(h2 p (hs p hp)).trans (h p hp)
theorem Qpo(h:QT w L){text:List UInt8}{level:Int}(hok:(w.write text level).2.2=true):
 QT (w.write text level).1 ((w.write text level).2.1::L)/\QaG w (w.write text level).1 L/\(w.write text level).2.1.birth=w.txg/\(w.write text level).2.1.level=level/\
 (w.write text level).1.rows.getD (w.write text level).2.1.pat.toNat []=text/\1<=text.length:=by
 unfold Pl.Sto.write at hok⊢;cases hs:w.seek text level with
 |none=>rw[hs] at hok;cases hok
 |some a=>
  rw[hs] at hok;dsimp only[Pl.Sto.put] at hok⊢;cases hp:(Pl.ptrOf a w.txg level text).2
  ·grind
  obtain⟨e,l1,l2,o1,o2⟩:=Pl.Qoq hp;obtain⟨g1,g2,g3⟩:=Pl.QlI hs;rw[if_pos rfl];dsimp only
  have hk:QaG w (w.lay1 a text) L:=fun p hm=>by
   unfold Pl.Sto.lay1;dsimp only;rw[Pl.getD_set];split
   ·rename_i hc
    rcases g3 with g3|⟨_,g3,_⟩
    ·have h1:=Qo7 hm
     have h2:=h.cnt p.pat.toNat
     grind
    grind
   ·rfl
  have hrow:(w.lay1 a text).rows.getD a []=text:=by
   unfold Pl.Sto.lay1;dsimp only;rw[Pl.getD_set,if_pos ⟨rfl,by rw[h.rows];exact g2⟩]
  have ea:(Pl.ptrOf a w.txg level text).1.pat.toNat=a:=by grind
  refine⟨⟨?_,?_,?_,?_,?_⟩,hk,by rw[e],by rw[e],by grind,l1⟩
  ·simp[Pl.Sto.lay1,h.rows]
  ·simp[Pl.Sto.lay1,h.refs]
  ·intro p hm
   rcases Ae.1 hm with rfl|hm
   ·rw[ea,hrow]
    unfold QaX
    grind
   ·rw[hk p hm];exact h.fit p hm
  ·intro p hm
   rcases Ae.1 hm with rfl|hm
   ·rw[e];exact An _
   ·exact h.bir p hm
  ·intro i
   have h1:=h.cnt i;unfold Pl.Sto.lay1;dsimp only;rw[Qf0,ea,Pl.getD_set]
   by_cases hi:a=i
   ·rw[if_pos hi,if_pos ⟨hi,by rw[h.refs];omega⟩]
    grind
   grind
theorem Qtn(hr:w.rows.length=64)(hf:w.refs.length=64)(hp:p.pat.toNat<64)(hfit: ∀q∈L,QaX q (w.rows.getD q.pat.toNat [])=true)(hb: ∀q∈L,q.birth<=w.txg)
 {G:List Pl.Ptr} (hc: ∀i,((QaR (p::L) i+QaR G i:Nat):Int)<=w.refs.getD i 0):
 QaG w (w.drop p.pat.toNat) L/\(w.drop p.pat.toNat).rows.length=64/\(w.drop p.pat.toNat).refs.length=64/\(∀q∈L,QaX q ((w.drop p.pat.toNat).rows.getD q.pat.toNat [])=true)/\(∀q∈L,q.birth<=(w.drop p.pat.toNat).txg)/\
 (∀i,((QaR L i+QaR G i:Nat):Int)<=(w.drop p.pat.toNat).refs.getD i 0):=by
 have hk:QaG w (w.drop p.pat.toNat) L:=fun q hq=>by
  unfold Pl.Sto.drop;dsimp only;split
  ·rename_i h0
   rw[Pl.getD_set,if_neg];rintro⟨e,_⟩;have h1:=Qo7 hq;have h2:=hc p.pat.toNat;rw[Qf0,if_pos rfl] at h2
   grind
  ·rfl
 refine⟨hk,?_,?_,fun q hq=>by rw[hk q hq];grind,hb,fun i=>?_⟩
 ·unfold Pl.Sto.drop;grind
 ·simp[Pl.Sto.drop,hf]
 ·have h1:=hc i
  rw[Qf0] at h1;unfold Pl.Sto.drop;dsimp only;rw[Pl.getD_set]
  grind
def Qo9(w:Pl.Sto)(p:Pl.Ptr):(w.free p).txg=w.txg/\(w.free p).same=w.same:=by
 unfold Pl.Sto.free;split
 ·exact⟨rfl,rfl⟩
 ·split<;>exact⟨rfl,rfl⟩
def Qht: ∀(F:List Pl.Ptr) (w:Pl.Sto),(w.freeL F).txg=w.txg
 |[],w=>rfl
 |p::F,w=>(Qht F (w.free p)).trans (Qo9 w p).1
def Qtm(h:QT w (p::L)):QT (w.free p) L/\QaG w (w.free p) L:=by
 obtain⟨_,o2,o3,_⟩:=Qgm (h.fit p A6);unfold Pl.Sto.free;rw[o2];simp only[A5,if_false];split
 ·refine⟨⟨h.rows,h.refs,fun q hq=>h.fit q (AC _ hq),fun q hq=>h.bir q (AC _ hq),fun i=>?_⟩,fun q hq=>rfl⟩
  have:=h.cnt i;dsimp only;rw[Qf0] at this;rw[Qo8,Qf0];show((QaR L i+(QaR w.gone i+((QaR [] i)+if p.pat.toNat=i then 1 else 0)):Nat):Int)<=_;have e:QaR [] i=0:=rfl;omega
 ·obtain⟨k1,k2,k3,k4,k5,k6⟩:=Qtn h.rows h.refs o3 (L:=L) (fun q hq=>h.fit q (AC _ hq)) (fun q hq=>h.bir q (AC _ hq)) h.cnt
  exact⟨⟨k2,k3,k4,k5,k6⟩,k1⟩
def QiD: ∀(F:List Pl.Ptr) {w:Pl.Sto} {L:List Pl.Ptr},QT w (F++L)->QT (w.freeL F) L/\QaG w (w.freeL F) L
 |[],w,L,h=>⟨h,fun _ _=>rfl⟩
 |p::F,w,L,h=>by
  obtain⟨h1,h2⟩:=Qtm (L:=F++L) h;obtain⟨h3,h4⟩:=QiD F h1;exact⟨h3,fun q hq=>(h4 q hq).trans (h2 q (A1 _ hq))⟩
def Lv_next(h:QT w L)(hg: ∀p∈w.gone,Pl.ptrOk p=true/\Pl.ptrHole p=false):QT w.next L/\QaG w w.next L:=by
 have key: ∀(G:List Pl.Ptr) (u:Pl.Sto),(∀p∈G,p.pat.toNat<64)->u.rows.length=64->u.refs.length=64->(∀q∈L,QaX q (u.rows.getD q.pat.toNat [])=true)->(∀q∈L,q.birth<=u.txg)->(∀i,((QaR L i+QaR G i:Nat):Int)<=u.refs.getD i 0)->
  QaG u (u.dropL G) L/\(u.dropL G).rows.length=64/\(u.dropL G).refs.length=64/\(∀q∈L,QaX q ((u.dropL G).rows.getD q.pat.toNat [])=true)/\(∀q∈L,q.birth<=(u.dropL G).txg)/\(∀i,((QaR L i:Nat):Int)<=(u.dropL G).refs.getD i 0):=by
  intro G;induction G with
  |nil=>intro u _ h1 h2 h3 h4 h5;exact⟨fun _ _=>rfl,h1,h2,h3,h4,fun i=>by have:=h5 i;show _<=u.refs.getD i 0;omega⟩
  |cons p G ih=>
   intro u h0 h1 h2 h3 h4 h5;obtain⟨k1,k2,k3,k4,k5,k6⟩:=Qtn h1 h2 (h0 p A6) h3 h4 (G:=G) (fun i=>by have:=h5 i;rw[Qf0] at this⊢;omega);obtain⟨j1,j2⟩:=ih (u.drop p.pat.toNat) (fun q hq=>h0 q (AC _ hq)) k2 k3 k4 k5 k6;exact⟨fun q hq=>(j1 q hq).trans (k1 q hq),j2⟩
 obtain⟨k1,k2,k3,k4,k5,k6⟩:=key w.gone w (fun p hp=>by have:=QdP (hg p hp).1 (hg p hp).2;omega) h.rows h.refs h.fit h.bir h.cnt;have ht:=(Pl.Qf5 w.gone w).2.1;refine⟨⟨k2,k3,k4,fun q hq=>?_,fun i=>?_⟩,k1⟩
 ·have:=h.bir q hq
  show q.birth<=w.txg+1;omega
 ·have:=k6 i
  show((QaR L i+0:Nat):Int)<=(w.dropL w.gone).refs.getD i 0;exact this
def Qt(l:List Pl.Ptr):List Pl.Ptr:=l.filter fun p=> !Pl.ptrHole p
def Qew(l m:List Pl.Ptr):Qt (l++m)=Qt l++Qt m:=Af ..
def Qe6(n:Nat):Qt (A4 n Pl.hole)=[]:=by
 unfold Qt;rw[List.filter_eq_nil_iff];intro p hp;rw[(A3.1 hp).2];decide
theorem QeI{l:List Pl.Ptr}:p∈Qt l↔p∈l/\Pl.ptrHole p=false:=by
 unfold Qt;grind
def Qdr:Pl.ptrHole Pl.hole=true:=by decide
def Qgk(h:Pl.ptrHole p=true):p=Pl.hole:=of_decide_eq_true h
def Qe2{n:Int}(hr:Pl.ptrHole p=false->w'.rows.getD p.pat.toNat []=w.rows.getD p.pat.toNat [])(ht:w.txg<=w'.txg)(h:(Qh w.st p n).2=true):Qh w'.st p n=Qh w.st p n:=by
 unfold Qh at h⊢;cases hh:Pl.ptrHole p;rotate_left
 ·simp
 have hrd:Qj w'.st.1 p=Qj w.st.1 p:=by
  unfold Qj;show(if Pl.ptrHole p=true then _ else if QaX p (w'.rows.getD p.pat.toNat [])=true then(w'.rows.getD p.pat.toNat [],true) else _)=_;rw[hr hh];rfl
 rw[hh] at h;simp only[A5,if_false] at h⊢;rw[hrd];split at h
 ·rename_i hc
  rw[if_pos hc,if_pos];simp only[AX,beq_iff_eq,decide_eq_true_eq] at hc⊢;refine⟨⟨hc.1.1,?_⟩,hc.2⟩;have h1:=hc.1.2;show p.birth<=w'.txg;have h2:p.birth<=w.txg:=h1;omega
 ·cases h
def leaves0(s:Pm.Store)(h:t.depth=0):QG s t=([t.root],true):=by unfold QG;rw[h];rfl
def leaves1(s:Pm.Store)(h:t.depth=1):QG s t=if(Qh s t.root 1).2=true then((Qh s t.root 1).1,true) else([],false):=by
 unfold QG;rw[h];show QaP s 1 [t.root]=_;unfold QaP;simp[QaP]
theorem leaves2(s:Pm.Store)(h:t.depth=2):QG s t=if(Qh s t.root 2).2=true then(if(Qh s t.root 2).1.all (fun p=>(Qh s p 1).2)=true then((Qh s t.root 2).1.flatMap fun p=>(Qh s p 1).1,true) else([],false)) else([],false):=by
 unfold QG;rw[h];show QaP s 2 [t.root]=_;unfold QaP;simp only[List.all_cons,List.all_nil,Ax,AH,Al,AB];split
 ·rename_i h1
  rw[if_pos (show(Qh s t.root 2).2=true from h1)];unfold QaP;rfl
 grind
structure Qbu(w:Pl.Sto)(t:Pl.Tree):Prop where
 good:Qx t
 dep:t.depth=(Q5 t.many.toNat:Nat)
 lv:(QG w.st t).2=true
 zero: ∀p∈(QG w.st t).1,Pl.ptrHole p=true∨p.level=0
 top: ∀i,t.many.toNat<=i->(Qg w.st t).getD i Pl.hole=Pl.hole
def QA(s:Pm.Store)(t:Pl.Tree):List Pl.Ptr:=QC s t++Qt (QG s t).1
theorem Qgo(m:Nat):Q5 m=0∨Q5 m=1∨Q5 m=2:=by unfold Q5;grind
theorem Qfz{s:Pm.Store}(h:t.depth=0):QC s t=[]:=by unfold QC;grind
theorem QeY{s:Pm.Store}(h:t.depth=1):QC s t=Qt [t.root]:=by
 unfold QC Qt
 grind
theorem QeC{s:Pm.Store}(h:t.depth=2):QC s t=Qt [t.root]++Qt (Qh s t.root 2).1:=by
 unfold QC Qt;cases hh:Pl.ptrHole t.root
 ·grind
 ·simp only[hh,or_true,if_true]
  have:Qh s t.root 2=(A4 4 Pl.hole,true):=by unfold Qh;grind
  rw[this];simp[hh,Qdr]
theorem Qfl(h:Qbu w t)(hk:QaG w w' (QC w.st t))(ht:w.txg<=w'.txg):Qbu w' t/\QG w'.st t=QG w.st t/\QC w'.st t=QC w.st t/\QA w'.st t=QA w.st t/\Qg w'.st t=Qg w.st t:=by
 have key:QG w'.st t=QG w.st t/\QC w'.st t=QC w.st t:=by
  have hl:=h.lv;have hd:t.depth=0∨t.depth=1∨t.depth=2:=by rw[h.dep];rcases Qgo t.many.toNat with e|e|e<;>rw[e]<;>simp
  rcases hd with hd|hd|hd
  ·rw[leaves0 _ hd,leaves0 _ hd,Qfz hd,Qfz hd];grind
  ·rw[leaves1 _ hd] at hl
   rw[QeY hd] at hk
   have hb:(Qh w.st t.root 1).2=true:=by
    grind
   rw[leaves1 _ hd,leaves1 _ hd,QeY hd,QeY hd,Qe2 (fun hh=>hk _ (QeI.2 ⟨A6,hh⟩)) ht hb]
   grind
  ·rw[leaves2 _ hd] at hl
   rw[QeC hd] at hk
   have hb:(Qh w.st t.root 2).2=true:=by
    grind
   rw[if_pos hb] at hl
   have hb2:(Qh w.st t.root 2).1.all (fun p=>(Qh w.st p 1).2)=true:=by
    grind
   have e1:=Qe2 (w':=w') (fun hh=>hk _ (A0 _ (QeI.2 ⟨A6,hh⟩))) ht hb
   have e2: ∀p∈(Qh w.st t.root 2).1,Qh w'.st p 1=Qh w.st p 1:=fun p hp=>
    Qe2 (fun hh=>hk _ (A1 _ (QeI.2 ⟨hp,hh⟩))) ht (AG.1 hb2 p hp)
   rw[leaves2 _ hd,leaves2 _ hd,QeC hd,QeC hd,e1,if_pos hb,if_pos hb,if_pos hb2,if_pos]
   ·refine⟨?_,rfl⟩
    congr 1
    rw[AN,AN,AP fun p hp=>by rw[e2 p hp]]
   grind
 obtain⟨k1,k2⟩:=key;have k3:Qg w'.st t=Qg w.st t:=by unfold Qg;rw[k1]
 exact⟨⟨h.good,h.dep,by rw[k1];exact h.lv,by rw[k1];exact h.zero,by rw[k3];exact h.top⟩,k1,k2,by unfold QA;grind,k3⟩
theorem fan1_in{c:List Pl.Ptr}{o:Pl.Ptr}{n:Int}(h:QT w L)(hc4:c.length=4)(hcb: ∀q∈c,Pl.ptrHole q=true∨q.birth<=w.txg)(hn:1<=n)(ho:Pl.ptrHole o=true∨o∈L/\(Qh w.st o n).2=true)(hok:(Qan w c n o).2.2=true):
 ∃F,QT (Qan w c n o).1 (F++L)/\QaG w (Qan w c n o).1 L/\Qh (Qan w c n o).1.st (Qan w c n o).2.1 n=(c,true)/\
  (F=[(Qan w c n o).2.1]/\Pl.ptrHole (Qan w c n o).2.1=false∨F=[]/\(Pl.ptrHole (Qan w c n o).2.1=true∨(Qan w c n o).2.1=o/\Pl.ptrHole o=false)):=by
 unfold Qan at hok⊢;split
 ·rename_i hall
  refine⟨[],h,fun _ _=>rfl,?_,.inr ⟨rfl,.inl Qdr⟩⟩;have:c=A4 4 Pl.hole:=List.eq_replicate_iff.2 ⟨hc4,fun p hp=>Qgk (AG.1 hall p hp)⟩;unfold Qh
  grind
 ·rename_i hall
  rw[if_neg hall] at hok;split
  ·rename_i hk
   simp only[AX,Ai,beq_iff_eq] at hk;obtain⟨⟨k1,k2⟩,k3⟩:=hk;have hput:=Qjs (Qgm k2).2.2.2;refine⟨[],h,fun _ _=>rfl,?_,.inr ⟨rfl,.inr ⟨rfl,k1⟩⟩⟩;rcases ho with ho|⟨_,ho⟩
   ·grind
   have hrd:Qj w.st.1 o=((QZ c).1,true):=by
    unfold Qj;rw[k1];simp only[A5,if_false];show(if QaX o (w.rows.getD o.pat.toNat [])=true then(w.rows.getD o.pat.toNat [],true) else _)=_
    grind
   dsimp only;unfold Qh at ho⊢;rw[k1,hrd] at ho⊢;simp only[A5,if_false] at ho⊢;rw[Qko hput] at ho⊢
   grind
  ·rename_i hk
   rw[if_neg hk] at hok;obtain⟨g1,g2,g3,g4,g5,g6⟩:=Qpo h hok;have hput:=Qjs g6;have hfit:=g1.fit _ A6;obtain⟨f1,f2,_,_⟩:=Qgm hfit;refine⟨[(w.write (QZ c).1 n).2.1],g1,g2,?_,.inl ⟨rfl,f2⟩⟩;have hbir:=g1.bir _ A6;have htx:=(Pl.Qhc w (QZ c).1 n).1;generalize w.write (QZ c).1 n=y at*
   have hrd:Qj y.1.st.1 y.2.1=((QZ c).1,true):=by
    unfold Qj;rw[f2];simp only[A5,if_false];show(if QaX y.2.1 (y.1.rows.getD y.2.1.pat.toNat [])=true then(y.1.rows.getD y.2.1.pat.toNat [],true) else _)=_
    grind
   unfold Qh;rw[f2,hrd];simp only[A5,if_false];rw[Qko hput,if_pos,if_neg]
   ·simp only[List.any_eq_true,decide_eq_true_eq,not_exists,not_and]
    intro q hq;rcases hcb q hq with hh|hb
    ·rw[Qgk hh,g3]
     have h1:1<=y.2.1.birth:=by
      have:=f1;unfold Pl.ptrOk at this
      grind
     rw[g3] at h1;show ¬w.txg<0;omega
    omega
   ·rw[f1,g4]
    simp only[beq_self_eq_true,Ax,Bool.true_and,decide_eq_true_eq];exact hbir
def Qbl(l:List Pl.Ptr)(j:Nat):List Pl.Ptr:=(l.take (4*(j+1))).drop (4*j)
theorem QsN{l:List Pl.Ptr}{n:Nat}(h:l.length=4*n)(hj:j<n):(Qbl l j).length=4:=by unfold Qbl;grind
def QsM{l:List Pl.Ptr}(h:p∈Qbl l j):p∈l:=AI (Aa h)
theorem Qmx{l:List Pl.Ptr}: ∀{n:Nat},4*n<=l.length->(Ag n).flatMap (Qbl l)=l.take (4*n)
 |0,_=>rfl
 |n+1,h=>by
  rw[List.range_succ,Ac,Qmx (by omega)];simp only[AH,Al,AB];unfold Qbl
  grind
theorem QkZ{w:Pl.Sto}{L l was:List Pl.Ptr}{level:Int}{n:Nat}(h:QT w L)(hl4:l.length=4*n)(hl: ∀q∈l,Pl.ptrHole q=true∨q.birth<=w.txg)(hlev:1<=level)(hw: ∀o∈was,Pl.ptrHole o=true∨o∈L/\(Qh w.st o level).2=true):
 ∀i,i<=n->(Q2 w l level was i).2.2.2=true-> ∃F K,QT (Q2 w l level was i).1 (F++L)/\QaG w (Q2 w l level was i).1 L/\(Q2 w l level was i).2.1.length=i/\
  (∀j,j<i->Qh (Q2 w l level was i).1.st ((Q2 w l level was i).2.1.getD j Pl.hole) level=(Qbl l j,true))/\
  (Qt (Q2 w l level was i).2.1).Perm (F++K)/\K.Sublist (Qt (was.take i))/\(∀q∈K,q∈(Q2 w l level was i).2.2.1)/\(∀q∈(Q2 w l level was i).2.1,Pl.ptrHole q=true∨q∈F++L)
 |0,_,_=>⟨[],[],h,fun _ _=>rfl,rfl,fun j hj=>absurd hj (by omega),.refl _,Am _,by simp,by simp[Q2]⟩
 |i+1,hi,hok=>by
  have hok1:(Q2 w l level was i).2.2.2=true:=by
   cases hf:(Q2 w l level was i).2.2.2
   ·have:=QhR hf 1
    grind
   ·rfl
  obtain⟨F,K,h1,h2,h3,h4,h5,h6,h7,h8⟩:=QkZ h hl4 hl hlev hw i (by omega) hok1;have hsim:=Qhx w l level was i;simp only[Q2] at hok⊢;rw[hok1] at hok⊢;simp only[if_true] at hok⊢;generalize Q2 w l level was i=r at*
  have hok2:(Qan r.1 (Qbl l i) level (was.getD i Pl.hole)).2.2=true:=by
   show(Qan r.1 ((l.take (4*(i+1))).drop (4*i)) level (was.getD i Pl.hole)).2.2=true
   grind
  have ho:Pl.ptrHole (was.getD i Pl.hole)=true∨was.getD i Pl.hole∈F++L/\(Qh r.1.st (was.getD i Pl.hole) level).2=true:=by
   rw[A2];cases hx:was[i]? with
   |none=>exact .inl Qdr
   |some o=>
    rcases hw o (AO hx) with e|⟨e1,e2⟩
    ·grind
    ·refine .inr ⟨A1 _ e1,?_⟩
     show(Qh r.1.st o level).2=true;rw[Qe2 (fun _=>h2 o e1) (by rw[hsim.2.1];omega) e2];exact e2
  obtain⟨F1,g1,g2,g3,g4⟩:=fan1_in h1 (QsN hl4 (by omega)) (fun q hq=>by rw[hsim.2.1];exact hl q (QsM hq)) hlev ho hok2;have hs1:=QoF r.1 (Qbl l i) level (was.getD i Pl.hole);have ec:(l.take (4*(i+1))).drop (4*i)=Qbl l i:=rfl;simp only[ec];clear hok ec;generalize Qan r.1 (Qbl l i) level (was.getD i Pl.hole)=y at*;rw[hok2];simp only[if_true];have hlen:(r.2.1++[y.2.1]).length=i+1:=by simp[h3]
  have hbel: ∀j,j<i+1->Qh y.1.st ((r.2.1++[y.2.1]).getD j Pl.hole) level=(Qbl l j,true):=by
   intro j hj
   by_cases hji:j=i
   ·grind
   ·have hj2:j<r.2.1.length:=by omega
    rw[A2,List.getElem?_append_left hj2,<-A2];have h4j:=h4 j (by omega);rw[<-h4j];refine Qe2 (fun hh=>?_) (by rw[hs1.2.1];omega) (by rw[h4j]);rcases h8 _ (Pl.QdR (d:=Pl.hole) hj2) with e|e
    ·grind
    ·exact g2 _ e
  have htake:was.take (i+1)=was.take i++(match was[i]? with|some o=>[o]|none=>[]):=by
   rw[AT];cases was[i]? <;>rfl
  rcases g4 with⟨rfl,hh⟩|⟨rfl,hh⟩
  ·refine⟨y.2.1::F,K,g1,h2.trans g2 (fun p hp=>A1 _ hp),hlen,hbel,?_,?_,fun q hq=>A0 _ (h7 q hq),fun q hq=>?_⟩
   ·rw[Qew]
    have e:Qt [y.2.1]=[y.2.1]:=by simp[Qt,hh]
    grind
   ·rw[htake,Qew];grind
   grind
  ·rcases hh with hh|⟨hh,hh2⟩
   ·refine⟨F,K,g1,h2.trans g2 (fun p hp=>A1 _ hp),hlen,hbel,?_,?_,fun q hq=>A0 _ (h7 q hq),fun q hq=>?_⟩
    ·rw[Qew]
     have e:Qt [y.2.1]=[]:=by simp[Qt,hh]
     grind
    ·rw[htake,Qew];grind
    grind
   ·have hwi:was[i]? =some y.2.1:=by
     rw[hh,A2];cases hx:was[i]? with
     |none=>rw[A2,hx] at hh2;exact absurd hh2 (by decide)
     |some o=>rfl
    refine⟨F,K++[y.2.1],g1,h2.trans g2 (fun p hp=>A1 _ hp),hlen,hbel,?_,?_,fun q hq=>?_,fun q hq=>?_⟩
    ·rw[Qew]
     have e:Qt [y.2.1]=[y.2.1]:=by rw[hh];unfold Qt;grind
     grind
    ·rw[htake,Qew,hwi]
     have e:Qt [y.2.1]=[y.2.1]:=by rw[hh];unfold Qt;grind
     grind
    ·grind
    grind
theorem QkH(l:List Pl.Ptr):(Q6 l).length=4*((Q6 l).length/4):=by unfold Q6;grind
def nh_pad4(l:List Pl.Ptr):Qt (Q6 l)=Qt l:=by unfold Q6;rw[Qew,Qe6,AB]
def QpX(f:Pl.Ptr->List α)(l:List Pl.Ptr):l.flatMap f=(Ag l.length).flatMap fun j=>f (l.getD j Pl.hole):=by
 induction l with
 |nil=>rfl
 |cons p l ih=>
  rw[AH,Ak,List.range_succ_eq_map,AH,ih,List.flatMap_map];rfl
theorem Qmw{l:List Pl.Ptr}(h:l.length=4):Qbl l 0=l:=by unfold Qbl;grind
def Qku(s:Pm.Store)(n:Int):Qh s Pl.hole n=(A4 4 Pl.hole,true):=by unfold Qh;rw[if_pos Qdr]
theorem lev_in{lv:List Pl.Ptr}{many:Nat}(hT:Qbu w t)(h:QT w (QC w.st t++X))(hm:many<=16)(hll:lv.length=16)(hl: ∀q∈lv.take many,Pl.ptrHole q=true∨(q∈X/\q.level=0))(hok:(Qv w t (lv.take many) (Q5 many) (Q5 many)).2.2.2=true):
 ∃F K,QT (Qv w t (lv.take many) (Q5 many) (Q5 many)).1 (F++(QC w.st t++X))/\QaG w (Qv w t (lv.take many) (Q5 many) (Q5 many)).1 (QC w.st t++X)/\K.Sublist (QC w.st t)/\(∀q∈K,q∈(Qv w t (lv.take many) (Q5 many) (Q5 many)).2.2.1)/\
  QG (Qv w t (lv.take many) (Q5 many) (Q5 many)).1.st ⟨(Qv w t (lv.take many) (Q5 many) (Q5 many)).2.1.getD 0 Pl.hole,(Q5 many:Nat),many⟩=(lv.take many++A4 (4^Q5 many -many) Pl.hole,true)/\
  (QC (Qv w t (lv.take many) (Q5 many) (Q5 many)).1.st ⟨(Qv w t (lv.take many) (Q5 many) (Q5 many)).2.1.getD 0 Pl.hole,(Q5 many:Nat),many⟩).Perm (F++K)/\many<=4^Q5 many:=by
 have hlen:(lv.take many).length=many:=by grind
 have hb0: ∀q∈lv.take many,Pl.ptrHole q=true∨q.birth<=w.txg:=fun q hq=>(hl q hq).imp id fun e=>h.bir q (A1 _ e.1)
 generalize lv.take many=l at*
 have hpad: ∀q∈Q6 l,Pl.ptrHole q=true∨q.birth<=w.txg:=fun q hq=>by
  rcases A8.1 hq with hq|hq
  ·grind
  ·rw[(A3.1 hq).2];exact .inl Qdr
 have hrootI:Pl.ptrHole t.root=false->t.depth≠0->t.root∈QC w.st t:=fun h1 h2=>by
  unfold QC
  grind
 have hd:Q5 many=0/\many<=1∨Q5 many=1/\2<=many/\many<=4∨Q5 many=2/\5<=many:=by
  unfold Q5;grind
 rcases hd with⟨hd,hm1⟩|⟨hd,hm1,hm2⟩|⟨hd,hm1⟩
 ·rw[hd] at hok⊢
  refine⟨[],[],h,fun _ _=>rfl,Am _,by simp,?_,?_,by omega⟩
  ·rw[leaves0 _ rfl]
   show([l.getD 0 Pl.hole],true)=_
   match l,hlen with
   |[],e=>subst e;rfl
   |[a],e=>subst e;rfl
   |_::_::_,e=>grind
  ·rw[Qfz rfl];grind
 ·rw[hd] at hok⊢
  have hn:(Q6 l).length/4=1:=by unfold Q6;grind
  have hp4:(Q6 l).length=4:=by have:=QkH l;omega
  have e1:Qv w t l (1:Nat) 1=((Q2 w (Q6 l) 1 (QK w.st t 1 1) 1).1,(Q2 w (Q6 l) 1 (QK w.st t 1 1) 1).2.1,(Q2 w (Q6 l) 1 (QK w.st t 1 1) 1).2.2.1,(Q2 w (Q6 l) 1 (QK w.st t 1 1) 1).2.2.2):=by
   simp only[Qv,if_true,AD,hn];rfl
  have hold: ∀o∈QK w.st t 1 1,Pl.ptrHole o=true∨o∈QC w.st t++X/\(Qh w.st o 1).2=true:=by
   unfold QK;intro o ho;split at ho
   ·rw[(A3.1 ho).2];exact .inl Qdr
   ·rename_i hdd
    have hdd:t.depth=1:=by omega
    rw[if_pos rfl] at ho;rw[AQ.1 ho];cases hh:Pl.ptrHole t.root
    ·refine .inr ⟨A0 _ (hrootI hh (by omega)),?_⟩
     have:=hT.lv;rw[leaves1 _ hdd] at this
     grind
    grind
  have hsub:(Qt ((QK w.st t 1 1).take 1)).Sublist (QC w.st t):=by
   unfold QK;split
   ·rw[AL,Qe6];grind
   ·rename_i hdd
    rw[if_pos rfl,QeY (by omega)]
    grind
  rw[e1] at hok⊢;dsimp only at hok⊢;obtain⟨F,K,f1,f2,f3,f4,f5,f6,f7,f8⟩:=QkZ h (n:=1) hp4 hpad (by omega) hold 1 (by omega) hok;generalize Q2 w (Q6 l) 1 (QK w.st t 1 1) 1=r at*;have hb:=f4 0 (by omega);rw[Qmw hp4] at hb;refine⟨F,K,f1,f2,f6.trans hsub,f7,?_,?_,by omega⟩
  ·rw[leaves1 _ rfl]
   dsimp only;rw[hb,if_pos rfl];show(Q6 l,true)=_;unfold Q6;rw[hlen,show(4 -many%4)%4=4^1 -many by omega]
  ·rw[QeY rfl]
   dsimp only
   have:r.2.1=[r.2.1.getD 0 Pl.hole]:=by
    match r.2.1,f3 with
    |[a],_=>rfl
   grind
 ·rw[hd] at hok⊢
  have hn:(Q6 l).length/4=(many+3)/4:=by unfold Q6;grind
  have hp4:(Q6 l).length=4*((many+3)/4):=by have:=QkH l;omega
  have e1:Qv w t l (2:Nat) 1=((Q2 w (Q6 l) 1 (QK w.st t 2 1) ((many+3)/4)).1,(Q2 w (Q6 l) 1 (QK w.st t 2 1) ((many+3)/4)).2.1,(Q2 w (Q6 l) 1 (QK w.st t 2 1) ((many+3)/4)).2.2.1,(Q2 w (Q6 l) 1 (QK w.st t 2 1) ((many+3)/4)).2.2.2):=by
   simp only[Qv,if_true,AD,hn];rfl
  have hold: ∀o∈QK w.st t 2 1,Pl.ptrHole o=true∨o∈QC w.st t++X/\(Qh w.st o 1).2=true:=by
   unfold QK;intro o ho;split at ho
   ·rw[(A3.1 ho).2];exact .inl Qdr
   ·rename_i hdd
    have hdd:t.depth=2:=by omega
    rw[if_neg (by omega)] at ho;split at ho
    ·rename_i hb
     have hlv:=hT.lv;rw[leaves2 _ hdd,if_pos hb] at hlv;split at hlv
     ·rename_i hb2
      cases hh:Pl.ptrHole o
      ·refine .inr ⟨A0 _ ?_,AG.1 hb2 o ho⟩
       rw[QeC hdd];exact A1 _ (QeI.2 ⟨ho,hh⟩)
      grind
     grind
    ·rw[(A3.1 ho).2];exact .inl Qdr
  have hok1:(Qv w t l (2:Nat) 1).2.2.2=true:=by
   cases hf:(Qv w t l (2:Nat) 1).2.2.2
   ·have:=Qjg hf 1
    grind
   ·rfl
  have e2:Qv w t l (2:Nat) 2=((Q2 (Qv w t l (2:Nat) 1).1 (Q6 (Qv w t l (2:Nat) 1).2.1) 2 (QK (Qv w t l (2:Nat) 1).1.st t 2 2) ((Q6 (Qv w t l (2:Nat) 1).2.1).length/4)).1,(Q2 (Qv w t l (2:Nat) 1).1 (Q6 (Qv w t l (2:Nat) 1).2.1) 2 (QK (Qv w t l (2:Nat) 1).1.st t 2 2) ((Q6 (Qv w t l (2:Nat) 1).2.1).length/4)).2.1,
   (Qv w t l (2:Nat) 1).2.2.1++(Q2 (Qv w t l (2:Nat) 1).1 (Q6 (Qv w t l (2:Nat) 1).2.1) 2 (QK (Qv w t l (2:Nat) 1).1.st t 2 2) ((Q6 (Qv w t l (2:Nat) 1).2.1).length/4)).2.2.1,(Q2 (Qv w t l (2:Nat) 1).1 (Q6 (Qv w t l (2:Nat) 1).2.1) 2 (QK (Qv w t l (2:Nat) 1).1.st t 2 2) ((Q6 (Qv w t l (2:Nat) 1).2.1).length/4)).2.2.2):=by
   show(if(Qv w t l (2:Nat) 1).2.2.2=true then _ else _)=_
   grind
  rw[e2] at hok⊢;rw[e1] at hok hok1⊢;dsimp only at hok hok1⊢;obtain⟨F1,K1,f1,f2,f3,f4,f5,f6,f7,f8⟩:=QkZ h hp4 hpad (by omega) hold ((many+3)/4) (by omega) hok1;have hsim:=Qhx w (Q6 l) 1 (QK w.st t 2 1) ((many+3)/4)
  have hK1:K1.Sublist (if t.depth=2 then Qt (Qh w.st t.root 2).1 else []):=by
   refine f6.trans ?_;unfold QK
   by_cases hdd:t.depth=2
   ·rw[if_neg (by omega),if_neg (by omega),if_pos hdd]
    split
    ·exact Ad _ (List.take_sublist _ _)
    ·rw[AL,Qe6];grind
   ·rw[if_pos (by omega),AL,Qe6];grind
  generalize Q2 w (Q6 l) 1 (QK w.st t 2 1) ((many+3)/4)=r at*;have hn2:(Q6 r.2.1).length/4=1:=by unfold Q6;grind
  have hp42:(Q6 r.2.1).length=4:=by have:=QkH r.2.1;omega
  rw[hn2] at hok⊢
  have hpad2: ∀q∈Q6 r.2.1,Pl.ptrHole q=true∨q.birth<=r.1.txg:=fun q hq=>by
   rcases A8.1 hq with hq|hq
   ·exact(f8 q hq).imp id fun e=>f1.bir q e
   ·rw[(A3.1 hq).2];exact .inl Qdr
  have hold2: ∀o∈QK r.1.st t 2 2,Pl.ptrHole o=true∨o∈F1++(QC w.st t++X)/\(Qh r.1.st o 2).2=true:=by
   unfold QK;intro o ho;split at ho
   ·rw[(A3.1 ho).2];exact .inl Qdr
   ·rename_i hdd
    have hdd:t.depth=2:=by omega
    rw[if_pos rfl] at ho;rw[AQ.1 ho];cases hh:Pl.ptrHole t.root
    ·have hr:=A0 X (hrootI hh (by omega))
     refine .inr ⟨A1 _ hr,?_⟩;have hlv:=hT.lv;rw[leaves2 _ hdd] at hlv;split at hlv
     ·rename_i hb
      rw[Qe2 (fun _=>f2 _ hr) (by rw[hsim.2.1];omega) hb];exact hb
     grind
    grind
  have hsub2:(Qt ((QK r.1.st t 2 2).take 1)).Sublist (if t.depth=2 then Qt [t.root] else []):=by
   unfold QK
   by_cases hdd:t.depth=2
   ·grind
   ·rw[if_pos (by omega),AL,Qe6];grind
  obtain⟨F2,K2,g1,g2,g3,g4,g5,g6,g7,g8⟩:=QkZ f1 (n:=1) hp42 hpad2 (by omega) hold2 1 (by omega) hok;have hsim2:=Qhx r.1 (Q6 r.2.1) 2 (QK r.1.st t 2 2) 1;generalize Q2 r.1 (Q6 r.2.1) 2 (QK r.1.st t 2 2) 1=r2 at*;have hb:=g4 0 (by omega);rw[Qmw hp42] at hb
  have hbelow: ∀j,j<(many+3)/4->Qh r2.1.st (r.2.1.getD j Pl.hole) 1=(Qbl (Q6 l) j,true):=fun j hj=>by
   rw[<-f4 j hj];refine Qe2 (fun hh=>?_) (by rw[hsim2.2.1];omega) (by grind);rcases f8 _ (Pl.QdR (d:=Pl.hole) (show j<r.2.1.length by omega)) with e|e
   ·grind
   ·exact g2 _ e
  have hrep: ∀k,(A4 k Pl.hole).flatMap (fun p=>(Qh r2.1.st p 1).1)=A4 (4*k) Pl.hole:=fun k=>by
   induction k with
   |zero=>rfl
   |succ k ih=>
    rw[List.replicate_succ,AH,ih,Qku,AF]
    grind
  refine⟨F2++F1,K2++K1,?_,?_,?_,?_,?_,?_,by omega⟩
  ·grind
  ·exact f2.trans g2 fun p hp=>A1 _ hp
  ·by_cases hdd:t.depth=2
   ·rw[if_pos hdd] at hK1 hsub2
    rw[QeC hdd];exact B1 (g6.trans hsub2) hK1
   grind
  ·grind
  ·rw[leaves2 _ rfl]
   dsimp only;rw[hb,if_pos rfl,if_pos]
   ·congr 1
    unfold Q6;rw[Ac,hrep,QpX,f3]
    have e3:(Ag ((many+3)/4)).flatMap (fun j=>(Qh r2.1.st (r.2.1.getD j Pl.hole) 1).1)=(Ag ((many+3)/4)).flatMap (Qbl (Q6 l)):=by
     rw[AN,AN,AP fun j hj=>by rw[hbelow j (List.mem_range.1 hj)]]
    rw[e3,Qmx (by omega),A9 (by omega)];unfold Q6;rw[A7,AF,hlen]
    congr 2;omega
   ·rw[AG]
    intro q hq;rcases A8.1 hq with hq|hq
    ·obtain⟨j,hj,rfl⟩:=List.getElem_of_mem hq
     grind
    ·rw[(A3.1 hq).2,Qku]
  ·rw[QeC rfl]
   dsimp only;rw[hb]
   have:r2.2.1=[r2.2.1.getD 0 Pl.hole]:=by
    match r2.2.1,g3 with
    |[a],_=>rfl
   rw[<-this,nh_pad4];refine(List.Perm.append g5 f5).trans ?_
   grind
theorem Qkd{α:Type}(p:α->Bool): ∀l:List α,l.Perm (l.filter (fun x=> !p x)++l.filter p)
 |[]=> .refl _
 |x::l=>by
  have ih:=Qkd p l;cases h:p x
  ·simp_all
  ·rw[List.filter_cons_of_neg (by simp[h]),List.filter_cons_of_pos (by simp[h])]
   exact(As _ ih).trans AW.symm
theorem QqF{s:Pm.Store}{l:List Pl.Ptr}{n many:Nat}(h:QG s t=(l++A4 (n -many) Pl.hole,true))(hl:l.length=many)(hn:many<=n)(h16:n<=16):Qg s t=l++A4 (16 -many) Pl.hole:=by
 unfold Qg;rw[h];dsimp only;rw[A7,List.length_append,List.length_replicate,AF]
 grind
theorem Qvb{lv:List Pl.Ptr}{many:Nat}(hT:Qbu w t)(h:QT w (QC w.st t++X))(hm:many<=16)(hll:lv.length=16)(hl: ∀q∈lv.take many,Pl.ptrHole q=true∨(q∈X/\q.level=0))(hok:(Qw w t lv many).2.2=true):
 Qbu (Qw w t lv many).1 (Qw w t lv many).2.1/\Qg (Qw w t lv many).1.st (Qw w t lv many).2.1=lv.take many++A4 (16 -many) Pl.hole/\
 QG (Qw w t lv many).1.st (Qw w t lv many).2.1=(lv.take many++A4 (4^Q5 many -many) Pl.hole,true)/\
 QT (Qw w t lv many).1 (QC (Qw w t lv many).1.st (Qw w t lv many).2.1++X)/\QaG w (Qw w t lv many).1 X/\(Qw w t lv many).1.txg=w.txg/\(Qw w t lv many).2.1.many=many/\(Qw w t lv many).2.1.depth=(Q5 many:Nat):=by
 have hlen:(lv.take many).length=many:=by grind
 unfold Qw at hok⊢;split at hok;rotate_left
 ·cases hok
 rename_i hok2;rw[if_pos hok2];obtain⟨F,K,f1,f2,f3,f4,f5,f6,f7⟩:=lev_in hT h hm hll hl hok2;have hsim:=Qnw w t (lv.take many) (Q5 many:Nat) (Q5 many);dsimp only;generalize Qv w t (lv.take many) (Q5 many:Nat) (Q5 many)=r at*;have hd16:4^Q5 many<=16:=by rcases Qgo many with e|e|e<;>rw[e]<;>decide
 have hkept:K.Sublist ((QC w.st t).filter fun p=>r.2.2.1.contains p):=by
  have h1:=Ad (fun p=>r.2.2.1.contains p) f3
  rwa [List.filter_eq_self.2 fun q hq=>by grind] at h1
 obtain⟨R,hR⟩:=Qof hkept
 have hp:(F++(QC w.st t++X)).Perm (QaZ (QC w.st t) r.2.2.1++((F++K)++X++R)):=by
  have h1:(QC w.st t).Perm (QaZ (QC w.st t) r.2.2.1++(K++R)):=(Qkd (fun p=>r.2.2.1.contains p) _).trans (AA _ hR);refine(AA F (AM X h1)).trans ?_;generalize QaZ (QC w.st t) r.2.2.1=U
  have e1:(F++(U++(K++R)++X)).Perm (U++(F++((K++R)++X))):=by
   grind
  refine e1.trans (AA U ?_);rw[A7,A7,A7];refine AA F (AA K ?_)
  grind
 obtain⟨g1,g2⟩:=QiD _ (f1.perm hp);have g3:=g1.left;have htx:=Qht (QaZ (QC w.st t) r.2.2.1) r.1
 have hTr:Qbu r.1 ⟨r.2.1.getD 0 Pl.hole,(Q5 many:Nat),many⟩:=by
  have hwd:=QqF f5 hlen f7 hd16;refine⟨⟨by grind,by have:=Qvi many;grind,?_,by grind,by grind⟩,?_,by rw[f5],?_,?_⟩
  ·--the root is a pointer
   show Pl.ptrOk (r.2.1.getD 0 Pl.hole)=true
   by_cases hd0:Q5 many=0
   ·have hlv:=f5
    rw[leaves0 _ (by grind)] at hlv;have h2:=(Prod.mk.inj hlv).1;have h3:r.2.1.getD 0 Pl.hole∈lv.take many++A4 (4^Q5 many -many) Pl.hole:=by grind
    rcases A8.1 h3 with h4|h4
    ·rcases hl _ h4 with e|⟨e,_⟩
     ·rw[Qgk e];exact QdN
     ·exact(Qgm (h.fit _ (A1 _ e))).1
    ·rw[(A3.1 h4).2];exact QdN
   ·cases hh:Pl.ptrHole (r.2.1.getD 0 Pl.hole)
    ·have hin:r.2.1.getD 0 Pl.hole∈QC r.1.st ⟨r.2.1.getD 0 Pl.hole,(Q5 many:Nat),many⟩:=by
      unfold QC
      simp_all
     have h3:=f6.mem_iff.1 hin
     have h4:r.2.1.getD 0 Pl.hole∈F++(QC w.st t++X):=by
      grind
     exact(Qgm (f1.fit _ h4)).1
    ·rw[Qgk hh];exact QdN
  ·simp
  ·rw[f5]
   intro p hp;rcases A8.1 hp with hp|hp
   ·grind
   ·rw[(A3.1 hp).2];exact .inl Qdr
  ·intro i hi
   have hi2:many<=i:=by simp_all
   rw[hwd,A2,AR (by omega),AY];split<;>rfl
 have hkeep:QaG r.1 (r.1.freeL (QaZ (QC w.st t) r.2.2.1)) (QC r.1.st ⟨r.2.1.getD 0 Pl.hole,(Q5 many:Nat),many⟩):=fun q hq=>
  g2 q (A0 _ (A0 _ (f6.mem_iff.1 hq)))
 obtain⟨k1,k2,k3,_,k5⟩:=Qfl hTr hkeep (by omega);refine⟨k1,by rw[k5];exact QqF f5 hlen f7 hd16,by grind,?_,?_,by rw[htx];exact hsim.2.1,rfl,rfl⟩
 ·rw[k3]
  exact g3.perm (AM X f6.symm)
 ·exact fun q hq=>(g2 q (A0 _ (A1 _ hq))).trans (f2 q (A1 _ hq))
def QlW(l:List Pl.Ptr)(n:Nat):Qt l=Qt (l.take n)++Qt (l.drop n):=by rw[<-Qew,List.take_append_drop]
theorem QkW: ∀(l:List Pl.Ptr) (w:Pl.Sto),w.freeL l=w.freeL (Qt l)
 |[],_=>rfl
 |p::l,w=>by
  cases hh:Pl.ptrHole p
  ·have e:Qt (p::l)=p::Qt l:=by unfold Qt;grind
   rw[e];exact QkW l (w.free p)
  ·have e:Qt (p::l)=Qt l:=by unfold Qt;grind
   rw[e];have e2:w.free p=w:=by unfold Pl.Sto.free;grind
   show(w.free p).freeL l=_;rw[e2];exact QkW l w
def Qnh(s:Pm.Store)(t:Pl.Tree):Qt (Qg s t)=Qt (QG s t).1:=by unfold Qg;rw[Qew,Qe6,AB]
theorem QsG{many:Nat}(hT:Qbu w t)(h:QT w (QA w.st t++X))(hm:many<=16)(hok:(QJ w t many).2.2=true):
 Qbu (QJ w t many).1 (QJ w t many).2.1/\(QJ w t many).2.1.many=many/\QT (QJ w t many).1 (QA (QJ w t many).1.st (QJ w t many).2.1++X)/\QaG w (QJ w t many).1 X/\(QJ w t many).1.txg=w.txg/\
 (∀i,i<many->(Qg (QJ w t many).1.st (QJ w t many).2.1).getD i Pl.hole=(Qg w.st t).getD i Pl.hole)/\QaG w (QJ w t many).1 (Qt ((Qg w.st t).take many)):=by
 unfold QJ at hok⊢;split at hok
 ·rename_i he
  rw[if_pos he];exact⟨hT,he.symm,h,fun _ _=>rfl,rfl,fun _ _=>rfl,fun _ _=>rfl⟩
 ·rename_i he
  rw[if_neg he];split at hok;rotate_left
  ·cases hok
  rename_i hok2;rw[if_pos hok2];have hwl:=QdG w.st hT.good.hi;have hnw:Qt (QG w.st t).1=Qt ((Qg w.st t).take many)++Qt ((Qg w.st t).drop many):=by rw[<-Qnh,QlW _ many]
  have hL:QT w (QC w.st t++(Qt ((Qg w.st t).take many)++(Qt ((Qg w.st t).drop many)++X))):=by
   unfold QA at h
   grind
  have hz: ∀q∈Qg w.st t,Pl.ptrHole q=true∨q.level=0:=fun q hq=>by
   rcases A8.1 hq with hq|hq
   ·exact hT.zero q hq
   ·rw[(A3.1 hq).2];exact .inl Qdr
  obtain⟨y1,y2,y3,y4,y5,y6,y7,y8⟩:=Qvb hT hL hm hwl (fun q hq=>by
   cases hh:Pl.ptrHole q
   ·refine .inr ⟨A0 _ (QeI.2 ⟨hq,hh⟩),?_⟩
    grind
   grind) hok2
  generalize Qw w t (Qg w.st t) many=y at*;dsimp only
  have hp:(QC y.1.st y.2.1++(Qt ((Qg w.st t).take many)++(Qt ((Qg w.st t).drop many)++X))).Perm (Qt ((Qg w.st t).drop many)++(QA y.1.st y.2.1++X)):=by
   unfold QA;rw[y3];dsimp only;rw[Qew,Qe6,AB]
   grind
  rw[QkW];obtain⟨g1,g2⟩:=QiD _ (y4.perm hp);have htx:=Qht (Qt ((Qg w.st t).drop many)) y.1;obtain⟨k1,k2,k3,k4,k5⟩:=Qfl (w':=y.1.freeL (Qt ((Qg w.st t).drop many))) y1 (fun q hq=>g2 q (A0 _ (A0 _ hq))) (by rw[htx];exact An _);refine⟨k1,y7,by grind,fun q hq=>?_,by omega,fun i hi=>?_,fun q hq=>?_⟩
  ·exact(g2 q (A1 _ hq)).trans (y5 q (A1 _ (A1 _ hq)))
  ·grind
  ·refine(g2 q (A0 _ ?_)).trans (y5 q (A0 _ hq))
   unfold QA;rw[y3];dsimp only;rw[Qew,Qe6,AB]
   grind
def QaB(w:Pl.Sto)(t:Pl.Tree)(k many:Nat)(p:Pl.Ptr)(lv:List Pl.Ptr):Pl.Sto×Pl.Tree×Bool:=
 if(Qw w t (lv.set k p) many).2.2 then(if p=lv.getD k Pl.hole then(Qw w t (lv.set k p) many).1 else(Qw w t (lv.set k p) many).1.free (lv.getD k Pl.hole),(Qw w t (lv.set k p) many).2.1,true)
 else((Qw w t (lv.set k p) many).1,(Qw w t (lv.set k p) many).2.1,false)
def Qp(w:Pl.Sto)(t:Pl.Tree)(k:Nat)(text:List UInt8):Pl.Sto×Pl.Tree×Bool:=
 if(Qj w.rows ((Qg w.st t).getD k Pl.hole)).1=text then
  (if max t.many.toNat (k+1)=t.many.toNat then(w,t,true) else QaB w t k (max t.many.toNat (k+1)) ((Qg w.st t).getD k Pl.hole) (Qg w.st t))
 else if text=[] then QaB w t k (max t.many.toNat (k+1)) Pl.hole (Qg w.st t)
 else if(w.write text 0).2.2 then QaB (w.write text 0).1 t k (max t.many.toNat (k+1)) (w.write text 0).2.1 (Qg w.st t)
 else(w,t,false)
theorem Qt0{l:List Pl.Ptr}(h:k<l.length):(Qt (l.set k p)++Qt [l.getD k Pl.hole]).Perm (Qt [p]++Qt l):=by
 have e1:l.set k p=l.take k++p::l.drop (k+1):=List.set_eq_take_append_cons_drop .. ▸(by grind)
 have e2:l=l.take k++l.getD k Pl.hole::l.drop (k+1):=by
  simp_all
 have hc: ∀(x:Pl.Ptr) (m:List Pl.Ptr),Qt (x::m)=Qt [x]++Qt m:=fun x m=>Qew [x] m
 generalize l.getD k Pl.hole=o at*;rw[e1];have e3:Qt l=Qt (l.take k)++(Qt [o]++Qt (l.drop (k+1))):=by rw[<-hc,<-Qew,<-e2]
 rw[e3,Qew,hc p]
 grind
def QeG(rows:List (List UInt8)):Qj rows Pl.hole=([],true):=by unfold Qj;rw[if_pos Qdr]
def QuW{rows:List (List UInt8)}(h:QaX p (rows.getD p.pat.toNat [])=true):Qj rows p=(rows.getD p.pat.toNat [],true):=by
 unfold Qj;rw[(Qgm h).2.1,h];rfl
theorem Qna{many:Nat}(hT:Qbu w t)(hk:k<16)(hm:many=max t.many.toNat (k+1))
 (h:QT w (QC w.st t++(Qt ((Qg w.st t).set k p)++(Qt (if p=(Qg w.st t).getD k Pl.hole then [] else [(Qg w.st t).getD k Pl.hole])++X)))) (hp:Pl.ptrHole p=true∨p.level=0) (hok:(QaB w t k many p (Qg w.st t)).2.2=true):
 Qbu (QaB w t k many p (Qg w.st t)).1 (QaB w t k many p (Qg w.st t)).2.1/\(QaB w t k many p (Qg w.st t)).2.1.many=many/\QT (QaB w t k many p (Qg w.st t)).1 (QA (QaB w t k many p (Qg w.st t)).1.st (QaB w t k many p (Qg w.st t)).2.1++X)/\
 QaG w (QaB w t k many p (Qg w.st t)).1 (Qt ((Qg w.st t).set k p)++X)/\(QaB w t k many p (Qg w.st t)).1.txg=w.txg/\Qg (QaB w t k many p (Qg w.st t)).1.st (QaB w t k many p (Qg w.st t)).2.1=(Qg w.st t).set k p:=by
 have hwl:=QdG w.st hT.good.hi;have hm16:many<=16:=by have:=hT.good.manyHi;omega
 have hz: ∀q∈Qg w.st t,Pl.ptrHole q=true∨q.level=0:=fun q hq=>by
  rcases A8.1 hq with hq|hq
  ·exact hT.zero q hq
  ·rw[(A3.1 hq).2];exact .inl Qdr
 have htop:=hT.top;have hinner:=fun s':Pm.Store=>s'
 clear hinner;generalize hwd:Qg w.st t=wd at*
 have hset:(wd.set k p).take many++A4 (16 -many) Pl.hole=wd.set k p:=by
  refine List.ext_getElem? fun i=>?_
  by_cases hi:i<many
  ·grind
  ·rw[AR (by grind),AU,Ar,AY,List.getElem?_set_ne (by omega)]
   by_cases h16:i<16
   ·rw[if_pos (by omega)]
    have:=htop i (by omega)
    grind
   grind
 have hns:Qt ((wd.set k p).take many)=Qt (wd.set k p):=by
  have:=congrArg Qt hset
  rwa [Qew,Qe6,AB] at this
 unfold QaB at hok⊢;split at hok;rotate_left
 ·cases hok
 rename_i hok2;rw[if_pos hok2]
 obtain⟨y1,y2,y3,y4,y5,y6,y7,y8⟩:=Qvb hT h hm16 (by grind) (fun q hq=>by
  cases hh:Pl.ptrHole q
  ·refine .inr ⟨A0 _ (QeI.2 ⟨AI hq,hh⟩),?_⟩
   grind
  grind) hok2
 generalize Qw w t (wd.set k p) many=y at*;dsimp only;rw[hset] at y2
 have htps:QA y.1.st y.2.1=QC y.1.st y.2.1++Qt (wd.set k p):=by
  unfold QA;rw[y3];dsimp only;rw[Qew,Qe6,AB,hns]
 by_cases hpo:p=wd.getD k Pl.hole
 ·rw[if_pos hpo] at y4 y5⊢
  refine⟨y1,y7,?_,fun q hq=>y5 q ?_,y6,y2⟩
  ·rw[htps,A7];exact y4
  grind
 ·rw[if_neg hpo] at y4 y5⊢
  cases hh:Pl.ptrHole (wd.getD k Pl.hole);rotate_left
  ·have e2:y.1.free (wd.getD k Pl.hole)=y.1:=by unfold Pl.Sto.free;grind
   have e3:Qt [wd.getD k Pl.hole]=[]:=by unfold Qt;grind
   grind
  ·have e3:Qt [wd.getD k Pl.hole]=[wd.getD k Pl.hole]:=by unfold Qt;grind
   rw[e3] at y4 y5
   have hp2:(QC y.1.st y.2.1++(Qt (wd.set k p)++([wd.getD k Pl.hole]++X))).Perm (wd.getD k Pl.hole::(QA y.1.st y.2.1++X)):=by
    grind
   obtain⟨g1,g2⟩:=Qtm (y4.perm hp2);have htx:=(Qo9 y.1 (wd.getD k Pl.hole)).1;obtain⟨k1,k2,k3,k4,k5⟩:=Qfl (w':=y.1.free (wd.getD k Pl.hole)) y1 (fun q hq=>g2 q (A0 _ (A0 _ hq))) (by rw[htx];exact An _);refine⟨k1,y7,by grind,fun q hq=>?_,by omega,by grind⟩;rcases A8.1 hq with e|e
   ·exact(g2 q (A0 _ (by grind))).trans (y5 q (A0 _ e))
   ·exact(g2 q (A1 _ e)).trans (y5 q (A1 _ (A1 _ e)))
theorem QhE{many:Nat}{lv:List Pl.Ptr}(h:(QaB w t k many p lv).2.2=false):QcL w (QaB w t k many p lv).1:=by
 unfold QaB at h⊢;split at h
 ·cases h
 ·rename_i hc
  rw[if_neg hc];exact Qjh (by grind)
theorem QmT{text:List UInt8}(hT:Qbu w t)(hk:k<16)(h:QT w (QA w.st t++X))(hok:(Qp w t k text).2.2=true):
 Qbu (Qp w t k text).1 (Qp w t k text).2.1/\(Qp w t k text).2.1.many=(max t.many.toNat (k+1):Nat)/\QT (Qp w t k text).1 (QA (Qp w t k text).1.st (Qp w t k text).2.1++X)/\QaG w (Qp w t k text).1 X/\(Qp w t k text).1.txg=w.txg/\
 (∀i,i≠k->(Qg (Qp w t k text).1.st (Qp w t k text).2.1).getD i Pl.hole=(Qg w.st t).getD i Pl.hole/\(Qj (Qp w t k text).1.rows ((Qg w.st t).getD i Pl.hole)).1=(Qj w.rows ((Qg w.st t).getD i Pl.hole)).1)/\
 (Qj (Qp w t k text).1.rows ((Qg (Qp w t k text).1.st (Qp w t k text).2.1).getD k Pl.hole)).1=text:=by
 have hwl:=QdG w.st hT.good.hi;have hk2:k<(Qg w.st t).length:=by omega
 have hlv:QA w.st t++X=QC w.st t++(Qt (Qg w.st t)++X):=by unfold QA;rw[Qnh,A7]
 rw[hlv] at h
 have hz: ∀q∈Qg w.st t,Pl.ptrHole q=true∨q.level=0:=fun q hq=>by
  rcases A8.1 hq with hq|hq
  ·exact hT.zero q hq
  ·rw[(A3.1 hq).2];exact .inl Qdr
 have fin: ∀{u y:Pl.Sto} {tt:Pl.Tree} {p:Pl.Ptr},QaG u y (Qt ((Qg w.st t).set k p))->QaG w u (Qt (Qg w.st t))->Qg y.st tt=(Qg w.st t).set k p->
  ∀i,i≠k->(Qg y.st tt).getD i Pl.hole=(Qg w.st t).getD i Pl.hole/\(Qj y.rows ((Qg w.st t).getD i Pl.hole)).1=(Qj w.rows ((Qg w.st t).getD i Pl.hole)).1:=by
  intro u y tt p h1 h2 h3 i hi;have e1:((Qg w.st t).set k p).getD i Pl.hole=(Qg w.st t).getD i Pl.hole:=by grind
  refine⟨by grind,?_⟩;cases hh:Pl.ptrHole ((Qg w.st t).getD i Pl.hole)
  ·have hil:i<(Qg w.st t).length:=by
    rw[A2] at hh;cases hx:(Qg w.st t)[i]? with
    |none=>rw[hx] at hh;exact absurd hh (by decide)
    |some q=>grind
   have m1:=Pl.QdR (d:=Pl.hole) hil
   have m2:(Qg w.st t).getD i Pl.hole∈(Qg w.st t).set k p:=by
    grind
   unfold Qj;rw[hh];simp only[A5,if_false];rw[h1 _ (QeI.2 ⟨m2,hh⟩),h2 _ (QeI.2 ⟨m1,hh⟩)]
  ·rw[Qgk hh,QeG,QeG]
 unfold Qp at hok⊢;split at hok
 ·rename_i he
  rw[if_pos he];split at hok
  ·rename_i hm
   rw[if_pos hm];dsimp only;refine⟨hT,by omega,by grind,fun _ _=>rfl,rfl,fun i hi=>⟨rfl,rfl⟩,he⟩
  ·rename_i hm
   rw[if_neg hm]
   have hs:(Qg w.st t).set k ((Qg w.st t).getD k Pl.hole)=Qg w.st t:=by
    simp_all
   obtain⟨y1,y2,y3,y4,y5,y6⟩:=Qna hT hk rfl (p:=(Qg w.st t).getD k Pl.hole) (X:=X) (by rw[if_pos rfl,hs];exact h) (hz _ (Pl.QdR hk2)) hok;refine⟨y1,y2,y3,fun q hq=>y4 q (A1 _ hq),y5,fin (fun q hq=>y4 q (A0 _ hq)) (fun _ _=>rfl) y6,?_⟩;rw[y6,hs];rw[hs] at y4;cases hh:Pl.ptrHole ((Qg w.st t).getD k Pl.hole)
   ·have:Qj (QaB w t k (max t.many.toNat (k+1)) ((Qg w.st t).getD k Pl.hole) (Qg w.st t)).1.rows ((Qg w.st t).getD k Pl.hole)=Qj w.rows ((Qg w.st t).getD k Pl.hole):=by
     unfold Qj;rw[hh];simp only[A5,if_false];rw[y4 _ (A0 _ (QeI.2 ⟨Pl.QdR hk2,hh⟩))]
    grind
   ·rw[Qgk hh,QeG] at he⊢;exact he
 ·rename_i he
  rw[if_neg he];have hpm:=fun p=>Qt0 (p:=p) hk2
  split at hok
  ·rename_i ht
   rw[if_pos ht];have hne: ¬Pl.hole=(Qg w.st t).getD k Pl.hole:=fun e=>he (by rw[<-e,QeG,ht])
   have hnp:(Qt (Qg w.st t)++X).Perm (Qt ((Qg w.st t).set k Pl.hole)++(Qt [(Qg w.st t).getD k Pl.hole]++X)):=by
    rw[<-A7];exact AM X ((hpm Pl.hole).symm)
   obtain⟨y1,y2,y3,y4,y5,y6⟩:=Qna hT hk rfl (p:=Pl.hole) (X:=X) (by rw[if_neg hne];exact h.perm (AA _ hnp)) (.inl Qdr) hok;refine⟨y1,y2,y3,fun q hq=>y4 q (A1 _ hq),y5,fin (fun q hq=>y4 q (A0 _ hq)) (fun _ _=>rfl) y6,?_⟩;rw[y6,Pl.getD_set,if_pos ⟨rfl,hk2⟩,QeG,ht]
  ·rename_i ht
   rw[if_neg ht];split at hok;rotate_left
   ·cases hok
   rename_i hwok;rw[if_pos hwok];obtain⟨g1,g2,g3,g4,g5,g6⟩:=Qpo h hwok;have hfit:=g1.fit _ A6;obtain⟨_,f2,_,_⟩:=Qgm hfit;have htx:=(Pl.Qhc w text 0).1;generalize w.write text 0=v at*;obtain⟨k1,k2,k3,k4,k5⟩:=Qfl (w':=v.1) hT (fun q hq=>g2 q (A0 _ hq)) (by omega)
   have hne: ¬v.2.1=(Qg w.st t).getD k Pl.hole:=by
    intro e;have hm:(Qg w.st t).getD k Pl.hole∈Qt (Qg w.st t):=QeI.2 ⟨Pl.QdR hk2,by grind⟩;have hfo:=h.fit _ (A1 _ (A0 _ hm));have h1:=g2 _ (A1 _ (A0 _ hm));rw[<-e,g5] at h1;rw[<-e] at hfo;apply he;rw[<-e,QuW hfo]
    grind
   have hnp:(v.2.1::(QC w.st t++(Qt (Qg w.st t)++X))).Perm (QC w.st t++(Qt ((Qg w.st t).set k v.2.1)++(Qt [(Qg w.st t).getD k Pl.hole]++X))):=by
    refine AW.symm.trans (AA _ ?_);rw[<-A7];have e:Qt [v.2.1]=[v.2.1]:=by unfold Qt;grind
    grind
   obtain⟨y1,y2,y3,y4,y5,y6⟩:=Qna (w:=v.1) (t:=t) (k:=k) (p:=v.2.1) (X:=X) k1 hk rfl (by rw[k5,k3,if_neg hne];exact g1.perm hnp) (.inr g4) (by grind);rw[k5] at y1 y2 y3 y4 y5 y6;refine⟨y1,y2,y3,fun q hq=>(y4 q (A1 _ hq)).trans (g2 q (A1 _ (A1 _ hq))),y5.trans htx,fin (fun q hq=>y4 q (A0 _ hq)) (fun q hq=>g2 q (A1 _ (A0 _ hq))) y6,?_⟩;have hm2:v.2.1∈Qt ((Qg w.st t).set k v.2.1):=QeI.2 ⟨List.mem_set hk2 _,f2⟩;rw[y6,Pl.getD_set,if_pos ⟨rfl,hk2⟩];have h1:=y4 _ (A0 _ hm2);rw[g5] at h1;have h2:QaX v.2.1 text=true:=by grind
   rw[QuW (by grind)];exact h1
section
variable{P:Program}{dst:Option Tmp}{ty:Aj}{pos:String}{after:Array Edge}{gd:Option (Nat×Bool)}{env:List (Nat×AV)}{H:List Blk}
def Qei{l:List UInt8}(hx:aval env x= .d (.v (.string ⟨l.toArray⟩)))(hy:aval env y= .d (.v (.string ⟨m.toArray⟩)))(hb:(l==m)=b):
 Loc P ⟨dst,.binOp .eql T x y T',ty,pos,after,gd⟩ env H (.d (.v (.bool b))) none:=hb▸Qdo hx hy
def Qeh{l:List UInt8}(hx:aval env x= .d (.v (.string ⟨l.toArray⟩)))(hy:aval env y= .d (.v (.string ⟨m.toArray⟩)))(hb:(l==m)=b):
 Loc P ⟨dst,.binOp .neq T x y T',ty,pos,after,gd⟩ env H (.d (.v (.bool !b))) none:=hb▸QdB hx hy
def Qg4{j m:Int}(hx:aval env x= .d (.v (.int κ i)))(hy:aval env y= .d (.v (.int κ' j)))(hm:(if j>i then j else i)=m):Loc P ⟨dst,.call ⟨.builtin .max, #[x,y], #[t1,t2]⟩,ty,pos,after,gd⟩ env H (.d (.v (.int κ m))) none:=hm▸Qnp hx hy
def QkL{j m:Int}(hx:aval env x= .d (.v (.int κ i)))(hy:aval env y= .d (.v (.int κ' j)))(hm:(if j<i then j else i)=m):Loc P ⟨dst,.call ⟨.builtin .min, #[x,y], #[t1,t2]⟩,ty,pos,after,gd⟩ env H (.d (.v (.int κ m))) none:=hm▸Qno hx hy
end
theorem Qjc{dst:Option Tmp}{ty:Aj}{pos:String}{after:Array Edge}{gd:Option (Nat×Bool)}{env:List (Nat×AV)}{H:List Blk}{x y:Tmp}{q:Pl.Ptr}(hx:aval env (.tmp x)= .d (dPtr p))(hy:aval env (.tmp y)= .d (dPtr q))(hb:decide (p=q)=b):
 Loc AJ ⟨dst,.binOp .neq 31 (.tmp x) (.tmp y) T',ty,pos,after,gd⟩ env H (.d (dB !b)) none:=hb▸
 loc_bin' (X:= .agg #[.int .i64 p.pat,.int .i64 p.birth,.int .i64 p.size,.int .i64 p.sum,.int .i64 p.level]) (Y:= .agg #[.int .i64 q.pat,.int .i64 q.birth,.int .i64 q.size,.int .i64 q.sum,.int .i64 q.level]) (by rw[hx];rfl) (by rw[hy];rfl) fun w=>by
  obtain⟨p1,p2,p3,p4,p5⟩:=p;obtain⟨q1,q2,q3,q4,q5⟩:=q
  go_simp
  grind
def tgood0:Qx ⟨Pl.hole,0,0⟩:=⟨by decide,by decide,QdN,by decide,by decide⟩
theorem Qrm(h:w.W N)(ht:Pl.ptrOk t.root=true){many:Nat}{lv:List Pl.Ptr}(hp:Pl.ptrOk p=true)(hl: ∀q∈lv,Pl.ptrOk q=true)(hm:many<=16):(QaB w t k many p lv).1.W (N+14)/\Qx (QaB w t k many p lv).2.1:=by
 have hl2: ∀q∈lv.set k p,Pl.ptrOk q=true:=fun q hq=>by
  grind
 have h1:=lay_W h ht hl2 hm;unfold QaB;split
 ·rename_i hc
  refine⟨?_,h1.2 hc⟩;split
  ·exact h1.1.le (by omega)
  ·exact(h1.1.free (QgU hl k)).le (by omega)
 ·rename_i hc
  refine⟨h1.1.le (by omega),?_⟩;unfold Qw at hc⊢;split
  ·grind
  ·exact tgood0
def Qfo(h:w.W N)(ht:Qx t)(hk:k<16)(text:List UInt8):(Qp w t k text).1.W (N+15)/\Qx (Qp w t k text).2.1:=by
 have hm:max t.many.toNat (k+1)<=16:=by have:=ht.manyHi;omega
 have ho:=QfD w.st ht.root;unfold Qp;split
 ·split
  ·exact⟨h.le (by omega),ht⟩
  ·have:=Qrm h ht.root (k:=k) (QgU ho k) ho hm
   exact⟨this.1.le (by omega),this.2⟩
 ·split
  ·have:=Qrm h ht.root (k:=k) QdN ho hm
   exact⟨this.1.le (by omega),this.2⟩
  ·split
   ·have hw:=h.write text 0
    have:=Qrm hw.1 ht.root (k:=k) hw.2 ho hm;omega
   ·exact⟨h.le (by omega),ht⟩
theorem Qex{text:List UInt8}(h:(Qp w t k text).2.2=false):QcL w (Qp w t k text).1:=by
 unfold Qp at h⊢;split
 ·rename_i h1
  rw[if_pos h1] at h;split
  ·grind
  ·rename_i h2;rw[if_neg h2] at h;exact QhE h
 ·rename_i h1
  rw[if_neg h1] at h;split
  ·rename_i h2;rw[if_pos h2] at h;exact QhE h
  ·rename_i h2
   rw[if_neg h2] at h;split
   ·rename_i h3
    rw[if_pos h3] at h;have a:=QhE h;have b:=Pl.Qhc w text 0;have c:=Pl.Qfm w text 0;exact⟨a.1.trans c,a.2.1.trans b.1,a.2.2.trans b.2⟩
   ·exact⟨rfl,rfl,rfl⟩
theorem QmP{text:List UInt8}{level:Int}(h:(w.write text level).2.2=false):(w.write text level).1=w:=by
 unfold Pl.Sto.write at h⊢;cases hs:w.seek text level with
 |none=>rfl
 |some a=>
  rw[hs] at h;simp only[Pl.Sto.put] at h⊢
  grind
attribute [local irreducible] ASeq ADraw AWP Loc AStep Fg.PlanF Fg.Flts EndR
def ePut_c(g:Nat)(w:Pl.Sto)(N:Nat)(hN:N<=800000)(hw:w.W N)(t:Pl.Tree)(ht:Qx t)(k:Nat)(hk:k<16)(text:List UInt8)(htx:text.length<=Pm.big)(h1: ¬(Qj w.rows ((Qg w.st t).getD k Pl.hole)).1=text)(h2: ¬text=[]):
 DoesE AJ 38 [oS g w,.d (dTree t),.d (dI k),.d (dS text)] (hS g w) (gS g w) (fun x H=> ∃g',((Qp w t k text).2.2=false->g'=g)/\x= .tup [oS g' (Qp w t k text).1,.d (dTree (Qp w t k text).2.1),.d (dB (Qp w t k text).2.2)]/\H=hS g' (Qp w t k text).1):=by
 have hgood:=hw.good;have c1:=dWide w.st hgood t ht;have hl:=QdG w.st ht.hi;have ho:=QfD w.st ht.root
 have hfl:[Blk.arr 2 5 31 ((Qg w.st t).map rPtr)].all Blk.flat=true:=by
  simp[Blk.flat];intro x _;exact⟨rfl,rfl,rfl,rfl,rfl⟩
 have hd:=Pm.hid (Qp.eq_def w t k text);have hm1:=ht.manyLo;have hm2:=ht.manyHi;have hmx:(if((k:Int)+1)>t.many then((k:Int)+1) else t.many)=((max t.many.toNat (k+1):Nat):Int):=by split<;>omega
 have hmk:max t.many.toNat (k+1)<=16:=by omega
 have hmq:(max t.many.toNat (k+1)=t.many.toNat)↔((max t.many.toNat (k+1):Nat):Int)=t.many:=by omega
 generalize max t.many.toNat (k+1)=many at*;generalize Qp w t k text=res at*;generalize Qg w.st t=wd at*;have hkl:k<wd.length:=by omega
 have hr0:(wd.map rPtr)[0+(k:Int).toNat]? =some (rPtr (wd.getD k Pl.hole)):=by
  rw[Az,AS,Ah,A2,AE hkl];rfl
 have hoo:=QgU ho k;have hset: ∀p,(wd.map rPtr).set (0+(k:Int).toNat) (rPtr p)=(wd.set k p).map rPtr:=fun p=>by rw[Az,AS,List.map_set]
 have hsl: ∀p,(wd.set k p).length=16:=fun p=>by rw[Ar];exact hl
 have hT: ∀p,((wd.set k p).map rPtr).take 16=(wd.set k p).map rPtr:=fun p=>A9 (by simp[hl])
 have hso: ∀p,Pl.ptrOk p=true-> ∀q∈wd.set k p,Pl.ptrOk q=true:=fun p hp q hq=>by
  rcases List.mem_or_eq_of_mem_set hq with e|e
  ·exact ho q e
  ·rw[e];exact hp
 have c2:=al7R w.st hgood (wd.getD k Pl.hole) fun _=>hoo
 have hF: ∀(w1:Pl.Sto) (p:Pl.Ptr),Aq (QaB w1 t k many p wd=if(Qw w1 t (wd.set k p) many).2.2 then(if p=wd.getD k Pl.hole then(Qw w1 t (wd.set k p) many).1 else(Qw w1 t (wd.set k p) many).1.free (wd.getD k Pl.hole),(Qw w1 t (wd.set k p) many).2.1,true)
  else((Qw w1 t (wd.set k p) many).1,(Qw w1 t (wd.set k p) many).2.1,false)):=fun w1 p=>Pm.hid rfl
 generalize wd.getD k Pl.hole=old at*;rw[show w.st.1=w.rows from rfl] at c2;generalize Qj w.rows old=rb at*;obtain⟨was,wok⟩:=rb;simp only at c2 hd h1;have hw':=hw.le (M:=N+1) (by omega)
 have go: ∀(w1:Pl.Sto) (p:Pl.Ptr),w1.W (N+1)->Pl.ptrOk p=true->w1.gone=w.gone->Aq (res=QaB w1 t k many p wd)->
  ((was==text)=false/\(text==[])=false/\DoesE AJ 79 [oS g w,.d (dS text),.d (dI 0)] (hS g w) (gS g w) (fun x H=>x= .tup [oS g w1,.d (dPtr p),.d (dB true)]/\H=hS g w1))->
  DoesE AJ 38 [oS g w,.d (dTree t),.d (dI k),.d (dS text)] (hS g w) (gS g w) (fun x H=> ∃g',(res.2.2=false->g'=g)/\x= .tup [oS g' res.1,.d (dTree res.2.1),.d (dB res.2.2)]/\H=hS g' res.1):=by
  intro w1 p hw1 hp hgn hd hcase;rw[(hF w1 p).out] at hd;have cL:=pinS (X:=fun g'=> .tup [oS g' (Qw w1 t (wd.set k p) many).1,.d (dTree (Qw w1 t (wd.set k p) many).2.1),.d (dB (Qw w1 t (wd.set k p) many).2.2)]) (C:=fun g'=>(Qw w1 t (wd.set k p) many).2.2=false->g'=g) (eLay g w1 (N+1) (by omega) hw1 t ht.root (wd.set k p) (hsl p) (hso p hp) many hmk);have hWy:=(lay_W hw1 ht.root (hso p hp) hmk).1;have hst:=hset p;rw[<-show(AV.d (.sl true 5 (((wd.set k p).map rPtr).take 16)))= .d (tPtrs (wd.set k p)) by rw[hT]] at cL;generalize Qw w1 t (wd.set k p) many=y at*;clear hset hT hso hsl;generalize (wd.set k p).map rPtr=rows2 at*;obtain⟨w2,t2,ok2⟩:=y;simp only at cL hd hWy;rw[hgn] at cL;have v0:w2.rows.length=w.rows.length:=by rw[hWy.rows,hw.rows]
  have v1:w2.refs.length=w.refs.length:=by rw[hWy.refs,hw.refs]
  have v2:w2.last.length=w.last.length:=by rw[hWy.last,hw.last]
  have cf:=fun g'=>eFree2 g' w2 (N+1+13) (by omega) hWy old hoo
  have hWf:=hWy.free hoo;have u0:(w2.free old).rows.length=w.rows.length:=by rw[hWf.rows,hw.rows]
  have u1:(w2.free old).refs.length=w.refs.length:=by rw[hWf.refs,hw.refs]
  have u2:(w2.free old).last.length=w.last.length:=by rw[hWf.last,hw.last]
  generalize w2.free old=wf at*;clear hWf hWy hF;have hpo: ∃b,decide (p=old)=b:=⟨_,rfl⟩;obtain⟨bpo,hpo⟩:=hpo;have hdF:ok2=false->Aq (res=(w2,t2,false)):=fun e=>Pm.hid (by rw[hd.out,e];rfl)
  have hdT:ok2=true->bpo=true->Aq (res=(w2,t2,true)):=fun e e3=>Pm.hid (by rw[hd.out,e,if_pos rfl,if_pos (of_decide_eq_true (hpo.trans e3))])
  have hdN:ok2=true->bpo=false->Aq (res=(wf,t2,true)):=fun e e3=>Pm.hid (by rw[hd.out,e,if_pos rfl,if_neg (of_decide_eq_false (hpo.trans e3))])
  clear hd;obtain⟨hb1,hb3,c3⟩:=hcase;cases ok2;rotate_left;cases bpo
  all_goals
   refine kH fun gvs=>?_
   repeat' first|refine kS ?_|refine(QdY (ds:=[dTree t]) c1 cK hw rfl hfl (k:=?_))|refine qS (Qdf Ty.h rfl rfl hr0 rfl) ?_|refine qS (Qdh cK c2 hw) ?_|refine qS (Qg4 rfl rfl hmx) ?_|refine qS (Qei rfl rfl hb1) ?_|refine qS (Qeh rfl rfl hb1) ?_|refine qS (Qeh (m:=[]) rfl rfl hb3) ?_|refine QD [0,1,2,3,4] c3 cK (k:=kX ?_)|refine(QnS Ty.h rfl rfl hr0 hst (kk:=?_))|refine(Qa 9 (C:= .arr 2 5 31 rows2) (h:=?_))|(refine QD [0,1,2,3,4] cL cK (k:=?_);rintro _ _ ⟨g2,hg2,hC,rfl,rfl⟩;refine QdF (k:=?_))|refine qS (Qjc rfl rfl hpo) ?_|(refine QD [0,1,2,3,4] (cf _) cK (k:=?_);rintro _ _ ⟨g3,hg3,rfl,rfl⟩;refine QdF (k:=?_))|refine(Qa 6 (h:=Fg.awp_drawF [1] [2,3] ?_))|refine kU ?_|fail
  all_goals first
   |exact absurd (hb2.out.symm.trans ‹((many:Int)==t.many)=true›) (by decide)
   |(obtain rfl:=hC rfl
     rcases hg2 with hg2|⟨_,hg2⟩
     ·omega
     ·refine QN 5 (hx:=?_)
      rw[(hdF rfl).out]
      exact⟨_,fun _=>rfl,rfl,rfl⟩)
   |(have hg4:g<g3∨g3=g/\wf.gone.length=w.gone.length:=by
      rcases hg2 with h1|⟨h1,h2⟩<;>rcases hg3 with h3|⟨h3,h4⟩<;>first|(left;omega)|(right;exact⟨by omega,h4.trans h2⟩)
     rcases hg4 with hg4|⟨rfl,hg4⟩<;>(refine QN 5 (hx:=?_);rw[(hdN rfl rfl).out];refine⟨_,?_,rfl,rfl⟩;intro h;cases h))
   |(rcases hg2 with hg2|⟨rfl,hg2⟩<;>(refine QN 5 (hx:=?_);rw[(hdT rfl rfl).out];refine⟨_,?_,rfl,rfl⟩;intro h;cases h))
 have hb1: ∀b,decide (was=text)=b->(was==text)=b:=fun b h=>by rw[<-h];by_cases e:was=text<;>simp[e]
 replace hb1:=hb1 false (by simpa using h1)
 rw[if_neg h1] at hd;rw[if_neg h2] at hd;have hb3:(text==[])=false:=by simpa using h2
 have c3:=eWrite g w N (by omega) hw text htx 0;have hww:=hw.write text 0;have hwg:=Pl.Qfm w text 0;have hwf:=QmP (w:=w) (text:=text) (level:=0);generalize w.write text 0=y at*;obtain⟨w1,p1,ok1⟩:=y;simp only at c3 hd hww hwg hwf;cases ok1
 ·obtain rfl:w1=w:=hwf rfl
  simp only[A5,if_false] at hd;clear go hF hset hT hso hsl;refine kH fun gvs=>?_
  repeat' first|refine kS ?_|refine(QdY (ds:=[dTree t]) c1 cK hw rfl hfl (k:=?_))|refine qS (Qdf Ty.h rfl rfl hr0 rfl) ?_|refine qS (Qdh cK c2 hw) ?_|refine qS (Qg4 rfl rfl hmx) ?_|refine qS (Qei rfl rfl hb1) ?_|refine qS (Qeh rfl rfl hb1) ?_|refine qS (Qeh (m:=[]) rfl rfl hb3) ?_|refine QD [0,1,2,3,4] c3 cK (k:=kX ?_)|(show AWP _ (.region 13 _ _) _ _;refine(Qa 6 (h:=Fg.awp_drawF (id:=13) [1] [2,3] ?_)))|refine kU ?_|fail
  all_goals first|refine QN 5 (hx:=?_);rw[hd.out];exact⟨g,fun _=>rfl,rfl,rfl⟩
 simp only[if_true] at hd;exact go w1 p1 hww.1 hww.2 hwg hd ⟨hb1,hb3,c3⟩
