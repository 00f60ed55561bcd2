/- Of parts_card; no condition. -/
import Derived.Test.YtilenknaajikpaaGreatDoorP22
import Derived.Test.YtilenknaajikpaaGreatDoorP23
set_option linter.all false
set_option maxRecDepth 100000
set_option maxHeartbeats 16000000
open Bool renaming false_eq_true->A3
open Go.Proofs.Tryz renaming prog->A2,underlying5->A8,underlying22->AE
open Int renaming toNat_natCast->A1
open List renaming length_append->A0,length_cons->A4,length_nil->A5,getElem?_eq_some_iff->A6,getElem?_eq_getElem->A7,take_of_length_le->A9,getElem_cons_drop->AA,drop_of_length_le->AB,length_reverse->AC,getElem?_map->AD,cons_append->AF,length_drop->AG,length_take->AH,length_map->AJ,nil_append->AK
open Nat renaming le_refl->AI,zero_add->AL,le_trans->AM
namespace Go.Proofs.YtilenknaajikpaaGreatDoor
noncomputable section
open Go.RowKit
namespace Aw
variable{b:UInt8}{k i:Nat}{o x:List UInt8}{t:Pl.Tree}{w:Pl.Sto}
attribute [local irreducible] ASeq ADraw AWP Loc AStep Fg.PlanF Fg.Flts EndR
def ePut_b(g:Nat)(w:Pl.Sto)(N:Nat)(hN:N<=800000)(hw:w.W N)(t:Pl.Tree)(ht:Qx t)(k:Nat)(hk:k<16)(text:List UInt8)(htx:text.length<=Pm.big)(h1: ¬(Qj w.rows ((Qg w.st t).getD k Pl.hole)).1=text)(h2:text=[]):
 DoesE A2 38 [oS g w,.d (dTree t),.d (dI k),.d (dS text)] (hS g w) (gS g w) (fun x H=> ∃g',((Qp w t k text).2.2=false->g'=g)/\x= .tup [oS g' (Qp w t k text).1,.d (dTree (Qp w t k text).2.1),.d (dB (Qp w t k text).2.2)]/\H=hS g' (Qp w t k text).1):=by
 have hgood:=hw.good;have c1:=dWide w.st hgood t ht;have hl:=QdG w.st ht.hi;have ho:=QfD w.st ht.root
 have hfl:[Blk.arr 2 5 31 ((Qg w.st t).map rPtr)].all Blk.flat=true:=by
  simp[Blk.flat];intro x _;exact⟨rfl,rfl,rfl,rfl,rfl⟩
 have hd:=Pm.hid (Qp.eq_def w t k text);have hm1:=ht.manyLo;have hm2:=ht.manyHi;have hmx:(if((k:Int)+1)>t.many then((k:Int)+1) else t.many)=((max t.many.toNat (k+1):Nat):Int):=by split<;>omega
 have hmk:max t.many.toNat (k+1)<=16:=by omega
 have hmq:(max t.many.toNat (k+1)=t.many.toNat)↔((max t.many.toNat (k+1):Nat):Int)=t.many:=by omega
 generalize max t.many.toNat (k+1)=many at*;generalize Qp w t k text=res at*;generalize Qg w.st t=wd at*;have hkl:k<wd.length:=by omega
 have hr0:(wd.map rPtr)[0+(k:Int).toNat]? =some (rPtr (wd.getD k Pl.hole)):=by
  rw[AL,A1,AD,List.getD_eq_getElem?_getD,A7 hkl];rfl
 have hoo:=QgU ho k;have hset: ∀p,(wd.map rPtr).set (0+(k:Int).toNat) (rPtr p)=(wd.set k p).map rPtr:=fun p=>by rw[AL,A1,List.map_set]
 have hsl: ∀p,(wd.set k p).length=16:=fun p=>by rw[List.length_set];exact hl
 have hT: ∀p,((wd.set k p).map rPtr).take 16=(wd.set k p).map rPtr:=fun p=>A9 (by simp[hl])
 have hso: ∀p,Pl.ptrOk p=true-> ∀q∈wd.set k p,Pl.ptrOk q=true:=fun p hp q hq=>by
  rcases List.mem_or_eq_of_mem_set hq with e|e
  ·exact ho q e
  ·rw[e];exact hp
 have c2:=al7R w.st hgood (wd.getD k Pl.hole) fun _=>hoo
 have hF: ∀(w1:Pl.Sto) (p:Pl.Ptr),Hid (QaB w1 t k many p wd=if(Qw w1 t (wd.set k p) many).2.2 then(if p=wd.getD k Pl.hole then(Qw w1 t (wd.set k p) many).1 else(Qw w1 t (wd.set k p) many).1.free (wd.getD k Pl.hole),(Qw w1 t (wd.set k p) many).2.1,true)
  else((Qw w1 t (wd.set k p) many).1,(Qw w1 t (wd.set k p) many).2.1,false)):=fun w1 p=>Pm.hid rfl
 generalize wd.getD k Pl.hole=old at*;rw[show w.st.1=w.rows from rfl] at c2;generalize Qj w.rows old=rb at*;obtain⟨was,wok⟩:=rb;simp only at c2 hd h1;have hw':=hw.le (M:=N+1) (by omega)
 have go: ∀(w1:Pl.Sto) (p:Pl.Ptr),w1.W (N+1)->Pl.ptrOk p=true->w1.gone=w.gone->Hid (res=QaB w1 t k many p wd)->
  (w=w1/\Pl.hole=p/\(was==text)=false/\(text==[])=true)->
  DoesE A2 38 [oS g w,.d (dTree t),.d (dI k),.d (dS text)] (hS g w) (gS g w) (fun x H=> ∃g',(res.2.2=false->g'=g)/\x= .tup [oS g' res.1,.d (dTree res.2.1),.d (dB res.2.2)]/\H=hS g' res.1):=by
  intro w1 p hw1 hp hgn hd hcase;rw[(hF w1 p).out] at hd;have cL:=pinS (X:=fun g'=> .tup [oS g' (Qw w1 t (wd.set k p) many).1,.d (dTree (Qw w1 t (wd.set k p) many).2.1),.d (dB (Qw w1 t (wd.set k p) many).2.2)]) (C:=fun g'=>(Qw w1 t (wd.set k p) many).2.2=false->g'=g) (eLay g w1 (N+1) (by omega) hw1 t ht.root (wd.set k p) (hsl p) (hso p hp) many hmk);have hWy:=(lay_W hw1 ht.root (hso p hp) hmk).1;have hst:=hset p;rw[<-show(AV.d (.sl true 5 (((wd.set k p).map rPtr).take 16)))= .d (tPtrs (wd.set k p)) by rw[hT]] at cL;generalize Qw w1 t (wd.set k p) many=y at*;clear hset hT hso hsl;generalize (wd.set k p).map rPtr=rows2 at*;obtain⟨w2,t2,ok2⟩:=y;simp only at cL hd hWy;rw[hgn] at cL;have v0:w2.rows.length=w.rows.length:=by rw[hWy.rows,hw.rows]
  have v1:w2.refs.length=w.refs.length:=by rw[hWy.refs,hw.refs]
  have v2:w2.last.length=w.last.length:=by rw[hWy.last,hw.last]
  have cf:=fun g'=>eFree2 g' w2 (N+1+13) (by omega) hWy old hoo
  have hWf:=hWy.free hoo;have u0:(w2.free old).rows.length=w.rows.length:=by rw[hWf.rows,hw.rows]
  have u1:(w2.free old).refs.length=w.refs.length:=by rw[hWf.refs,hw.refs]
  have u2:(w2.free old).last.length=w.last.length:=by rw[hWf.last,hw.last]
  generalize w2.free old=wf at*;clear hWf hWy hF;have hpo: ∃b,decide (p=old)=b:=⟨_,rfl⟩;obtain⟨bpo,hpo⟩:=hpo;have hdF:ok2=false->Hid (res=(w2,t2,false)):=fun e=>Pm.hid (by rw[hd.out,e];rfl)
  have hdT:ok2=true->bpo=true->Hid (res=(w2,t2,true)):=fun e e3=>Pm.hid (by rw[hd.out,e,if_pos rfl,if_pos (of_decide_eq_true (hpo.trans e3))])
  have hdN:ok2=true->bpo=false->Hid (res=(wf,t2,true)):=fun e e3=>Pm.hid (by rw[hd.out,e,if_pos rfl,if_neg (of_decide_eq_false (hpo.trans e3))])
  clear hd;obtain⟨rfl,rfl,hb1,hb3⟩:=hcase;cases ok2;rotate_left;cases bpo
  all_goals
   refine kH fun gvs=>?_
   repeat' first|refine kS ?_|refine(QdY (ds:=[dTree t]) c1 cK hw rfl hfl (k:=?_))|refine qS (Qdf Ty.h rfl rfl hr0 rfl) ?_|refine qS (Qdh cK c2 hw) ?_|refine qS (Qg4 rfl rfl hmx) ?_|refine qS (Qei rfl rfl hb1) ?_|refine qS (Qeh rfl rfl hb1) ?_|refine qS (Qeh (m:=[]) rfl rfl hb3) ?_|refine(QnS Ty.h rfl rfl hr0 hst (kk:=?_))|refine(Qa 9 (C:= .arr 2 5 31 rows2) (h:=?_))|(refine QD [0,1,2,3,4] cL cK (k:=?_);rintro _ _ ⟨g2,hg2,hC,rfl,rfl⟩;refine QdF (k:=?_))|refine qS (Qjc rfl rfl hpo) ?_|(refine QD [0,1,2,3,4] (cf _) cK (k:=?_);rintro _ _ ⟨g3,hg3,rfl,rfl⟩;refine QdF (k:=?_))|refine(Qa 6 (h:=Fg.awp_drawF [1] [2,3] ?_))|refine kU ?_|fail
  all_goals first
   |exact absurd (hb2.out.symm.trans ‹((many:Int)==t.many)=true›) (by decide)
   |(obtain rfl:=hC rfl
     rcases hg2 with hg2|⟨_,hg2⟩
     ·omega
     ·refine QN 5 (hx:=?_)
      rw[(hdF rfl).out]
      exact⟨_,fun _=>rfl,rfl,rfl⟩)
   |(have hg4:g<g3∨g3=g/\wf.gone.length=w.gone.length:=by
      rcases hg2 with h1|⟨h1,h2⟩<;>rcases hg3 with h3|⟨h3,h4⟩<;>first|(left;omega)|(right;exact⟨by omega,h4.trans h2⟩)
     rcases hg4 with hg4|⟨rfl,hg4⟩<;>(refine QN 5 (hx:=?_);rw[(hdN rfl rfl).out];refine⟨_,?_,rfl,rfl⟩;intro h;cases h))
   |(rcases hg2 with hg2|⟨rfl,hg2⟩<;>(refine QN 5 (hx:=?_);rw[(hdT rfl rfl).out];refine⟨_,?_,rfl,rfl⟩;intro h;cases h))
 have hb1: ∀b,decide (was=text)=b->(was==text)=b:=fun b h=>by rw[<-h];by_cases e:was=text<;>simp[e]
 replace hb1:=hb1 false (by simpa using h1)
 rw[if_neg h1,if_pos h2] at hd;exact go w Pl.hole hw' QdN rfl hd ⟨rfl,rfl,hb1,by rw[h2];rfl⟩
section
variable{ops:Array Oper}{Q:Exit->St->Prop}{l:List Oper}{n:Nat}{env:List (Nat×AV)}{H H':List Blk}{d:Tmp}{ty:TypeId}{pos:String}{after:Array Edge}{gd:Option (Nat×Bool)}{xs:Array Operand}{tys:Array TypeId}{rows:List (List D)}{p:Nat}{m:Int}
def Qtd(k:Nat)(hr:RdOk rows)(hargs:xs.toList.map (aval env)=[.ptr k 0 0,.d (dI m)]:=by rfl)(hH:H[k]? =some (rdR rows p):=by rfl)(hp:p<=1000000:=by omega)(hm:m<=1000000:=by omega)
 (hw:awanted ops env ⟨some d,.call ⟨.value (.func 18),xs,tys⟩,ty,pos,after,gd⟩=some true:=by rfl) (hd:Nat.blt d n=true:=by rfl) (hg:gdOk ops n ⟨some d,.call ⟨.value (.func 18),xs,tys⟩,ty,pos,after,gd⟩=true:=by rfl)
 (hH': ∀R:List Blk->Prop,R H'->R (H.set k (rdR rows (p+1))):=by intro R hR;simp only[List.set_cons_zero,List.set_cons_succ];exact hR)
 (kk: ∀v:Nat,((v:Int)<m∨v=0)->QaM rows p m=v->ASeq A2 ops Q l ⟨n,(d,.d (dI v))::env,H'⟩):ASeq A2 ops Q (⟨some d,.call ⟨.value (.func 18),xs,tys⟩,ty,pos,after,gd⟩::l) ⟨n,env,H⟩:=by
 have e:=hH' (fun r=>r=H') rfl;obtain⟨h1,h2⟩:=pkv_b hr p m;refine QD [k] (ePick rows hr p hp m hm) Tryz.call18 (hargs:=hargs) (hks:=by simp[hH,Blk.ren,AV.renL,AV.ren]) (hnd:=by simp) (hw:=hw) (hd:=hd) (hg:=hg) (k:=?_);rintro _ _ ⟨rfl,rfl⟩;have:=kk (QaM rows p m).toNat (by omega) (by omega);rw[Int.toNat_of_nonneg h1] at this;rw[<-e] at this;show ASeq _ _ _ _ ⟨_,_,H.set k (rdR rows (p+1))++[]⟩;rw[List.append_nil];exact this
end
def TX(rows:List (List D))(fin:List UInt8×Nat)(p n many kind:Nat)(gvs:List Value)(m:Nat)(st:St):Prop:= ∃(out:List UInt8) (g p' f:Nat),m=many -out.length/\out.length<=n/\p'<=p+2+2*out.length/\many -out.length<=f/\Qbz rows many kind f (out,p')=fin/\
    st=⟨72,[(5,.osl 1 g 0 out.length),(6,.d (dI many)),(7,.d (dI kind)),(0,.ptr 0 0 0),(1000000,.gh [.ptr 0 0 0] gvs)],[rdR rows p',.arr g 1 5 (rBy out)]⟩
def QnW{rows:List (List D)}{fin:List UInt8×Nat}{p n many kind g p' f:Nat}{gvs:List Value}{out:List UInt8}{st:St}(hgo:Qbz rows many kind f (out,p')=fin)(hlt:out.length<many)(hf:many -out.length<=f)(hstep:Qa9 rows many kind (out,p')=(out++[b],p'+1))(h1:out.length<n)(hk:k=many -(out.length+1))
 (hs:st=⟨72,[(5,.osl 1 g 0 (out.length+1)),(6,.d (dI many)),(7,.d (dI kind)),(0,.ptr 0 0 0),(1000000,.gh [.ptr 0 0 0] gvs)],[rdR rows (p'+1),.arr g 1 5 (rBy out++[[.v (.int .u8 b.toNat)]])]⟩:=by simp only[keepE,go_sem];rfl) (h2:p'+1<=p+2+2*out.length+1:=by omega):TX rows fin p n many kind gvs k st:=by
 obtain⟨f',h3,h4⟩:=Qsb hgo hlt hf;rw[hstep] at h3 h4;refine⟨out++[b],g,p'+1,f',by rw[hk,A0];rfl,by rw[A0];exact h1,by rw[A0];simp only[A4,A5];omega,h3,h4,?_⟩;rw[hs,QgC,A0];rfl
variable{rows:List (List D)}{many kind v p':Nat}{out:List UInt8}
def st0(h:((kind:Int)==0)=true)(ev:QaM rows p' 256=v):Qa9 rows many kind (out,p')=(out++[Qby v],p'+1):=by
 unfold Qa9;rw[if_pos (by simpa using h),ev]
def st1(h0:((kind:Int)==0)=false)(h:((kind:Int)==1)=true)(ev:QaM rows p' 7=v):Qa9 rows many kind (out,p')=(out++[([97,98,126,48,58,59,61]:List UInt8).getD v 0],p'+1):=by
 have h0: ¬kind=0:=by simp only[beq_eq_false_iff_ne] at h0;omega
 have h1:kind=1:=by simp only[beq_iff_eq] at h;omega
 unfold Qa9;rw[if_neg h0,if_pos h1,ev];rfl
def st2(h0:((kind:Int)==0)=false)(h1:((kind:Int)==1)=false)(h:((kind:Int)==2)=true){v2:Nat}(ev:QaM rows p' 3=v)(ev2:QaM rows (p'+1) 6=v2):Qa9 rows many kind (out,p')=(Qbs many (Qby (97+v)) (v2+1) out,p'+1+1):=by
 have h0: ¬kind=0:=by simp only[beq_eq_false_iff_ne] at h0;omega
 have h1: ¬kind=1:=by simp only[beq_eq_false_iff_ne] at h1;omega
 have h2:kind=2:=by simp only[beq_iff_eq] at h;omega
 unfold Qa9;rw[if_neg h0,if_neg h1,if_pos h2];dsimp only;rw[ev,ev2];rfl
def st3(h0:((kind:Int)==0)=false)(h1:((kind:Int)==1)=false)(h:((kind:Int)==2)=false)(ev:QaM rows p' 2=v):Qa9 rows many kind (out,p')=(out++[Qby (v*97)],p'+1):=by
 have h0: ¬kind=0:=by simp only[beq_eq_false_iff_ne] at h0;omega
 have h1: ¬kind=1:=by simp only[beq_eq_false_iff_ne] at h1;omega
 have h2: ¬kind=2:=by simp only[beq_eq_false_iff_ne] at h;omega
 unfold Qa9;rw[if_neg h0,if_neg h1,if_neg h2];dsimp only;rw[ev]
def Qt2{k:Int}{r:List UInt8}(h:Qbs many b (k+1).toNat o=r)(hc:0<=k/\o.length<many):Qbs many b (k -1+1).toNat (o++[b])=r:=by
 rw[show(k+1).toNat=(k -1+1).toNat+1 by omega] at h;unfold Qbs at h;rw[if_pos hc.2] at h;exact h
def run_end{k:Int}(hc: ¬(0<=k/\o.length<many)):Qbs many b (k+1).toNat o=o:=by
 by_cases hk:0<=k
 ·rw[show(k+1).toNat=k.toNat+1 by omega]
  unfold Qbs;rw[if_neg (fun h=>hc ⟨hk,h⟩)]
 ·rw[show(k+1).toNat=0 by omega];rfl
theorem eTextX(rows:List (List D))(hr:RdOk rows)(p:Nat)(hp:p<=900000)(n:Nat)(hn:n<=1000):
 DoesE A2 39 [.ptr 0 0 0,.d (dI n)] [rdR rows p] [.ptr 0 0 0] (fun x H=>x= .d (dS (QcA rows p n).1)/\H=[rdR rows (QcA rows p n).2]):=by
 refine kH fun gvs=>?_
 repeat' first|refine kS ?_|(refine Qtd 0 hr (kk:=?_);intro v hv ev)|refine kU ?_|fail
 rename_i many hmany em;generalize v=kind at*;obtain⟨fin,hfin⟩: ∃r,QcA rows p n=r:=⟨_,rfl⟩;rw[hfin];have hgo:Qbz rows many kind many ([],p+1+1)=fin:=by rw[<-hfin];unfold QcA;rw[em,ev,A1,A1]
 clear em ev hfin;refine Qs (TX rows fin p n many kind gvs) [5,6,7,0,1000000] 2 many ⟨[],0,p+1+1,many,by simp,by simp,by simp,by simp,hgo,rfl⟩ (round:=?_);clear hgo;rintro m st ⟨out,g,p',f,rfl,hol,hp',hf,hgo,rfl⟩
 repeat refine kG ?_
 cases q3:decide ((out.length:Int)<(many:Int))
 ·repeat' first|refine kS ?_|refine qS (Qoy AE A8 Tryz.underlying9 rfl rfl rfl) ?_|refine kU ?_|fail
  all_goals first|refine Q3 1 (hx:=?_);have:=go_end hgo (by simp only[decide_eq_false_iff_not] at q3;exact fun h=>q3 (by exact_mod_cast h));subst this;exact⟨rfl,rfl⟩
 have hlt:out.length<many:=by simp only[decide_eq_true_eq] at q3;omega
 have hmn:many<=n:=by omega
 repeat' first|refine kS ?_|(refine Qtd 0 hr (kk:=?_);intro v hv ev)|(refine Qiv (QoK AE A8 rfl rfl rfl (by decide)) (k:=?_);refine QdF (hX:=fun _ hR=>hR) (k:=?_))|refine qS (Qin Ty.h rfl Ty.h rfl (l:=[97,98,126,48,58,59,61]) rfl rfl (by simp only[A4,A5];omega)) ?_|refine qS (QeA Tryz.underlying3 A8 rfl rfl (QuS _)) ?_|refine qS (Qd4 rfl rfl (by omega)) ?_|refine QU Ty.h rfl Ty.h (hb:=?_) (kk:=?_)|refine kU ?_|refine kV ?_ ?_<;>intro q|fail
 all_goals first|show((rBy out).length+1)*1<=140737488355328;rw[AJ];omega|refine Qn (many -(out.length+1)) (by omega) (QnW hgo hlt hf (st0 (by assumption) ev) (by omega) rfl)|refine Qn (many -(out.length+1)) (by omega) (QnW hgo hlt hf (st1 (by assumption) (by assumption) ev) (by omega) rfl)|refine Qn (many -(out.length+1)) (by omega) (QnW hgo hlt hf (st3 (by assumption) (by assumption) (by assumption) ev) (by omega) rfl)|skip
 rename_i v0 hv0 ev0;obtain⟨f',h3,h4⟩:=Qsb hgo hlt hf;rw[st2 (by assumption) (by assumption) (by assumption) ev0 ev] at h3 h4;have hb: ∃b:UInt8,Qby (97+(v0:Int))=b:=⟨_,rfl⟩;obtain⟨b,hb⟩:=hb;rw[hb];rw[hb] at h3 h4
 refine Qs (fun m st=> ∃(k:Int) (o:List UInt8) (g:Nat),m=(k+1).toNat/\k<=6/\o.length<=n/\(0<=k/\o.length=out.length∨out.length<o.length)/\Qbs many b (k+1).toNat o=Qbs many b (v+1) out/\
  st=⟨72,[(9,.d (dI k)),(8,.d (dU b)),(5,.osl 1 g 0 o.length),(6,.d (dI many)),(7,.d (dI kind)),(0,.ptr 0 0 0),(1000000,.gh [.ptr 0 0 0] gvs)],[rdR rows (p'+1+1),.arr g 1 5 (rBy o)]⟩) [9,8,5,6,7,0,1000000] 2 (v+1)
  ⟨v,out,g,by omega,by omega,hol,.inl ⟨by omega,rfl⟩,by rw[show((v:Int)+1).toNat=v+1 by omega],rfl⟩ (round:=?_)
 rintro m st ⟨k,o,g,rfl,hk6,hol2,hpr,hrun,rfl⟩
 repeat refine kG ?_
 by_cases hc:0<=k/\o.length<many
 ·repeat' first|refine kS ?_|refine QU Ty.h rfl Ty.h (hb:=?_) (kk:=?_)|refine kU ?_|refine kV ?_ ?_<;>intro q|fail
  all_goals first|exfalso;simp only[decide_eq_false_iff_not] at*;omega|show((rBy o).length+1)*1<=140737488355328;rw[AJ];omega|refine Qn k.toNat (by omega) ⟨k -1,o++[b],g+1,by omega,by omega,by rw[A0];simp only[A4,A5];omega,.inr (by rw[A0];simp only[A4,A5];omega),Qt2 hrun hc,?_⟩;simp only[keepE,go_sem,<-QgC,A0];rfl
 ·rw[<-hrun,run_end hc] at h3 h4
  repeat' first|refine kA ?_|refine kV ?_ ?_<;>intro q|fail
  all_goals first|exfalso;simp only[decide_eq_true_eq] at*;omega|refine Qn (many -o.length) (by simp only[decide_eq_false_iff_not,decide_eq_true_eq] at*;omega) ⟨o,g,p'+1+1,f',rfl,hol2,by simp only[decide_eq_false_iff_not,decide_eq_true_eq] at*;omega,h3,h4,?_⟩;simp[keepE,go_sem];done
def QcB(rows:List (List D))(p:Nat):List UInt8:=
 if QaM rows p 30=0 then([[],[97],[47,47],[47,97,47],[47,65],[47,97,47,98,47,99,47,97,47,98],[47,97,98,99,100,101],[47,97,47,47,98]]:List (List UInt8)).getD (QaM rows (p+1) 8).toNat []
 else([[47,97],[47,98],[47,97,47,98],[47,97,47,99],[47,98,47,97],[47,99],[47,97,47,98,47,99],[47,99,47,97],[47,97,98],[47]]:List (List UInt8)).getD (QaM rows (p+1) 10).toNat []
def ePathX(rows:List (List D))(hr:RdOk rows)(p:Nat)(hp:p<=900000):
 DoesE A2 17 [.ptr 0 0 0] [rdR rows p] [.ptr 0 0 0] (fun x H=>x= .d (dS (QcB rows p))/\H=[rdR rows (p+2)]):=by
 refine kH fun gvs=>?_
 repeat' first|refine kS ?_|(refine Qtd 0 hr (kk:=?_);intro v hv ev)|refine qS (Qd8 Ty.h rfl Ty.h) ?_|refine qS (Qdc Ty.h rfl Ty.h rfl rfl rfl (by omega) (QdM (f:=fun s=>[dS s]) [[],[97],[47,47],[47,97,47],[47,65],[47,97,47,98,47,99,47,97,47,98],[47,97,98,99,100,101],[47,97,47,47,98]] [] (n:=8) rfl (by omega))) ?_|refine qS (Qdc Ty.h rfl Ty.h rfl rfl rfl (by omega) (QdM (f:=fun s=>[dS s]) [[47,97],[47,98],[47,97,47,98],[47,97,47,99],[47,98,47,97],[47,99],[47,97,47,98,47,99],[47,99,47,97],[47,97,98],[47]] [] (n:=10) rfl (by omega))) ?_|refine kU ?_|refine kV ?_ ?_<;>intro q|fail
 all_goals first
  |(refine Q3 1 (hx:=?_)
    refine⟨?_,rfl⟩;unfold QcB
    first
     |(rw[if_pos (by assumption),A1];rfl)
     |(rw[if_neg (by simp only[beq_eq_false_iff_ne] at*;omega),ev,A1];rfl)
     |(rw[if_pos (by simp only[beq_iff_eq] at*;omega),ev,A1];rfl))
def ePut(g:Nat)(w:Pl.Sto)(N:Nat)(hN:N<=800000)(hw:w.W N)(t:Pl.Tree)(ht:Qx t)(k:Nat)(hk:k<16)(text:List UInt8)(htx:text.length<=Pm.big):
 DoesE A2 38 [oS g w,.d (dTree t),.d (dI k),.d (dS text)] (hS g w) (gS g w) (fun x H=> ∃g',((Qp w t k text).2.2=false->g'=g)/\x= .tup [oS g' (Qp w t k text).1,.d (dTree (Qp w t k text).2.1),.d (dB (Qp w t k text).2.2)]/\H=hS g' (Qp w t k text).1):=by
 by_cases h1:(Qj w.rows ((Qg w.st t).getD k Pl.hole)).1=text
 ·exact ePut_a g w N hN hw t ht k hk text htx h1
 by_cases h2:text=[]
 ·exact ePut_b g w N hN hw t ht k hk text htx h1 h2
 ·exact ePut_c g w N hN hw t ht k hk text htx h1 h2
def Qru: ∀(n:Nat) (s:List UInt8),∀x∈Qcs n s,x.length<=128
 |0,s,x,h=>by simp[Qcs] at h
 |n+1,s,x,h=>by
  unfold Qcs at h;split at h
  ·simp at h
  ·rcases List.mem_cons.1 h with rfl|h
   ·simp;omega
   ·exact Qru n _ x h
def QnZ{text:List UInt8}(h:(Qp w t k text).2.2=false)(g:Nat):oS g w=oS g (Qp w t k text).1:=by
 obtain⟨z1,z2,z3⟩:=Qex h;simp only[oS,z1,z2,z3]
def Qpu{l:List (List UInt8)}(h:l[i]? =some x):Qaw w t (l.drop i) i=if(Qp w t i x).2.2 then Qaw (Qp w t i x).1 (Qp w t i x).2.1 (l.drop (i+1)) (i+1) else((Qp w t i x).1,t,false):=by
 obtain⟨h1,h2⟩:=A6.1 h;rw[<-AA h1,h2];rfl
abbrev rowT(t:Pl.Tree):List AV:=[.d (dI t.root.pat),.d (dI t.root.birth),.d (dI t.root.size),.d (dI t.root.sum),.d (dI t.root.level),.d (dI t.depth),.d (dI t.many)]
attribute [local irreducible] Fk.PlanF Fk.Flts Fk.AStepM Fk.Grew Fk.Gs
def eBput(g:Nat)(w:Pl.Sto)(N:Nat)(hN:N<=700000)(hw:w.W N)(t:Pl.Tree)(ht:Qx t)(text:List UInt8)(htx:text.length<=1000000000000):
 DoesE A2 225 [oS g w,.d (dTree t),.d (dS text)] (hS g w) (gS g w) (fun x H=> ∃g',x= .tup [oS g' (Qa2 w t text).1,.d (dTree (Qa2 w t text).2.1),.d (dB (Qa2 w t text).2.2)]/\H=hS g' (Qa2 w t text).1):=by
 have hd:=Pm.hid (Qa2.eq_def w t text);have c1:=Qti text htx;have hp: ∀x∈QaK text,x.length<=128:=Qru _ _;generalize QaK text=l at*;generalize Qa2 w t text=res at*
 by_cases hl:16<l.length
 ·rw[if_pos hl] at hd
  refine kH fun gvs=>?_
  refine Qa 6 (h:=?_)
  repeat' first|refine kS ?_|(show AWP _ (.region 3 _ _) _ _;refine(Fg.awp_drawF (id:=3) [1] [2,3] ?_))|refine kU ?_|refine kV ?_ ?_<;>intro q|fail
  all_goals first|exact absurd hl (by simp at*;omega)|refine QN 5 (hx:=?_);rw[hd.out];exact⟨g,rfl,rfl⟩
 rw[if_neg hl] at hd;refine kH fun gvs=>?_
 repeat' first|refine kA ?_|refine kV ?_ ?_<;>intro q|fail
 all_goals first|exact absurd (by simp at*;omega) hl|skip
 refine Qs (fun m st=> ∃(i g':Nat) (wi:Pl.Sto) (ti:Pl.Tree),i<=l.length/\m=l.length -i/\Hid (Qaw w t l 0=Qaw wi ti (l.drop i) i)/\Hid (wi.W (N+15*i)/\Qx ti)/\(g<g'∨g'=g/\wi.gone.length=w.gone.length)/\
  st=⟨53,[(10,.d (dI i)),(9,.d (tStrs l)),(3,.ptr 5 0 0),(4,.ptr 6 0 0),(6,.ptr 7 0 0),(7,.ptr 8 0 0),(1000000,.gh (gS g w) gvs)],
   hS g' wi++[.row 0 (rowS g' wi),.row 0 (rowT ti),.row 0 zSt,.row 0 zTr]⟩) [10,9,3,4,6,7,1000000] 9 l.length
  ⟨0,g,w,t,by omega,rfl,Pm.hid rfl,Pm.hid ⟨hw,ht⟩,.inr ⟨rfl,rfl⟩,rfl⟩ (round:=?_)
 rintro m st ⟨i,g',wi,ti,hi,rfl,hF,hG,hg,rfl⟩;obtain⟨hW,hT⟩:=hG.out;simp only[hS,AF,AK]
 repeat refine kG ?_
 cases q:decide ((i:Int)<(l.length:Int))
 ·have hil:i=l.length:=by simp at q;omega
  have hF2:=hF.out;rw[hil,AB (AI _)] at hF2;rw[show Qaw wi ti [] l.length=(wi,ti,true) from rfl] at hF2;rw[hF2] at hd;simp only[if_true] at hd;have c3:=pinS (X:=fun g'=> .tup [oS g' (QJ wi ti l.length).1,.d (dTree (QJ wi ti l.length).2.1),.d (dB (QJ wi ti l.length).2.2)]) (C:=fun g2=>(QJ wi ti l.length).2.2=false->g2=g') (eCut g' wi (N+15*i) (by omega) hW ti hT l.length (by omega));have hWc:=(cut_W hW hT (many:=l.length) (by omega)).1;generalize QJ wi ti l.length=y at*;obtain⟨w2,t2,ok2⟩:=y;simp only at c3 hWc;clear hF hF2 hG;have v0:w2.rows.length=w.rows.length:=by rw[hWc.rows,hw.rows]
  have v1:w2.refs.length=w.refs.length:=by rw[hWc.refs,hw.refs]
  have v2:w2.last.length=w.last.length:=by rw[hWc.last,hw.last]
  repeat' first|refine kS ?_|(refine QD [0,1,2,3,4] c3 cK (k:=?_);rintro _ _ ⟨g2,hg2,hC,rfl,rfl⟩;refine QdF (k:=?_))|refine kU ?_|fail
  all_goals first
   |(have hg4:g<g2∨g2=g/\w2.gone.length=w.gone.length:=by
      rcases hg with h1|⟨h1,h2⟩<;>rcases hg2 with h3|⟨h3,h4⟩<;>first|(left;omega)|(right;exact⟨by omega,h4.trans h2⟩)
     rcases hg4 with hg4|⟨rfl,hg4⟩<;>(refine QN 5 (hx:=?_);rw[hd.out];exact⟨_,rfl,rfl⟩))
 have hil:i<l.length:=by simp at q;omega
 obtain⟨x,hx⟩: ∃x,l[i]? =some x:=⟨_,A7 hil⟩;have hr:=Qu (f:=fun s=>[dS s]) hx;have hxl:=hp x (List.mem_of_getElem? hx);have hs:=Qpu (w:=wi) (t:=ti) hx;have cP:=(ePut g' wi (N+15*i) (by omega) hW ti hT i (by omega) x (by unfold Pm.big;omega)).tag3;have hWc:=Qfo hW hT (k:=i) (by omega) x;have hsm:=QnZ (w:=wi) (t:=ti) (k:=i) (text:=x);have hsg:=Qex (w:=wi) (t:=ti) (k:=i) (text:=x);generalize Qp wi ti i x=y at*;obtain⟨w2,t2,ok2⟩:=y;simp only at cP hWc hs hsm hsg;have v0:w2.rows.length=w.rows.length:=by rw[hWc.1.rows,hw.rows]
 have v1:w2.refs.length=w.refs.length:=by rw[hWc.1.refs,hw.refs]
 have v2:w2.last.length=w.last.length:=by rw[hWc.1.last,hw.last]
 have hF2:=hF.out;rw[hs] at hF2;clear hF hs hx c1;cases ok2
 ·simp only[A3,if_false] at cP hF2
  rw[hF2] at hd;simp only[A3,if_false] at hd;have v3:w2.gone.length=wi.gone.length:=by rw[(hsg rfl).1]
  have hse:=hsm rfl g';clear hsm hsg hG
  repeat' first|refine kS ?_|refine qD (iy hr) ?_|(show AWP _ (.region 7 _ _) _ _;refine(Fk.awp_drawG (id:=7) [8,10,11,12,13] [7,14,15] [(12,.row 0 zSt),(13,.row 0 zTr)] [] 7 35 (.tup [oS g' w2,.d (dTree t2),.d (dB false)]) ?_))|refine(Fk.aw_fltA 9 ?_)|refine(Fk.aw_fltA 10 ?_)|refine Fk.aw_callM [0,1,2,3,4] cP cK (k:=kY ?_)|(show AWP _ (.region 9 _ _) _ _;refine(Qa 6 (h:=Fg.awp_drawF (id:=9) [1] [2,3] ?_)))|refine kU ?_|fail
  all_goals first|(rcases hg with hg|⟨rfl,hg⟩<;>(refine QN 5 (hx:=?_);rw[hd.out];exact⟨_,by rw[<-hse];rfl,rfl⟩))
 simp only[if_true] at cP hF2;clear hsm hsg hG
 repeat' first|refine kS ?_|refine qD (iy hr) ?_|(show AWP _ (.region 7 _ _) _ _;refine(Fk.awp_drawG (id:=7) [8,10,11,12,13] [7,14,15] [(12,.row 0 zSt),(13,.row 0 zTr)] [] 7 35 (.tup [oS (g'+1) w2,.d (dTree t2),.d (dB true)]) ?_))|refine(Fk.aw_fltA 9 ?_)|refine(Fk.aw_fltA 10 ?_)|refine Fk.aw_callM [0,1,2,3,4] cP cK (k:=kY ?_)|refine kU ?_|fail
 all_goals first|refine Qeu (l.length -(i+1)) [10,9,3,4,6,7,1000000] [0,1,2,3,4,5,6,7,8] (by omega) ⟨i+1,g'+1,w2,t2,by omega,rfl,Pm.hid hF2,Pm.hid ⟨hWc.1.le (by omega),hWc.2⟩,.inl (by omega),rfl⟩
def ePut11(g:Nat)(w:Pl.Sto)(N:Nat)(hN:N<=800000)(hw:w.W N)(t:Pl.Tree)(ht:Qx t)(k:Nat)(hk:k<16)(n:Qi)(hn:(Q9 n).length<=Pm.big):
 DoesE A2 41 [oS g w,.d (dTree t),.d (dI k),.d (dNode n)] (hS g w) (gS g w) (fun x H=>x= .tup [oS (if(Qp w t k (Q9 n)).2.2 then g+1 else g) (Qp w t k (Q9 n)).1,.d (dTree (Qp w t k (Q9 n)).2.1),.d (dB (Qp w t k (Q9 n)).2.2)]/\H=hS (if(Qp w t k (Q9 n)).2.2 then g+1 else g) (Qp w t k (Q9 n)).1):=by
 have c1:=Qpm n;have c2:=(ePut g w N (by omega) hw t ht k hk (Q9 n) hn).tag3;have hWc:=Qfo hw ht (k:=k) hk (Q9 n);have hsg:=Qex (w:=w) (t:=t) (k:=k) (text:=Q9 n);generalize Qp w t k (Q9 n)=y at*;generalize Q9 n=text at*;obtain⟨w2,t2,ok⟩:=y;simp only at c2 hWc hsg;have v0:w2.rows.length=w.rows.length:=by rw[hWc.1.rows,hw.rows]
 have v1:w2.refs.length=w.refs.length:=by rw[hWc.1.refs,hw.refs]
 have v2:w2.last.length=w.last.length:=by rw[hWc.1.last,hw.last]
 have v3:ok=false->w2.gone.length=w.gone.length:=fun e=>by rw[(hsg e).1]
 clear hsg hWc;cases ok<;>simp only[A3,if_false,if_true,forall_const] at c2 v3
 all_goals
  refine kH fun gvs=>?_
  refine Qa 6 (h:=?_);refine Qa 7 (h:=?_)
  repeat' first|refine kS ?_|(show AWP _ (.region 1 _ _) _ _;refine(Fg.awp_drawF (id:=1) [] [5,9,10] ?_))|refine Qfb [0,1,2,3,4] c2 cK (k:=kZ ?_)|refine kU ?_|fail
  all_goals first|refine QN 5 (hx:=?_);exact⟨rfl,rfl⟩
def Qtw{l:List (List UInt8)}(h:l[i]? =some x):Qaw w t (l.drop i) k=if(Qp w t k x).2.2 then Qaw (Qp w t k x).1 (Qp w t k x).2.1 (l.drop (i+1)) (k+1) else((Qp w t k x).1,t,false):=by
 obtain⟨h1,h2⟩:=A6.1 h;rw[<-AA h1,h2];rfl
def cut0_le(s:List UInt8):(QaS s).length<=s.length:=by
 unfold QaS;rw[AC];exact AM (List.dropWhile_suffix _).length_le (by rw[AC];exact AI _)
def Qbk(text:List UInt8)(a n:Nat):List (List UInt8):=(List.range n).map fun i=>QaS ((text.take ((a+i+1)*12)).drop ((a+i)*12))
def QaD(w:Pl.Sto)(n:Qi)(text:List UInt8)(a b:Nat):Pl.Sto×Qi×Bool:=
 ((Qaw w n.tree (Qbk text a (b+1 -a)) a).1,{n with size:=text.length,tree:=(Qaw w n.tree (Qbk text a (b+1 -a)) a).2.1},(Qaw w n.tree (Qbk text a (b+1 -a)) a).2.2)
abbrev rowN(n:Qi):List AV:=[.d (dI n.kind),.d (dI n.links),.d (dI n.size),.d (dI n.tree.root.pat),.d (dI n.tree.root.birth),.d (dI n.tree.root.size),.d (dI n.tree.root.sum),.d (dI n.tree.root.level),.d (dI n.tree.depth),.d (dI n.tree.many)]
abbrev zNd:List AV:=[.d (.v (.int .i64 0)),.d (.v (.int .i64 0)),.d (.v (.int .i64 0)),.d (.v (.int .i64 0)),.d (.v (.int .i64 0)),.d (.v (.int .i64 0)),.d (.v (.int .i64 0)),.d (.v (.int .i64 0)),.d (.v (.int .i64 0)),.d (.v (.int .i64 0))]
def ePut13(g:Nat)(w:Pl.Sto)(N:Nat)(hN:N<=700000)(hw:w.W N)(n:Qi)(ht:Qx n.tree)(text:List UInt8)(htx:text.length<=100000)(a b:Nat)(hab:a<=b)(hb:b<16)(hbl:b*12<=text.length):
 DoesE A2 232 [oS g w,.d (dNode n),.d (dS text),.d (dI a),.d (dI b)] (hS g w) (gS g w) (fun x H=>x= .tup [oS (g+1) (QaD w n text a b).1,.d (dNode (QaD w n text a b).2.1),.d (dB (QaD w n text a b).2.2)]/\H=hS (g+1) (QaD w n text a b).1):=by
 refine DoesE.tag (X:=fun g'=> .tup [oS g' (QaD w n text a b).1,.d (dNode (QaD w n text a b).2.1),.d (dB (QaD w n text a b).2.2)]) (C:=fun _=>True) ?_ Qgz;have hl:(Qbk text a (b+1 -a)).length=b+1 -a:=by simp[Qbk]
 have hp: ∀i,i<b+1 -a->(Qbk text a (b+1 -a))[i]? =some (QaS ((text.take ((a+i+1)*12)).drop ((a+i)*12))):=fun i hi=>by
  unfold Qbk;rw[AD,List.getElem?_range hi];rfl
 have hd:Hid (∀r,Qaw w n.tree (Qbk text a (b+1 -a)) a=r->QaD w n text a b=(r.1,{n with size:=text.length,tree:=r.2.1},r.2.2)):=Pm.hid fun r hr=>by rw[<-hr];rfl
 generalize Qbk text a (b+1 -a)=l at*;generalize QaD w n text a b=res at*;obtain⟨kind,links,size,t⟩:=n;simp only at ht hd;obtain⟨c,hc⟩: ∃c,c=b+1 -a:=⟨_,rfl⟩;rw[<-hc] at hl hp;have hba:b+1=a+c:=by omega
 refine kH fun gvs=>?_
 repeat refine kA ?_
 refine Qs (fun m st=> ∃(i g':Nat) (wi:Pl.Sto) (ti:Pl.Tree),i<=c/\m=c -i/\Hid (Qaw w t l a=Qaw wi ti (l.drop i) (a+i))/\Hid (wi.W (N+15*i)/\Qx ti)/\(g<g'∨g'=g/\wi.gone.length=w.gone.length)/\
  st=⟨57,[(13,.d (dI (a+i:Nat))),(2,.d (dS text)),(4,.d (dI b)),(5,.ptr 5 0 0),(6,.ptr 6 0 0),(10,.ptr 7 0 0),(11,.ptr 8 0 0),(1000000,.gh (gS g w) gvs)],
   hS g' wi++[.row 0 (rowS g' wi),.row 0 (rowN ⟨kind,links,text.length,ti⟩),.row 0 zSt,.row 0 zNd]⟩) [13,2,4,5,6,10,11,1000000] 9 c
  ⟨0,g,w,t,by omega,rfl,Pm.hid rfl,Pm.hid ⟨hw,ht⟩,.inr ⟨rfl,rfl⟩,rfl⟩ (round:=?_)
 rintro m st ⟨i,g',wi,ti,hi,rfl,hF,hG,hg,rfl⟩;obtain⟨hW,hT⟩:=hG.out;simp only[hS,AF,AK]
 repeat refine kG ?_
 cases q:decide (((a+i:Nat):Int)<=(b:Int))
 ·have hil:i=c:=by simp at q;omega
  have hF2:=hF.out;rw[hil,AB (by omega)] at hF2
  replace hd:=Pm.hid (hd.out _ (hF2.trans rfl))
  have v0:wi.rows.length=w.rows.length:=by rw[hW.rows,hw.rows]
  have v1:wi.refs.length=w.refs.length:=by rw[hW.refs,hw.refs]
  have v2:wi.last.length=w.last.length:=by rw[hW.last,hw.last]
  clear hF hF2 hG hp
  repeat' first|refine kS ?_|(show AWP _ (.region 11 _ _) _ _;refine(Qa 6 (h:=Fg.awp_drawF (id:=11) [1] [2,3] ?_)))|refine kU ?_|fail
  all_goals first|(rcases hg with hg|⟨rfl,hg⟩<;>(refine QN 5 (hx:=?_);rw[hd.out];exact⟨_,trivial,rfl,rfl⟩))
 have hil:i<c:=by simp at q;omega
 have hx:=hp i hil;have hs:=Qtw (w:=wi) (t:=ti) (k:=a+i) hx;have hmn:(if(((a+i:Nat):Int)+1)*12<(text.length:Int) then(((a+i:Nat):Int)+1)*12 else(text.length:Int))=((min ((a+i+1)*12) text.length:Nat):Int):=by split<;>omega
 have htk:(text.take (((min ((a+i+1)*12) text.length:Nat):Int)).toNat).drop ((((a+i:Nat):Int))*12).toNat=(text.take ((a+i+1)*12)).drop ((a+i)*12):=by
  have e1:(((min ((a+i+1)*12) text.length:Nat):Int)).toNat=min ((a+i+1)*12) text.length:=by omega
  have e2:((((a+i:Nat):Int))*12).toNat=(a+i)*12:=by omega
  rw[e1,e2,<-List.take_take,A9 (AI text.length)]
 have cc:=al10Cut ((text.take ((a+i+1)*12)).drop ((a+i)*12)) (by simp only[AG,AH];unfold Pm.big;omega)
 have hcl:(QaS ((text.take ((a+i+1)*12)).drop ((a+i)*12))).length<=100000:=by
  refine AM (cut0_le _) ?_;simp only[AG,AH];omega
 rw[<-htk] at cc hs hcl;have hmi:min ((a+i+1)*12) text.length<=text.length/\(a+i)*12<=min ((a+i+1)*12) text.length:=by omega
 clear htk;generalize min ((a+i+1)*12) text.length=ed at*;generalize QaS ((text.take ((ed:Nat):Int).toNat).drop ((((a+i:Nat):Int))*12).toNat)=x at*;have cP:=(ePut g' wi (N+15*i) (by omega) hW ti hT (a+i) (by omega) x (by unfold Pm.big;omega)).tag3;have hWc:=Qfo hW hT (k:=a+i) (by omega) x;have hsm:=QnZ (w:=wi) (t:=ti) (k:=a+i) (text:=x);have hsg:=Qex (w:=wi) (t:=ti) (k:=a+i) (text:=x);generalize Qp wi ti (a+i) x=y at*;obtain⟨w2,t2,ok2⟩:=y;simp only at cP hWc hs hsm hsg;have v0:w2.rows.length=w.rows.length:=by rw[hWc.1.rows,hw.rows]
 have v1:w2.refs.length=w.refs.length:=by rw[hWc.1.refs,hw.refs]
 have v2:w2.last.length=w.last.length:=by rw[hWc.1.last,hw.last]
 have hF2:=hF.out;rw[hs] at hF2;clear hF hs hx hp;cases ok2
 ·simp only[A3,if_false] at cP hF2
  replace hd:=Pm.hid (hd.out _ hF2)
  simp only at hd;have v3:w2.gone.length=wi.gone.length:=by rw[(hsg rfl).1]
  have hse:=hsm rfl g';clear hsm hsg hG
  repeat' first|refine kS ?_|refine qD (Qd4 rfl rfl (by omega)) ?_|refine qS (Qd4 rfl rfl (by omega)) ?_|refine qS (QkL rfl rfl hmn) ?_|refine qD (Qg2 rfl rfl rfl rfl (by omega) (by omega) (by omega)) ?_|(show AWP _ (.region 6 _ _) _ _;refine(Fk.awp_drawG (id:=6) [11,13,14,15,16] [10,17,18] [(15,.row 0 zSt),(16,.row 0 zTr)] [] 10 44 (.tup [oS g' w2,.d (dTree t2),.d (dB false)]) ?_))|refine(Fk.aw_fltA 9 ?_)|refine(Fk.aw_fltA 10 ?_)|refine Fk.aw_callM [0,1,2,3,4] cP cK (k:=kY ?_)|(show AWP _ (.region 8 _ _) _ _;refine(Qa 6 (h:=Fg.awp_drawF (id:=8) [1] [2,3] ?_)))|refine kU ?_|fail
  all_goals first|(rcases hg with hg|⟨rfl,hg⟩<;>(refine QN 5 (hx:=?_);rw[hd.out];exact⟨_,trivial,by rw[<-hse];rfl,rfl⟩))
 simp only[if_true] at cP hF2;clear hsm hsg hG
 repeat' first|refine kS ?_|refine qD (Qd4 rfl rfl (by omega)) ?_|refine qS (Qd4 rfl rfl (by omega)) ?_|refine qS (QkL rfl rfl hmn) ?_|refine qD (Qg2 rfl rfl rfl rfl (by omega) (by omega) (by omega)) ?_|(show AWP _ (.region 6 _ _) _ _;refine(Fk.awp_drawG (id:=6) [11,13,14,15,16] [10,17,18] [(15,.row 0 zSt),(16,.row 0 zTr)] [] 10 44 (.tup [oS (g'+1) w2,.d (dTree t2),.d (dB true)]) ?_))|refine(Fk.aw_fltA 9 ?_)|refine(Fk.aw_fltA 10 ?_)|refine Fk.aw_callM [0,1,2,3,4] cP cK (k:=kY ?_)|refine kU ?_|fail
 all_goals first|refine Qeu (c -(i+1)) [13,2,4,5,6,10,11,1000000] [0,1,2,3,4,5,6,7,8] (by omega) ⟨i+1,g'+1,w2,t2,by omega,rfl,Pm.hid hF2,Pm.hid ⟨hWc.1.le (by omega),hWc.2⟩,.inl (by omega),rfl⟩
