/- Of fby_card; no condition. -/
import Derived.Test.YtfmnpmhadmcdkaaGreatDoorT07
import Derived.Test.YtfmnpmhadmcdkaaGreatDoorT08
import Derived.Laws.BytesArg
import Derived.Lib.SlBytesConst
import Derived.Deep.AppendLies
import Derived.StillTailTactics
set_option linter.all false
set_option maxRecDepth 100000
set_option maxHeartbeats 8000000
open BitVec renaming ofInt->AF
open Go renaming World->A5,Calls->A9,TypeId->AA,Value->Aa,Operand->Ae
open Go.IntKind renaming i64->Ay
open Go.Lib renaming byteCells_length->AI,atoiAll->AN,IsBuilder->AP,byteCells_append->AZ,byteCells->Ab,BuilderAt->An
open Go.Op renaming operands->Az,intBits->B0
open Go.Proofs.Tryz renaming prog->A1,underlying5->A4,ntmps61->A8,results244->AB,func61->AE,underlying3->AH,ntmps179->AO,func179->AS,ntmps57->Ag,underlying22->Aj,func57->Al,ntmps241->Am,ntmps245->Ao,ntmps244->Ap,func241->Au,func245->Av,func244->Ax
open Go.RowKit renaming Below->A7,Hid->AY
open Go.RowKit.Below renaming refl->AK
open Go.Sem renaming run_bind->Af
open Go.Value renaming int->Aq
open Go.World renaming freeze->AR
open Int renaming emod_lt_of_pos->A6,emod_nonneg->AC
open List renaming length_append->A2,take_succ_eq_append_getElem->A3,length_cons->AG,length_nil->AJ,getD_eq_getElem?_getD->AL,getElem?_eq_some_iff->AM,getElem_mem->AQ,take_of_length_le->AT,length_map->AW,length_singleton->AX,mem_cons_self->Ad,getElem?_map->Ai,take_length->Ak,map_map->Ar
open Nat renaming le_refl->A0,lt_of_lt_of_le->AD,mul_assoc->Ac,le_of_lt->Ah,zero_mul->As,mod_lt->B5
open Option.some renaming inj->AU,injEq->B6
open Or renaming inr->B7
namespace Go.Proofs.YtfmnpmhadmcdkaaGreatDoor
noncomputable section
section
open Go.RowKit
namespace Aw
def Qch(a b:Int):Int:=((a.toNat^^^b.toNat:Nat):Int)
def xorI_nn(a b:Int):0<=Qch a b:=by unfold Qch;omega
abbrev dU(b:UInt8):D:= .v (.int .u8 b.toNat)
abbrev rBy(l:List UInt8):List (List D):=l.map fun b=>[dU b]
abbrev dBy(l:List UInt8):D:= .sl true 1 (rBy l)
section
variable{P:Program}{dst:Option Tmp}{ty:AA}{pos:String}{after:Array Edge}{gd:Option (Nat×Bool)}{env:List (Nat×AV)}{H:List Blk}
theorem loc_xor{T T':AA}{x y:Ae}{a b:Int}(hx:aval env x= .d (.v (.int .i64 a)))(hy:aval env y= .d (.v (.int .i64 b)))(ha:0<=a/\a<4611686018427387904)(hb:0<=b/\b<4611686018427387904):
 Loc P ⟨dst,.binOp .xor T x y T',ty,pos,after,gd⟩ env H (.d (.v (.int .i64 (Qch a b)))) none:=
 loc_bin' (X:= .int .i64 a) (Y:= .int .i64 b) (by rw[hx];rfl) (by rw[hy];rfl) fun w=>by
  rw[Af,Qea,Result.andThen_ok];have e1:(AF 64 a).toNat=a.toNat:=by grind
  have e2:(AF 64 b).toNat=b.toNat:=by grind
  have h3:a.toNat^^^b.toNat<2^62:=Nat.xor_lt_two_pow (by omega) (by omega);have h4:(AF 64 a^^^AF 64 b).toNat=a.toNat^^^b.toNat:=by grind
  have h5:=Pm.Qgm (Qch a b) (by unfold Qch;omega) (by unfold Qch;omega);unfold Qch at h5⊢;show(B0 .xor .i64 a b).run P w=_;unfold B0;show Result.ok (Aq .i64 (Ay.wrap ((AF 64 a^^^AF 64 b).toNat:Nat))) w=_
  grind
theorem Qh9{T e:AA}{F E:TyF}{u v:Ae}{κ:IntKind}{i:Int}{l:List UInt8}(hT:tyf P T=some F)(he:F.elem=some e)(hE:tyf P e=some E)(hn:E.size=1)(hu:aval env u= .d (dBy l))(hv:aval env v= .d (.v (.int κ i)))(h0:0<=i/\i<l.length):
 Loc P ⟨dst,.indexAddr T u v,ty,pos,after,gd⟩ env H (.d (.pd [dU (l.getD i.toNat 0)])) none:=by grind [QcV]
theorem QhN{Ts Td e T0:AA}{u:Ae}{k g n:Nat}{l:List UInt8}(h1:P.underlying Ts=some (.slice e))(h2:P.underlying e=some (.int .u8))(h3:P.underlying Td=some .string)
 (hu:aval env u= .osl k g 0 n) (hk:H[k]? =some (.arr g 1 T0 (rBy l))) (hn:l.length=n):
 Loc P ⟨dst,.convert Ts Td u,ty,pos,after,gd⟩ env H (.d (dS l)) none:=
 QQ fun σ S H' a w hB hop hag=>by
  have h:=hop u (by simp[Az]);rw[hu] at h;generalize hv:a.eval u=v at h;cases h with
  |osl _ _ _ _ _ _ g' sz' T' rows' hk' hg hh=>
   have hke:H'[k]? =some (.arr g 1 T0 (rBy l)):=by
    rcases hag k _ hk with h|h
    ·exact h
    grind
   rw[hk'] at hke;obtain⟨rfl,rfl,rfl,rfl⟩:g'=g/\sz'=1/\T'=T0/\rows'=rBy l:=by grind
   obtain⟨_,hbk⟩:=hB k _ hk';refine⟨.string ⟨l.toArray⟩,?_,.d _ _ (.v _)⟩;have hs:strOfNums (l.map fun b=>(b.toNat:Int))=⟨l.toArray⟩:=by unfold strOfNums;rw[Ar];simp[Function.comp_def]
   rcases(hh rfl).2 with⟨b,cap,cs,T,hb,_,_,rfl,hc,_⟩|⟨hb,hl,rfl⟩
   ·rcases hbk with⟨b',cs',hb',hc',hrel⟩|⟨hb',_⟩
    rotate_left
    ·grind
    rw[hb] at hb';obtain rfl:=AU hb'
    have hr:=run_convert_bytes_arg (P:=P) w Ts e h1 h2 b 0 n cap (l.map fun b=>(b.toNat:Int)) (by simp[hn]) (fun i hi=>by
     obtain⟨u,hu,hr⟩:=hrel i 0 [dU l[i]] (dU l[i]) (by grind) rfl;cases hr
     grind [cell_of_row]) Td h3
    simp only[execOp,hv,hr,hs,Af,As];rfl
   ·have hl0:l=[]:=List.eq_nil_iff_length_eq_zero.2 (by omega)
    subst hl0;have hr:=run_convert_bytes_nil (P:=P) w Ts e h1 h2 n 0 Td h3;subst hl;simp only[execOp,hv,hr,Af];rfl
theorem QnO{T e T0:AA}{u:Ae}{k g n:Nat}{rows:List (List D)}(h1:P.underlying T=some (.slice e))(h2:P.underlying e=some (.int .u8))(hu:aval env u= .osl k g 0 n)(hk:H[k]? =some (.arr g 1 T0 rows))(hn:rows.length=n)(hn0:0<n):
 Eff P ⟨dst,.convert T T u,ty,pos,after,gd⟩ env H (.d (.sl true 1 rows)) (H.set k (.arr (g+1) 1 T0 [])):=by
 intro B σ S a w hB hS hop K Q kk;have h:=hop u (by simp[Az]);rw[hu] at h;generalize hv:a.eval u=v at h;have hkl:k<H.length:=(AM.1 hk).1;cases h with
 |osl _ _ _ _ _ _ g' sz' T' rows' hk' hg hh=>
  rw[hk] at hk';obtain⟨rfl,rfl,rfl,rfl⟩:g=g'/\1=sz'/\T0=T'/\rows=rows':=by grind
  obtain⟨hlen,hbk⟩:=hS.blk k _ hk;rcases(hh rfl).2 with⟨b,cap,cs,T',hb,hcap,_,rfl,hc,_⟩|⟨hb,hl,_⟩;rotate_left
  ·omega
  rcases hbk with⟨b',cs',hb',hc',hrel⟩|⟨hb',_⟩;rotate_left
  ·grind
  rw[hb] at hb';obtain rfl:=AU hb';rw[As] at hv
  have hw1: ∀j,j≠b->(w.freeze ⟨b,cs'.size,none⟩ 1).heap[j]? =w.heap[j]? :=fun j hj=>by
   unfold AR;grind
  have hw2:(w.freeze ⟨b,cs'.size,none⟩ 1).heap[b]? =some (.cells cs' T0 (cs'.size,cs'.size+1)):=by
   unfold AR;grind
  have hsz:(w.freeze ⟨b,cs'.size,none⟩ 1).heap.size=w.heap.size:=by
   unfold AR;grind
  have hrest:(w.freeze ⟨b,cs'.size,none⟩ 1).os=w.os/\(w.freeze ⟨b,cs'.size,none⟩ 1).tape=w.tape/\(w.freeze ⟨b,cs'.size,none⟩ 1).output=w.output:=by
   unfold AR;grind
  have hsh:w.shape? b=some (T0,cs'.size):=by grind [World.shape?]
  have hrun:(execOp a.eval ⟨dst,.convert T T u,ty,pos,after,gd⟩).run P w= .ok (.value (.slice (some ⟨b,0,none⟩) n cap)) (w.freeze ⟨b,cs'.size,none⟩ 1):=by
   simp[execOp,hv,convert,run_underlying h1,run_underlying h2,markStringish,hsh]
  generalize w.freeze ⟨b,cs'.size,none⟩ 1=w' at*;obtain⟨q1,q2,q3⟩:=hrest;obtain⟨p1,p2,p3⟩:=hS.σUp k b hkl hb;have hS': ∀c,S c->c≠b:=fun c hc e=>p2 (e▸hc)
  have hget: ∀j,j≠k->(H.set k (.arr (g+1) 1 T0 []))[j]? =H[j]? :=fun j hj=>List.getElem?_set_ne (fun e=>hj e.symm)
  have hgk:(H.set k (.arr (g+1) 1 T0 []))[k]? =some (.arr (g+1) 1 T0 []):=List.getElem?_set_self hkl;have hinj: ∀j,j≠k->j<H.length->σ j≠some b:=fun j hj hl e=>hj (hS.inj j k b hl hkl e hb)
  have hlt: ∀{j:Nat} {C:Blk},H[j]? =some C->j<H.length:=fun h=>(AM.1 h).1
  have ev:Ev σ S H w (upS σ k none) (fun c=>S c∨c=b) (H.set k (.arr (g+1) 1 T0 [])) w':=by
   refine⟨fun c h=> .inl h,fun c h=>hw1 c (hS' c h),fun j g1 cells hj=>?_,fun j g1 sz T1 r1 hj=>?_,fun j g1 l hj=>?_⟩
   ·grind [QZ]
   ·grind [QZ]
   grind [QZ]
  have hσ: ∀j c,j<(H.set k (.arr (g+1) 1 T0 [])).length->upS σ k none j=some c->j≠k/\j<H.length/\σ j=some c:=fun j c hj hc=>by
   grind [Qdc,QZ]
  have sm:Sm B (upS σ k none) (fun c=>S c∨c=b) (H.set k (.arr (g+1) 1 T0 [])) w':=by
   refine⟨q1.trans hS.os,q2.trans hS.tape,q3.trans hS.output,by rw[hsz];exact hS.size,fun c hc ho=>?_,fun c h=> .inl (hS.sLo c h),fun c h=>?_,fun j c hj hc=>?_,fun j j' c hj hj' hc hc'=>?_,fun j C hj=>?_⟩
   ·rw[hw1 c fun e=>by grind];exact hS.keep c hc ho
   ·rw[hsz]
    rcases h with h|h
    ·exact hS.sUp c h
    grind
   ·obtain⟨hjk,hl,hc⟩:=hσ j c hj hc
    obtain⟨r1,r2,r3⟩:=hS.σUp j c hl hc
    grind
   ·obtain⟨_,hl,hc⟩:=hσ j c hj hc
    obtain⟨_,hl',hc'⟩:=hσ j' c hj' hc';exact hS.inj j j' c hl hl' hc hc'
   ·by_cases hjk:j=k
    ·subst hjk
     rw[hgk] at hj;obtain rfl:=AU hj;exact⟨fun r hr=>(by cases hr),.inr ⟨Qdc _ _ _,rfl⟩⟩
    ·rw[hget j hjk] at hj
     exact(hS.blk j C hj).mono ev (QZ hjk) fun c hc=>hw1 c fun e=>hinj j hjk (hlt hj) (e▸hc)
  unfold Oper.wp;rw[hrun];refine kk _ w' _ _ sm (.d _ _ ?_) ev;subst hn;refine .sl true 1 rows b 0 cap (fun i j=>(cs'[i*1+j]?).getD undef) (.inr rfl) hlen (fun _=>hcap) (fun i j r d hi hj=>?_) fun i j r d hi hj=>?_
  ·grind [cell_of_row]
  ·obtain⟨u,hu,hr⟩:=hrel i j r d hi hj
   rw[hu];exact hr.mono (fun c h=> .inl h) fun c h=>hw1 c (hS' c h)
end
end Aw
end
section
open Go.RowKit
namespace Pm
open Pl (dec dch inR Ptr Tree Root hole ptrHole ptrOk)
def Qqj(o:Option Str):optStr o= .tuple #[.string ⟨(o.getD []).toArray⟩,.bool o.isSome]:=by cases o<;>rfl
end Pm
end
section
open Go.RowKit
namespace Pm
theorem Qo7{w:A5}{base size n:Nat}{e:AA}{v:Aa}{xs:List Aa}(h:w.ownsRow base e size v n xs): ∃A c,v= .slice A n c:=by
 obtain⟨_,⟨hv,hn⟩|⟨g,cap,cur,hv,_⟩⟩:=h
 ·subst hn;exact⟨none,0,hv⟩
 ·exact⟨_,cap,hv⟩
section
variable{b3 base k:Nat}{l:List Disk}{v0:Aa}{wr wx wy:A5}{D D':Nat->Bool}{rx ry:Nat->Aa}
end
end Pm
end
section
open Go.RowKit
namespace Pm
open Pl (dec dch inR Ptr Tree Root hole ptrHole ptrOk)
theorem imIn(n a b:Int)(w:A5):A9 A1 57 #[.int .i64 n,.int .i64 a,.int .i64 b] w fun e w'=>e= .returned (.bool (inR n a b))/\w=w':=by
 by_cases h1:a<=n
 ·by_cases h2:n<=b
  ·have hf:=hid (show inR n a b=true by grind [inR])
   go_enter Al,Ag
   go_wp2
   go_ret
   exact⟨Qds hf.out.symm,rfl⟩
  ·have hf:=hid (show inR n a b=false by simp[inR,h2])
   have h3:b<n:=by omega
   clear h2
   go_enter Al,Ag
   go_wp2
   go_ret
   exact⟨Qds (by rw[hf.out,decide_eq_false (by omega)]),rfl⟩
 ·have hf:=hid (show inR n a b=false by simp[inR,h1])
  have h3:n<a:=by omega
  clear h1
  go_enter Al,Ag
  go_wp2
  go_ret
  exact⟨Qds hf.out.symm,rfl⟩
def Qi5(p:Ptr)(w:A5):A9 A1 62 #[vptr p] w fun e w'=>e= .returned (.bool (ptrHole p))/\A7 w.heap.size w w':=by
 obtain⟨pat,birth,size,sum,level⟩:=p;unfold vptr;dsimp only
 go_enter Tryz.func62,Tryz.ntmps62
 go_wp2
 all_goals(go_ret;exact⟨Qds (by simp[ptrHole,hole, *]),bnew _ _⟩)
def imRow(n:Int)(w:A5):A9 A1 113 #[.int .i64 n] w fun e w'=>e= .returned (.bool (inR n 8 63))/\w=w':=by
 go_enter Tryz.func113,Tryz.ntmps113
 go_wp2_with (go_at_call 57;refine(imIn n 8 63 w).mono ?_;rintro e w' ⟨rfl,rfl⟩)
 go_ret
 exact⟨rfl,rfl⟩
def imPtrOk(p:Ptr)(w:A5):A9 A1 61 #[vptr p] w fun e w'=>e= .returned (.bool (ptrOk p))/\A7 w.heap.size w w':=by
 have Hp:=hid (Qi5 p);obtain⟨pat,birth,size,sum,level⟩:=p;unfold vptr at*;dsimp only at*;generalize hq:ptrHole ⟨pat,birth,size,sum,level⟩=q;have Hq:=hid hq;rw[hq] at Hp;clear hq;cases q
 ·have Hd:AY (ptrOk ⟨pat,birth,size,sum,level⟩=(inR pat 8 63&&inR birth 1 900&&inR size 1 128&&inR sum 0 99460728&&inR level 0 2)):=hid (by unfold ptrOk;rw[Hq.out];rfl)
  generalize hq0:inR pat 8 63=q0 at Hd;have H1:=hid hq0;clear hq0;generalize hq1:inR birth 1 900=q1 at Hd;have H2:=hid hq1;clear hq1;generalize hq2:inR size 1 128=q2 at Hd;have H3:=hid hq2;clear hq2;generalize hq3:inR sum 0 99460728=q3 at Hd;have H4:=hid hq3;clear hq3;generalize hq4:inR level 0 2=q4 at Hd;have H5:=hid hq4;clear hq4;cases q0
  ·have Hr:AY (ptrOk ⟨pat,birth,size,sum,level⟩=false):=hid (by rw[Hd.out];simp)
   go_enter AE,A8
   go_wp2_with (first|(go_at_call 62;refine(Hp.out _).mono ?_;rintro e w1 ⟨rfl,hb1⟩;have c0:=Qdf hb1 0 _ rfl;have c1:=Qdf hb1 1 _ rfl;have c2:=Qdf hb1 2 _ rfl;have c3:=Qdf hb1 3 _ rfl;have c4:=Qdf hb1 4 _ rfl;have Hb1:=hid hb1;clear hb1)|(go_at_call 113;refine(imRow pat _).mono ?_;rintro e w' ⟨rfl,rfl⟩;rw[H1.out]))
   go_ret
   exact⟨Qds Hr.out.symm,btr (bnew _ _) Hb1.out⟩
  ·cases q1
   ·have Hr:AY (ptrOk ⟨pat,birth,size,sum,level⟩=false):=hid (by rw[Hd.out];simp)
    go_enter AE,A8
    go_wp2_with (first|(go_at_call 62;refine(Hp.out _).mono ?_;rintro e w1 ⟨rfl,hb1⟩;have c0:=Qdf hb1 0 _ rfl;have c1:=Qdf hb1 1 _ rfl;have c2:=Qdf hb1 2 _ rfl;have c3:=Qdf hb1 3 _ rfl;have c4:=Qdf hb1 4 _ rfl;have Hb1:=hid hb1;clear hb1)|(go_at_call 113;refine(imRow pat _).mono ?_;rintro e w' ⟨rfl,rfl⟩;rw[H1.out])|(go_at_call 57;refine(imIn _ _ _ _).mono ?_;rintro e w' ⟨rfl,rfl⟩;first|rw[H2.out]))
    go_ret
    exact⟨Qds Hr.out.symm,btr (bnew _ _) Hb1.out⟩
   ·cases q2
    ·have Hr:AY (ptrOk ⟨pat,birth,size,sum,level⟩=false):=hid (by rw[Hd.out];simp)
     go_enter AE,A8
     go_wp2_with (first|(go_at_call 62;refine(Hp.out _).mono ?_;rintro e w1 ⟨rfl,hb1⟩;have c0:=Qdf hb1 0 _ rfl;have c1:=Qdf hb1 1 _ rfl;have c2:=Qdf hb1 2 _ rfl;have c3:=Qdf hb1 3 _ rfl;have c4:=Qdf hb1 4 _ rfl;have Hb1:=hid hb1;clear hb1)|(go_at_call 113;refine(imRow pat _).mono ?_;rintro e w' ⟨rfl,rfl⟩;rw[H1.out])|(go_at_call 57;refine(imIn _ _ _ _).mono ?_;rintro e w' ⟨rfl,rfl⟩;first|rw[H2.out]|rw[H3.out]))
     go_ret
     exact⟨Qds Hr.out.symm,btr (bnew _ _) Hb1.out⟩
    ·cases q3
     ·have Hr:AY (ptrOk ⟨pat,birth,size,sum,level⟩=false):=hid (by rw[Hd.out];simp)
      go_enter AE,A8
      go_wp2_with (first|(go_at_call 62;refine(Hp.out _).mono ?_;rintro e w1 ⟨rfl,hb1⟩;have c0:=Qdf hb1 0 _ rfl;have c1:=Qdf hb1 1 _ rfl;have c2:=Qdf hb1 2 _ rfl;have c3:=Qdf hb1 3 _ rfl;have c4:=Qdf hb1 4 _ rfl;have Hb1:=hid hb1;clear hb1)|(go_at_call 113;refine(imRow pat _).mono ?_;rintro e w' ⟨rfl,rfl⟩;rw[H1.out])|(go_at_call 57;refine(imIn _ _ _ _).mono ?_;rintro e w' ⟨rfl,rfl⟩;first|rw[H2.out]|rw[H3.out]|rw[H4.out]))
      go_ret
      exact⟨Qds Hr.out.symm,btr (bnew _ _) Hb1.out⟩
     ·cases q4
      ·have Hr:AY (ptrOk ⟨pat,birth,size,sum,level⟩=false):=hid (by rw[Hd.out];simp)
       go_enter AE,A8
       go_wp2_with (first|(go_at_call 62;refine(Hp.out _).mono ?_;rintro e w1 ⟨rfl,hb1⟩;have c0:=Qdf hb1 0 _ rfl;have c1:=Qdf hb1 1 _ rfl;have c2:=Qdf hb1 2 _ rfl;have c3:=Qdf hb1 3 _ rfl;have c4:=Qdf hb1 4 _ rfl;have Hb1:=hid hb1;clear hb1)|(go_at_call 113;refine(imRow pat _).mono ?_;rintro e w' ⟨rfl,rfl⟩;rw[H1.out])|(go_at_call 57;refine(imIn _ _ _ _).mono ?_;rintro e w' ⟨rfl,rfl⟩;first|rw[H2.out]|rw[H3.out]|rw[H4.out]|rw[H5.out]))
       go_ret
       exact⟨Qds Hr.out.symm,btr (bnew _ _) Hb1.out⟩
      ·have Hr:AY (ptrOk ⟨pat,birth,size,sum,level⟩=true):=hid (by rw[Hd.out];simp)
       go_enter AE,A8
       go_wp2_with (first|(go_at_call 62;refine(Hp.out _).mono ?_;rintro e w1 ⟨rfl,hb1⟩;have c0:=Qdf hb1 0 _ rfl;have c1:=Qdf hb1 1 _ rfl;have c2:=Qdf hb1 2 _ rfl;have c3:=Qdf hb1 3 _ rfl;have c4:=Qdf hb1 4 _ rfl;have Hb1:=hid hb1;clear hb1)|(go_at_call 113;refine(imRow pat _).mono ?_;rintro e w' ⟨rfl,rfl⟩;rw[H1.out])|(go_at_call 57;refine(imIn _ _ _ _).mono ?_;rintro e w' ⟨rfl,rfl⟩;first|rw[H2.out]|rw[H3.out]|rw[H4.out]|rw[H5.out]))
       go_ret
       exact⟨Qds Hr.out.symm,btr (bnew _ _) Hb1.out⟩
 ·go_enter AE,A8
  go_wp2_with (go_at_call 62;refine(Hp.out _).mono ?_;rintro e w1 ⟨rfl,hb1⟩)
  go_ret
  exact⟨Qds (by unfold ptrOk;rw[Hq.out];rfl),btr (bnew _ _) hb1⟩
theorem imSumOf(s:Str)(w:A5)(hs:s.length<=big):
 A9 A1 189 #[.string ⟨s.toArray⟩] w fun e w'=>e= .returned (.int .i64 ((Pl.sumOf s:Nat):Int))/\w=w':=by
 unfold big at hs
 go_enter Tryz.func189,Tryz.ntmps189
 go_wp2
 go_loop [3,4,8] (fun av bv iv=> ∃k a b:Nat,k<=s.length/\iv= .int .i64 k/\av= .int .i64 a/\bv= .int .i64 b/\AY ((a,b)=Pl.sum2 (s.take k))/\a<9973/\b<9973) (fun _ _ iv=>s.length -(intOf iv).toNat)
 case atStart=>exact⟨0,1,0,by omega,rfl,rfl,rfl,hid rfl,by omega,by omega⟩
 case round=>
  obtain⟨k,a,b,hk,rfl,rfl,rfl,Hp,ha,hb⟩:=hrel
  by_cases hlt:k<s.length
  ·have hstep:AY (Pl.sum2 (s.take (k+1))=Pl.sumStep (a,b) s[k]):=hid (by rw[A3 hlt,Pl.QkQ,<-Hp.out])
   have hltI:(k:Int)<s.length:=by omega
   obtain⟨c,hc,hc256,hck⟩:=QrF s k hlt;rw[<-hc] at hstep;have Hc:=hid hc;clear hc
   go_wp2
   go_round
   case rel=>
    refine⟨k+1,(a+c.toNat+1)%9973,(b+(a+c.toNat+1)%9973)%9973,by omega,by go_num,?_,?_,hid (by rw[hstep.out];rfl),B5 _ (by omega),B5 _ (by omega)⟩
    ·go_num
    ·go_num
   case measure=>simp[intOf];omega
  ·have hk':k=s.length:=by omega
   subst hk';rw[Ak] at Hp;have hf:AY (Pl.sumOf s=a*9973+b):=hid (by unfold Pl.sumOf;rw[<-Hp.out])
   go_wp2
   go_ret
   exact⟨QpR (by rw[hf.out];omega),rfl⟩
end Pm
end
section
open Go.RowKit
namespace Pl
def QsW(n:Nat):Lib.itoa (n:Int)=dec n:=by
 unfold Lib.itoa;rw[if_neg (by omega)];rfl
end Pl
namespace Pm
open Pl (dec dch inR)
theorem below_grow(w:A5)(k:Nat)(os:Array Obj):A7 w.heap.size w (Sort.grow (w.drewN k) os):=
 ⟨rfl,rfl,rfl,by simp_all,fun i hi=>by
   show(w.heap++os)[i]? =w.heap[i]?
   grind⟩
theorem atoiOk(s:Str)(v:Int)(w:A5)(hs:s.length<=9)(h:AN s= .ok v):
 A9 A1 240 #[.string ⟨s.toArray⟩] w fun e w'=>e= .returned (.tuple #[.int .i64 v,.nilIface])/\A7 w.heap.size w w':=
 (Tryz.strconv_Atoi_ok ⟨s.toArray⟩ (by show s.toArray.size<=_;grind) v (by omega) w).mono fun e w' ⟨he,hw⟩=>⟨he,by
   grind [AK,Lib.bytesWorld_below]⟩
theorem atoiBad(s:Str)(w:A5)(hs:s.length<=9)(hL:Lt w)(h: ∀v,AN s≠ .ok v):
 A9 A1 240 #[.string ⟨s.toArray⟩] w fun e w'=> ∃n M,e= .returned (.tuple #[.int .i64 n,.iface 310 (.pointer (some ⟨M,0,none⟩))])/\A7 w.heap.size w w':=by
 have hz:(⟨s.toArray⟩:ByteArray).size<=281474976710656:=by show s.toArray.size<=_;grind
 cases he:AN s
 case ok v=>grind
 case range=>
  obtain⟨t,p,hv⟩:=hL.ran;exact(Tryz.strconv_Atoi_range ⟨s.toArray⟩ hz (by omega) _ w hv (.inr ⟨t,p,rfl⟩)).mono fun e w' ⟨M,h1,_,_,h2⟩=>⟨_,M,h1,h2⟩
 obtain⟨t,p,hv⟩:=hL.syn;exact(Tryz.strconv_Atoi_syntax ⟨s.toArray⟩ hz (by rw[show(⟨s.toArray⟩:ByteArray).data.toList=s by simp];exact he) _ w hv (.inr ⟨t,p,rfl⟩)).mono fun e w' ⟨M,h1,_,_,h2⟩=>⟨0,M,h1,h2⟩
def itoaAt(n:Nat)(w:A5)(hn:n<=9223372036854775807)(hL:Lt w):
 A9 A1 288 #[.int .i64 n] w fun e w'=>e= .returned (.string ⟨(dec n).toArray⟩)/\A7 w.heap.size w w':=
 (Tryz.strconv_Itoa n (by omega) (by omega) w hL.tab).mono fun e w' ⟨he,k,os,hw⟩=>⟨by rw[he,Pl.QsW],hw▸below_grow w k os⟩
def Qkn(n:Int)(w:A5)(hL:Lt w):
 A9 A1 241 #[.int .i64 n] w fun e w'=>e= .returned (.string ⟨(Pl.numPut n).toArray⟩)/\A7 w.heap.size w w':=by
 have HL:=hid hL;clear hL;generalize hq:inR n 0 999999999=q;have Hq:=hid hq;clear hq;cases q
 ·have Hr:AY (Pl.numPut n=[]):=hid (by have:=Hq.out;simp[inR] at this;unfold Pl.numPut;rw[if_neg (by omega)])
  go_enter Au,Am
  go_wp2_with (go_at_call 57;refine(imIn n 0 999999999 _).mono ?_;rintro e w' ⟨rfl,rfl⟩;rw[Hq.out])
  go_ret
  exact⟨by rw[Hr.out];rfl,AK _ _⟩
 ·have hk:=Hq.out
  simp[inR] at hk;obtain⟨k,rfl⟩:=Int.eq_ofNat_of_zero_le hk.1;have Hk:=hid hk;have Hr:AY (Pl.numPut (k:Int)=dec k):=hid (by unfold Pl.numPut;rw[if_pos (by omega)];simp);clear hk
  go_enter Au,Am
  go_wp2_with (first|(go_at_call 57;refine(imIn k 0 999999999 _).mono ?_;rintro e w' ⟨rfl,rfl⟩;rw[Hq.out])|(go_at_call 288;refine(itoaAt k _ (by have:=Hk.out;omega) HL.out).mono ?_;rintro e w1 ⟨rfl,hb1⟩))
  go_ret
  exact⟨by rw[Hr.out];rfl,hb1⟩
theorem Qn8(s:Str)(w:A5)(hs:s.length<=big)(hL:Lt w):
 A9 A1 179 #[.string ⟨s.toArray⟩] w fun e w'=>e= .returned (optNat (Pl.numGet s))/\A7 w.heap.size w w':=by
 unfold big at hs;have HL:=hid hL;clear hL
 by_cases h9:s.length<=9
 ·have h9': ¬(9:Int)<s.length:=by omega
  cases he:AN s with
  |ok v=>
   have Hg:=hid (Pl.Qqm he);have Hc:=hid (fun w=>atoiOk s v w h9 he);have Hp:=hid (fun w (h:Lt w)=>Qkn v w h);have Hv:=hid (fun h=>Pl.Qjq (v:=v) (s:=s) h (by rintro rfl;cases he));generalize hq:Pl.numPut v=t at Hg Hp Hv;clear he h9 hq
   by_cases hts:t=s
   ·subst hts
    have Hr:AY (Pl.numGet t=some v.toNat/\((v.toNat:Nat):Int)=v):=hid ⟨by rw[Hg.out,if_pos rfl],by have:=(Hv.out rfl).1;omega⟩
    go_enter AS,AO
    go_wp2_with (first|(go_at_call 240;refine(Hc.out _).mono ?_;rintro e w1 ⟨rfl,hb1⟩;have Hb1:=hid hb1;clear hb1)|(go_at_call 241;refine(Hp.out _ (HL.out.below Hb1.out)).mono ?_;rintro e w2 ⟨rfl,hb2⟩;have Hb2:=hid (btr Hb1.out hb2);clear hb2))
    go_ret2
    exact⟨by rw[Hr.out.1];show _=Ending.returned (.tuple #[.int .i64 ((v.toNat:Nat):Int),.bool true]);rw[Hr.out.2];rfl,Hb2.out⟩
   ·have hts2:(t==s)=false:=by rw[beq_eq_false_iff_ne];exact hts
    have hts3: ¬s=t:=fun e=>hts e.symm
    have Hr:AY (Pl.numGet s=none):=hid (by rw[Hg.out,if_neg hts])
    go_enter AS,AO
    go_wp2_with (first|(go_at_call 240;refine(Hc.out _).mono ?_;rintro e w1 ⟨rfl,hb1⟩;have Hb1:=hid hb1;clear hb1)|(go_at_call 241;refine(Hp.out _ (HL.out.below Hb1.out)).mono ?_;rintro e w2 ⟨rfl,hb2⟩;have Hb2:=hid (btr Hb1.out hb2);clear hb2))
    go_ret2
    exact⟨by rw[Hr.out];rfl,Hb2.out⟩
  |_=>
   have hbad: ∀v,AN s≠ .ok v:=fun v e=>by rw[he] at e;cases e
   have Hr:=hid (Pl.QoA hbad);have Hc:=hid (fun w h=>atoiBad s w h9 h hbad);clear he h9 hbad
   go_enter AS,AO
   go_wp2_with (go_at_call 240;refine(Hc.out _ HL.out).mono ?_;rintro e w1 ⟨n,M,rfl,hb1⟩)
   go_ret2
   exact⟨by rw[Hr.out];rfl,hb1⟩
 ·have h9':(9:Int)<s.length:=by omega
  have Hr:=hid (Pl.Qmn (s:=s) (by omega))
  go_enter AS,AO
  go_wp2
  go_ret2
  exact⟨by rw[Hr.out];rfl,AK _ _⟩
end Pm
end
section
open Go.RowKit
namespace Pm
open Pl (dec dch inR)
variable{w w':A5}{bs:List Aa}{B b:Nat}{T:AA}
def Qoa{e:AA}{p:Aa}(h:An T e B b p bs w)(hb:A7 w.heap.size w w'):An T e B b p bs w':=by
 have hlt:=h.lt;obtain⟨h1,v,h2,h3,h4⟩:=h;exact⟨h1,v,(hb.block b hlt).trans h2,Qjp h3 hb,h4⟩
def Qtc{e:AA}(h:AP T e B b bs w)(hb:A7 w.heap.size w w'):AP T e B b bs w':=by
 rcases h with h|h
 ·exact .inl (Qoa h hb)
 ·exact .inr (Qoa h hb)
def ib_new(w:A5)(T e:AA):AP T e w.heap.size w.heap.size (Ab []) (w.alloc (.cells #[.pointer none,.slice none 0 0] T)):=
 .inl ⟨A0 _,_,heap_alloc_new w _,⟨rfl,.inl ⟨rfl,rfl⟩⟩,by simp[Value.ownBlock]⟩
def QrD(s:Str):Lib.strCells ⟨s.toArray⟩=Ab s:=by rw[Lib.strCells_eq]
theorem QhF(s:Str):(⟨s.toArray⟩:ByteArray).size=s.length:=by show s.toArray.size=_;simp
def Bld(B:Nat)(s:Str)(w:A5):Prop:=AP 125 5 B B (Ab s) w/\B<w.heap.size
def Bld.below{s:Str}(h:Bld B s w)(hb:A7 w.heap.size w w'):Bld B s w':=⟨Qtc h.1 hb,AD h.2 hb.size⟩
def bldNew(w:A5):Bld w.heap.size [] (w.alloc (.cells #[.pointer none,.slice none 0 0] 125)):=⟨ib_new w _ _,by simp⟩
theorem bldStr{s:Str}(h:Bld B s w)(t:Str)(hlen:s.length+t.length<=140737488355328):
 A9 A1 69 #[.pointer (some ⟨B,0,none⟩),.string ⟨t.toArray⟩] w fun e w'=>e= .returned (.tuple #[.int .i64 t.length,.nilIface])/\Bld B (s++t) w'/\A7 B w w':=
 (Tryz.Builder_WriteString B B _ ⟨t.toArray⟩ w h.1 (by grind [AI,QhF]) (Ah h.2)).mono fun e w' ⟨he,h1,h2⟩=>
   ⟨by rw[he,QhF],⟨by rw[AZ,<-QrD t];exact .inr h1,AD h.2 h2.size⟩,h2⟩
theorem bldByte{s:Str}(h:Bld B s w)(c:UInt8)(hlen:s.length+1<=140737488355328):
 A9 A1 292 #[.pointer (some ⟨B,0,none⟩),.int .u8 c.toNat] w fun e w'=>e= .returned .nilIface/\Bld B (s++[c]) w'/\A7 B w w':=
 (Tryz.Builder_WriteByte B B _ c.toNat w h.1 (by grind [AI]) (Ah h.2)).mono fun e w' ⟨he,h1,h2⟩=>
   ⟨he,⟨by rw[AZ];exact .inr h1,AD h.2 h2.size⟩,h2⟩
def bldLen{s:Str}(h:Bld B s w):
 A9 A1 192 #[.pointer (some ⟨B,0,none⟩)] w fun e w'=>e= .returned (.int .i64 s.length)/\w=w':=
 (Tryz.Builder_Len B B _ w h.1).mono fun e w' ⟨he,h1⟩=>⟨by rw[he,AI],h1.symm⟩
def bldText{s:Str}(h:Bld B s w):
 A9 A1 70 #[.pointer (some ⟨B,0,none⟩)] w fun e w'=>e= .returned (.string ⟨s.toArray⟩)/\A7 B w w':=
 Tryz.Builder_String_any B B s w h.1 (Ah h.2)
theorem QmB(A:Option Addr)(l:List Str)(c:Nat)(w:A5)(hl:l.length<=big)(h:At w w.heap.size A l)(hx: ∀x∈l,x.length<=4294967296)(hL:Lt w):
 A9 A1 245 #[.slice A l.length c] w fun e w'=>e= .returned (optStr (Pl.Qdb l))/\A7 w.heap.size w w':=by
 unfold big at hl;have HL:=hid hL;have Hat:=hid h;have Hx:=hid hx;clear hL h hx
 by_cases h60:l.length<=60
 ·have hA: ¬(60:Int)<l.length:=by omega
  go_enter Av,Ao
  go_wp2
  go_loopw [12] (fun iv wr=> ∃(k:Nat),k<=l.length/\iv= .int .i64 k/\AY (Bld w.heap.size (Pl.enc (l.take k)) wr)/\AY ((Pl.enc (l.take k)).length<=2048)/\AY (A7 w.heap.size w wr)) (fun iv _=>l.length -(intOf iv).toNat)
  case atStart=>exact⟨0,by omega,rfl,hid (bldNew w),hid (by simp[Pl.enc]),hid (bnew _ _)⟩
  case round=>
   obtain⟨k,hk,rfl,HB,Hlen,Hbel⟩:=hrel
   by_cases hlt:k<l.length
   ·have hltI:(k:Int)<l.length:=by omega
    obtain⟨b,off,cs,rfl,hb,hc,hv⟩:=(Hat.out.up Hbel.out).elem hlt;obtain⟨x,He⟩: ∃x,AY (x=l[k]):=⟨l[k],hid rfl⟩;rw[<-He.out] at hc;obtain⟨rfl,hs⟩:=QkS hc;have e0:=hv 0 _ rfl;simp only[Rep.size,Nat.add_zero,Nat.mul_one,vstr] at e0;have hxl:x.length<=4294967296:=by rw[He.out];exact Hx.out _ (AQ hlt)
    have Hdl:=hid (Pl.QcU 9 x.length (by omega));have Hfin:=hid (Pl.Qkx l k hlt);rw[<-He.out] at Hfin;clear hv hc hs hb;generalize Pl.enc (l.take k)=out at HB Hlen Hfin
    go_wp2_with fail
    refine(itoaAt x.length _ (by omega) (HL.out.below Hbel.out)).mono ?_;rintro e w1 ⟨rfl,hb1⟩;have HB1:=hid (HB.out.below hb1);have Hbel1:=hid (btr Hbel.out hb1);clear hb1 e0
    go_wp2_with fail
    refine(bldStr HB1.out _ (by have:=Hlen.out;have:=Hdl.out;omega)).mono ?_;rintro e w2 ⟨rfl,hB2,hb2⟩;have HB2:=hid hB2;have Hbel2:=hid (Hbel1.out.trans hb2);clear hB2 hb2
    go_wp2_with fail
    refine(bldByte HB2.out 58 (by have:=Hlen.out;have:=Hdl.out;simp only[A2];omega)).mono ?_;rintro e w3 ⟨rfl,hB3,hb3⟩;have HB3:=hid hB3;have Hbel3:=hid (Hbel2.out.trans hb3);clear hB3 hb3
    go_wp2_with fail
    refine(bldStr HB3.out x (by have:=Hlen.out;have:=Hdl.out;simp only[A2,AX];omega)).mono ?_;rintro e w4 ⟨rfl,hB4,hb4⟩;have heq:out++dec x.length++[58]++x=out++Pl.item x:=by simp[Pl.item]
    rw[heq,<-Hfin.out] at hB4;have HB4:=hid hB4;have Hbel4:=hid (Hbel3.out.trans hb4);clear hB4 hb4 heq Hfin
    by_cases hlong:2048<(Pl.enc (l.take (k+1))).length
    ·have hf:=hid (Pl.QeQ hlong)
     have hlong':(2048:Int)<(Pl.enc (l.take (k+1))).length:=by omega
     generalize Pl.enc (l.take (k+1))=o2 at*
     go_wp2_with (go_at_call 192;refine(bldLen HB4.out).mono ?_;rintro e w5 ⟨rfl,rfl⟩)
     go_ret2
     exact⟨by rw[hf.out];rfl,Hbel4.out⟩
    ·have hlong': ¬(2048:Int)<(Pl.enc (l.take (k+1))).length:=by omega
     have Hshort:=hid (Nat.le_of_not_lt hlong);clear hlong;generalize ho2:Pl.enc (l.take (k+1))=o2 at HB4 hlong' Hshort;have Ho2:=hid ho2;clear ho2
     go_wp2_with (go_at_call 192;refine(bldLen HB4.out).mono ?_;rintro e w5 ⟨rfl,rfl⟩)
     go_roundw
     case rel=>exact⟨k+1,by omega,by go_num,hid (by rw[Ho2.out];exact HB4.out),hid (by rw[Ho2.out];exact Hshort.out),Hbel4⟩
     case measure=>simp only[intOf];omega
   ·have hk':k=l.length:=by omega
    subst hk';rw[Ak] at HB Hlen;have hf:=hid (Pl.QhE h60 Hlen.out)
    go_wp2_with (go_at_call 70;refine(bldText HB.out).mono ?_;rintro e w5 ⟨rfl,hb5⟩)
    go_ret2
    exact⟨by rw[hf.out];rfl,Hbel.out.trans hb5⟩
 ·have hA:(60:Int)<l.length:=by omega
  have hf:=hid (Pl.Qgj (l:=l) (by omega))
  go_enter Av,Ao
  go_wp2
  go_ret2
  exact⟨by rw[hf.out];rfl,AK _ _⟩
def Qg2(w:A5)(n:Nat):A7 w.heap.size w (w.drewN n):=⟨rfl,rfl,rfl,A0 _,fun _ _=>rfl⟩
def cutHit(a r:Str)(h:(58:UInt8)∉a)(w:A5)(hs:(a++58::r).length<=4294967280)(hL:Lt w):
 A9 A1 178 #[.string ⟨(a++58::r).toArray⟩,.string ⟨#[58]⟩] w fun e w'=>e= .returned (.tuple #[.string ⟨a.toArray⟩,.string ⟨r.toArray⟩,.bool true])/\A7 w.heap.size w w':=by
 obtain⟨m,hm⟩:=hL.maxl;refine(Tryz.strings_Cut ⟨(a++58::r).toArray⟩ ⟨#[58]⟩ m w (by rw[QhF];omega) hm).mono fun e w' ⟨he,n,hw⟩=>⟨?_,hw▸Qg2 w n⟩
 have hc:Lib.cut (⟨(a++58::r).toArray⟩:ByteArray).data.toList (⟨#[58]⟩:ByteArray).data.toList=(a,r,true):=by
  have:=Pl.Qht (r:=r) h;simpa using this
 rw[he,hc]
def cutMiss(a:Str)(h:(58:UInt8)∉a)(w:A5)(hs:a.length<=4294967280)(hL:Lt w):
 A9 A1 178 #[.string ⟨a.toArray⟩,.string ⟨#[58]⟩] w fun e w'=>e= .returned (.tuple #[.string ⟨a.toArray⟩,.string ⟨#[]⟩,.bool false])/\A7 w.heap.size w w':=by
 obtain⟨m,hm⟩:=hL.maxl;refine(Tryz.strings_Cut ⟨a.toArray⟩ ⟨#[58]⟩ m w (by rw[QhF];omega) hm).mono fun e w' ⟨he,n,hw⟩=>⟨?_,hw▸Qg2 w n⟩
 have hc:Lib.cut (⟨a.toArray⟩:ByteArray).data.toList (⟨#[58]⟩:ByteArray).data.toList=(a,[],false):=by
  have:=Pl.QhS h;simpa using this
 rw[he,hc]
def imClone(s:Str)(w:A5)(hs:s.length<=big):
 A9 A1 180 #[.string ⟨s.toArray⟩] w fun e w'=>e= .returned (.string ⟨s.toArray⟩)/\A7 w.heap.size w w':=by
 have Hc:=hid (fun w=>Tryz.stringslite_Clone ⟨s.toArray⟩ w (by rw[QhF];unfold big at hs;omega))
 go_enter Tryz.func180,Tryz.ntmps180
 go_wp2_with (go_at_call 242;refine(Hc.out _).mono ?_;rintro e w1 ⟨rfl,hb1⟩)
 go_ret
 exact⟨rfl,hb1⟩
def QsD{base:Nat}{e:AA}{size:Nat}:w.ownsRow base e size (.slice none 0 0) 0 []:=⟨by simp,.inl ⟨rfl,rfl⟩⟩
end Pm
end
section
open Go.RowKit
namespace Pm
open Pl (dec dch inR Ptr hole ptrHole ptrOk)
variable{k:Nat}{p:Ptr}{ns:List Nat}
def imParts(b:Nat)(w:A5):
 A9 A1 290 #[.pointer (some ⟨b,0,none⟩)] w fun e w'=> ∃g,e= .returned (.slice (some ⟨g,0,none⟩) 5 5)/\Row w' g #[.pointer (some ⟨b,0,none⟩),.pointer (some ⟨b,1,none⟩),.pointer (some ⟨b,2,none⟩),.pointer (some ⟨b,3,none⟩),.pointer (some ⟨b,4,none⟩)]/\w.heap.size<=g/\A7 w.heap.size w w':=by
 go_enter Tryz.func290,Tryz.ntmps290
 go_wp2
 go_still_tail 15,(by kernel_rfl)
 change wpList _ _ _ _ _ w.drew
 go_wp2
 go_ret
 exact⟨_,rfl,Row.new _ _ _,by simp,bal (bdr (AK _ _)) _⟩
theorem imJoin(A:Option Addr)(l:List Str)(c:Nat)(w:A5)(h:At w w.heap.size A l)(hl:0<l.length)(hn:l.length<=140737488355328)(hcap:l.length<=c)(hlen:(Pl.dots l).length<=140737488355328):
 A9 A1 111 #[.slice A l.length c,.string ⟨#[46]⟩] w fun e w'=>e= .returned (.string ⟨(Pl.dots l).toArray⟩)/\A7 w.heap.size w w':=by
 obtain⟨b,off,rfl,hb,hc⟩:=Qt7 h hl;have hj:=Pl.QqB l
 have k:=Tryz.strings_Join b off c (l.map Pl.ba) (Pl.ba [46]) w (fun j x hx=>hc j _ (by
  rw[Ai] at hx⊢;cases hy:l[j]? with
  |none=>grind
  |some y=>rw[hy] at hx;simp only[Option.map_some,B6] at hx⊢;rw[<-hx];rfl)) hb (by grind) (by grind) (by grind)
 rw[hj,AW] at k;exact k
def QjC{b:Nat}(hk:k<5):(#[.pointer (some ⟨b,0,none⟩),.pointer (some ⟨b,1,none⟩),.pointer (some ⟨b,2,none⟩),.pointer (some ⟨b,3,none⟩),.pointer (some ⟨b,4,none⟩)]:Array Aa)[k]? =some (.pointer (some ⟨b,k,none⟩)):=by
 match k,hk with
 |0,_=>rfl
 |1,_=>rfl
 |2,_=>rfl
 |3,_=>rfl
 |4,_=>rfl
def ptrNums(p:Ptr):List Int:=[p.pat,p.birth,p.size,p.sum,p.level]
def Qpc(hk:k<5):(#[.int .i64 p.pat,.int .i64 p.birth,.int .i64 p.size,.int .i64 p.sum,.int .i64 p.level]:Array Aa)[k]? =some (.int .i64 ((ptrNums p).getD k 0)):=by
 match k,hk with
 |0,_=>rfl
 |1,_=>rfl
 |2,_=>rfl
 |3,_=>rfl
 |4,_=>rfl
def Qd4(p:Ptr):List Str:=(ptrNums p).map Pl.numPut
theorem texts_len(p:Ptr):(Qd4 p).length=5:=rfl
theorem texts_get(hk:k<5):(Qd4 p)[k]'(by grind [texts_len])=Pl.numPut ((ptrNums p).getD k 0):=by
 match k,hk with
 |0,_=>rfl
 |1,_=>rfl
 |2,_=>rfl
 |3,_=>rfl
 |4,_=>rfl
def texts_le(p:Ptr): ∀x∈Qd4 p,x.length<=9:=by
 intro x hx;obtain⟨n,_,rfl⟩:=List.mem_map.1 hx;exact Qo9 n
theorem Qrx: ∀(l:List Str) (m:Nat),(∀x∈l,x.length<=m)->(Pl.dots l).length<=l.length*(m+1)
 |[],m,_=>by simp[Pl.dots]
 |[x],m,h=>by have:=h x Ad;simp[Pl.dots];omega
 |x::y::l,m,h=>by
  have ih:=Qrx (y::l) m fun z hz=>h z (List.mem_cons_of_mem _ hz)
  have:=h x Ad;have e:Pl.dots (x::y::l)=x++46::Pl.dots (y::l):=by simp[Pl.dots]
  grind [Nat.succ_mul]
theorem text_ok(h1:ptrOk p=true)(h2:ptrHole p=false):Pl.ptrPut p=Pl.dots (Qd4 p):=by grind [Pl.Qdx,Pl.ptrPut,Pl.ptrText,Qd4,ptrNums,Pl.nine]
theorem Qn7(p:Ptr)(w:A5)(hL:Lt w):A9 A1 291 #[vptr p] w fun e w'=>e= .returned (.string ⟨(Pl.ptrPut p).toArray⟩)/\A7 w.heap.size w w':=by
 have HL:=hid hL;have Hok:=hid (imPtrOk p);have Hho:=hid (Qi5 p);have R0:=hid (Row.new w #[.int .i64 p.pat,.int .i64 p.birth,.int .i64 p.size,.int .i64 p.sum,.int .i64 p.level] 31);have Hb0:=hid (bnew w (.cells #[.int .i64 p.pat,.int .i64 p.birth,.int .i64 p.size,.int .i64 p.sum,.int .i64 p.level] 31));clear hL;unfold vptr at*;generalize hq1:ptrOk p=q1 at Hok;generalize hq2:ptrHole p=q2 at Hho;have Hq1:=hid hq1;have Hq2:=hid hq2;clear hq1 hq2
 go_enter Tryz.func291,Tryz.ntmps291
 go_wp2_with fail
 generalize w.alloc (.cells #[.int .i64 p.pat,.int .i64 p.birth,.int .i64 p.size,.int .i64 p.sum,.int .i64 p.level] 31)=W at*;refine(Hok.out _).mono ?_;rintro e w1 ⟨rfl,hb1⟩;have R1:=hid (R0.out.below hb1);have Hb1:=hid (btr Hb0.out hb1);clear hb1;cases q1
 ·have Hr:AY (Pl.ptrPut p=[]):=hid (by unfold Pl.ptrPut;rw[if_neg (by rw[Hq1.out];simp)])
  go_wp2
  go_ret
  exact⟨by rw[Hr.out];rfl,Hb1.out⟩
 ·have c0:=R1.out.get 0 rfl;have c1:=R1.out.get 1 rfl;have c2:=R1.out.get 2 rfl;have c3:=R1.out.get 3 rfl;have c4:=R1.out.get 4 rfl
  go_wp2_with fail
  refine(Hho.out _).mono ?_;rintro e w2 ⟨rfl,hb2⟩;have R2:=hid (R1.out.below hb2);have Hb2:=hid (btr Hb1.out hb2);clear hb2 c0 c1 c2 c3 c4;cases q2
  ·have Hr:=hid (text_ok Hq1.out Hq2.out)
   go_wp2_with fail
   refine(imParts _ _).mono ?_;rintro e w3 ⟨g,rfl,hg,hgw,hb3⟩;have R3:=hid (R2.out.below hb3);have Hb3:=hid (btr Hb2.out hb3);have G3:=hid hg;have Hgw:=hid (show w.heap.size<g from AD R2.out.lt hgw);clear hg hgw hb3
   go_wp2
   go_loopw [3,15] (fun ov kv wr=> ∃(k:Nat),k<=5/\kv= .int .i64 k/\AY (wr.ownsRow w3.heap.size 9 1 ov ((Qd4 p).take k).length (((Qd4 p).take k).map vstr))/\AY (A7 w3.heap.size w3 wr)) (fun _ kv _=>5 -(intOf kv).toNat)
   case atStart=>exact⟨0,by omega,rfl,hid QsD,hid (AK _ _)⟩
   case round=>
    obtain⟨k,hk,rfl,Hown,Hbel⟩:=hrel
    by_cases hlt:k<5
    ·have hltI:(k:Int)<5:=by omega
     have cp:=(G3.out.below Hbel.out).get k (QjC hlt);have cn:=(R3.out.below Hbel.out).get k (Qpc hlt);have Ht:=hid (texts_get (p:=p) hlt);have Hstep:=hid (A3 (l:=Qd4 p) (i:=k) (by rw[texts_len];exact hlt));rw[Ht.out] at Hstep;have Hlen:AY (((Qd4 p).take k).length<=5):=hid (by rw[List.length_take,texts_len];omega);generalize (ptrNums p).getD k 0=n at*;generalize (Qd4 p).take k=out at Hown Hstep Hlen;have HLr:=hid (HL.out.below (btr Hb3.out Hbel.out));obtain⟨A,c,hov⟩:=Qo7 Hown.out;subst hov
     go_wp2_with fail
     refine(Qkn n _ HLr.out).mono ?_;rintro e w4 ⟨rfl,hb4⟩;have Hown4:=hid (Qjp Hown.out hb4);have Hbel4:=hid (btr Hbel.out hb4);clear hb4 cp cn
     go_wp2_with (at_builtin;refine Qjd rfl _ _ rfl w3.heap.size _ out rfl (Hown4.out.alloc _) _ _ (Pl.numPut n) rfl ?hc (by have:=Hlen.out;omega) (Nat.le_trans Hbel4.out.size (by simp)) fun v' w' h1 h2 h3=>?_;case hc=>simp)
     go_roundw
     case rel=>exact⟨k+1,by omega,by go_num,hid (by rw[Hstep.out];exact h1),hid ((bal Hbel4.out _).trans h2)⟩
     case measure=>simp only[intOf];omega
    ·have hk':k=5:=by omega
     subst hk';have ht5:(Qd4 p).take 5=Qd4 p:=AT (by rw[texts_len];exact A0 _);rw[ht5] at Hown;obtain⟨A,c,hov,hat⟩:=owns_at Hown.out (fun x hx=>by have:=texts_le p x hx;unfold big;omega) (by rw[texts_len];unfold big;omega);subst hov;have Hj:=hid (imJoin A (Qd4 p) c wr hat (by rw[texts_len];omega) (by rw[texts_len];omega) (QsE Hown.out) (by have:=Qrx (Qd4 p) 9 (texts_le p);rw[texts_len] at this;omega));clear hat ht5
     go_wp2_with (go_at_call 111;refine Hj.out.mono ?_;rintro e w4 ⟨rfl,hb4⟩)
     go_ret
     exact⟨by rw[Hr.out];rfl,btr (btr Hb3.out Hbel.out) hb4⟩
  ·have Hr:AY (Pl.ptrPut p=[45]):=hid (by unfold Pl.ptrPut;rw[if_pos Hq1.out,Hq2.out];rfl)
   go_wp2
   go_ret
   exact⟨by rw[Hr.out];rfl,Hb2.out⟩
theorem imSplit(s:Str)(w:A5)(hs:s.length<=4294967280)(hL:Lt w):
 A9 A1 141 #[.string ⟨s.toArray⟩,.string ⟨#[46]⟩] w fun e w'=> ∃b,e= .returned (.slice (some ⟨b,0,none⟩) (Pl.cutB 46 s).length (Pl.cutB 46 s).length)/\Row w' b ((Pl.cutB 46 s).map vstr).toArray/\w.heap.size<=b/\A7 w.heap.size w w':=by
 obtain⟨m,hm⟩:=hL.maxl;have h:=Pl.QkV 46 s.length s (A0 _);refine(Tryz.strings_Split (Pl.ba s) (Pl.ba [46]) m w (by rw[Pl.Qhw];omega) hm (by rw[Pl.Qhw];simp)).mono fun e w' ⟨he,hw⟩=>?_
 rw[h.1,Ar] at hw;rw[h.2] at he;subst hw;exact⟨_,he,Row.new _ _ _,A0 _,bnew _ _⟩
def pcells(ns:List Nat):Array Aa:=List.toArray (ns.map (fun(n:Nat)=>Aq .i64 (n:Int))++List.replicate (5 -ns.length) (Aq .i64 0))
theorem Qmm(h:ns.length<=5):(pcells ns).size=5:=by simp[pcells];omega
theorem Qo5(n:Nat)(h:ns.length<5):(pcells ns).setIfInBounds ns.length (.int .i64 (n:Int))=pcells (ns++[n]):=by grind [pcells]
theorem Qqh(h:ns.length<=5)(hk:k<5): ∃v,(pcells ns)[k]? =some v:=⟨_,Array.getElem?_eq_getElem (by grind [Qmm])⟩
def vstr_at{l:List Str}(hk:k<l.length):((l.map vstr).toArray)[k]? =some (.string ⟨l[k].toArray⟩):=by
 simp[hk,vstr]
theorem Qta(s:Str)(w:A5)(hs:s.length<=4294967280)(hL:Lt w):
 A9 A1 244 #[.string ⟨s.toArray⟩] w (PtrPost s w):=by
 have HL:=hid hL;clear hL;have Z0:=hid (Row.new w #[.int .i64 0,.int .i64 0,.int .i64 0,.int .i64 0,.int .i64 0] 31);have Hb0:=hid (bnew w (.cells #[.int .i64 0,.int .i64 0,.int .i64 0,.int .i64 0,.int .i64 0] 31))
 by_cases h45:s=[45]
 ·subst h45
  go_enter Ax,Ap
  go_wp2
  refine bodyPost_ret (v:= .tuple #[vptr hole,.bool true]) (by simp[results,AB,go_sem,vptr,hole]) rfl ?_;exact⟨Or.inl ⟨_,Pl.Qj4,rfl⟩,bnew _ _⟩
 ·have h45': ¬[45]=s:=fun e=>h45 e.symm
  have hse:(s==[45])=false:=by rw[beq_eq_false_iff_ne];exact h45
  have Hcut:=hid (fun wx h=>imSplit s wx hs h);have hcl:=hid (cutB_le (b:=46) (s:=s) (n:=4294967280) hs);have Hnl:=hid (Pl.Qqb h45);have Hnn:=hid (fun k=>Pl.Qqa (k:=k) h45);have Hsame:=hid (fun p a b c d e=>Pl.Qnu (p:=p) (a:=a) (b:=b) (c:=c) (d:=d) (e:=e) h45);have Hne:AY (s=[]->(Pl.cutB 46 s).length=1):=hid (by rintro rfl;rfl);generalize Pl.cutB 46 s=l at Hcut hcl Hnl Hnn Hsame Hne;clear h45 h45';have B1:=hid (bal Hb0.out (.cells #[.int .i64 0,.int .i64 0,.int .i64 0,.int .i64 0,.int .i64 0] 31));have Z1:=hid (Z0.out.alloc (.cells #[.int .i64 0,.int .i64 0,.int .i64 0,.int .i64 0,.int .i64 0] 31));have P1:=hid (Row.new (w.alloc (.cells #[.int .i64 0,.int .i64 0,.int .i64 0,.int .i64 0,.int .i64 0] 31)) #[.int .i64 0,.int .i64 0,.int .i64 0,.int .i64 0,.int .i64 0] 31);simp only[World.size_alloc] at P1;clear Z0 Hb0
  go_enter Ax,Ap
  go_wp2_with fail
  generalize (w.alloc (.cells #[.int .i64 0,.int .i64 0,.int .i64 0,.int .i64 0,.int .i64 0] 31)).alloc (.cells #[.int .i64 0,.int .i64 0,.int .i64 0,.int .i64 0,.int .i64 0] 31)=W at*;refine(Hcut.out _ (HL.out.below B1.out)).mono ?_;rintro e w2 ⟨b,rfl,hl2,hb,hb2⟩;have Z2:=hid (Z1.out.below hb2);have P2:=hid (P1.out.below hb2);have L2:=hid hl2;have B2:=hid (btr B1.out hb2);have hbW:=P1.out.lt;clear hl2 hb2
  go_wp2_with fail
  refine(imParts _ _).mono ?_;rintro e w3 ⟨g,rfl,hg3,hg,hb3⟩;have Z3:=hid (Z2.out.below hb3);have P3:=hid (P2.out.below hb3);have L3:=hid (L2.out.below hb3);have G3:=hid hg3;have B3:=hid (btr B2.out hb3);have hbl:=L2.out.lt;have hne:w.heap.size+1≠b/\w.heap.size+1≠g/\w.heap.size≠b/\w.heap.size≠g:=by omega
  have Hne':=hid hne;clear hg3 hb3 hne hb hg hbl hbW
  by_cases h5:l.length=5
  ·have hA:((l.length:Int) !=5)=false:=by rw[bne_eq_false_iff_eq];omega
   have H5:=hid h5
   go_wp2
   go_loopw [25] (fun kv wr=> ∃(ns:List Nat),ns.length<=5/\kv= .int .i64 (ns.length:Int)/\AY (l.take ns.length=ns.map dec)/\AY (Row wr w.heap.size #[.int .i64 0,.int .i64 0,.int .i64 0,.int .i64 0,.int .i64 0])/\AY (Row wr (w.heap.size+1) (pcells ns))/\AY (Row wr b (l.map vstr).toArray)/\AY (Row wr g #[.pointer (some ⟨w.heap.size+1,0,none⟩),.pointer (some ⟨w.heap.size+1,1,none⟩),.pointer (some ⟨w.heap.size+1,2,none⟩),.pointer (some ⟨w.heap.size+1,3,none⟩),.pointer (some ⟨w.heap.size+1,4,none⟩)])/\AY (A7 w.heap.size w wr)) (fun kv _=>5 -(intOf kv).toNat)
   case atStart=>exact⟨[],by simp,rfl,hid rfl,Z3,P3,L3,G3,B3⟩
   case round=>
    obtain⟨ns,hk,rfl,Hns,Z,Pr,L,G,B⟩:=hrel
    by_cases hlt:ns.length<5
    ·have hltI:(ns.length:Int)<5:=by omega
     have hll:ns.length<l.length:=by omega
     have cl:=L.out.get ns.length (vstr_at hll);have Hnum:=hid (fun w h=>Qn8 l[ns.length] w (by have:=hcl.out _ (AQ hll);unfold big;omega) h);have HLr:=hid (HL.out.below B.out);have Hstep:=hid (A3 hll);obtain⟨x,Hx⟩: ∃x,AY (x=l[ns.length]):=⟨_,hid rfl⟩;rw[<-Hx.out] at cl Hnum Hstep;cases hg:Pl.numGet x with
     |none=>
      have Hf:=hid (Hnn.out ns.length hll (by rw[<-Hx.out];exact hg));rw[hg] at Hnum;clear hg
      go_wp2_with fail
      refine(Hnum.out _ HLr.out).mono ?_;rintro e w4 ⟨rfl,hb4⟩;have Z4:=hid (Z.out.below hb4);have B4:=hid (btr B.out hb4);unfold optNat;have r0:=Z4.out.get 0 rfl;have rg0:=Z4.out.free 0;have r1:=Z4.out.get 1 rfl;have rg1:=Z4.out.free 1;have r2:=Z4.out.get 2 rfl;have rg2:=Z4.out.free 2;have r3:=Z4.out.get 3 rfl;have rg3:=Z4.out.free 3;have r4:=Z4.out.get 4 rfl;have rg4:=Z4.out.free 4;clear cl hb4
      go_wp2
      refine bodyPost_ret (v:= .tuple #[vptr hole,.bool false]) (by simp[results,AB,go_sem,vptr,hole,r0,r1,r2,r3,r4]) rfl ?_;exact⟨B7 ⟨Hf.out,rfl⟩,(bset (bset (bset (bset (bset B4.out (A0 _) 0 _) (A0 _) 1 _) (A0 _) 2 _) (A0 _) 3 _) (A0 _) 4 _)⟩
     |some n=>
      have Hn:=hid (Pl.Qdz hg);rw[hg] at Hnum;clear hg
      go_wp2_with fail
      refine(Hnum.out _ HLr.out).mono ?_;rintro e w4 ⟨rfl,hb4⟩;have Z4:=hid (Z.out.below hb4);have B4:=hid (btr B.out hb4);have P4:=hid (Pr.out.below hb4);have G4:=hid (G.out.below hb4);have L4:=hid (L.out.below hb4);have cg:=G4.out.get ns.length (QjC hlt);obtain⟨old,hold⟩:=Qqh hk hlt;have co:=P4.out.get ns.length hold;have fo:=P4.out.free ns.length;unfold optNat;clear cl hb4 hold
      go_wp2
      go_roundw
      case rel=>
       refine⟨ns++[n],by simp;omega,by simp,hid ?_,hid (Z4.out.far (by omega) _ _),hid ?_,hid (L4.out.far (fun e=>Hne'.out.1 e.symm) _ _),hid (G4.out.far (fun e=>Hne'.out.2.1 e.symm) _ _),hid (bset B4.out (by omega) _ _)⟩
       ·rw[A2,AX,Hstep.out,Hns.out,Hn.out.1,List.map_append];rfl
       ·have:=P4.out.set ns.length (.int .i64 (n:Int))
        rw[Qo5 n hlt] at this;exact this
      case measure=>simp only[intOf,A2];omega
    ·have hk5:ns.length=5:=by omega
     match ns,hk5 with
     |[a1,a2,a3,a4,a5],_=>
     have hl:l=[dec a1,dec a2,dec a3,dec a4,dec a5]:=by
      have h:=Hns.out
      rwa [AT (by rw[h5];simp)] at h
     have c0:wr.cell? ⟨w.heap.size+1,0,none⟩=some (.int .i64 (a1:Int)):=Pr.out.get 0 rfl;have c1:wr.cell? ⟨w.heap.size+1,1,none⟩=some (.int .i64 (a2:Int)):=Pr.out.get 1 rfl;have c2:wr.cell? ⟨w.heap.size+1,2,none⟩=some (.int .i64 (a3:Int)):=Pr.out.get 2 rfl;have c3:wr.cell? ⟨w.heap.size+1,3,none⟩=some (.int .i64 (a4:Int)):=Pr.out.get 3 rfl;have c4:wr.cell? ⟨w.heap.size+1,4,none⟩=some (.int .i64 (a5:Int)):=Pr.out.get 4 rfl;have Hs:=hid (fun p=>Hsame.out p a1 a2 a3 a4 a5 hl);have Hput:=hid (fun w h=>Qn7 ⟨a1,a2,a3,a4,a5⟩ w h);have Hnil:AY (s≠[]):=hid (fun e=>by have:=Hne.out e;omega);have HLr:=hid (HL.out.below B.out);unfold vptr at Hput;dsimp only at Hput;simp only[AG,AJ,Nat.reduceAdd];clear hl Hns hk hlt;generalize hq:Pl.ptrPut ⟨a1,a2,a3,a4,a5⟩=t at Hput;have Hq:=hid hq;clear hq
     by_cases hts:t=s
     ·subst hts
      have Hok:AY (Pl.IsPtr t ⟨a1,a2,a3,a4,a5⟩):=hid ⟨by
       cases ho:ptrOk ⟨a1,a2,a3,a4,a5⟩ with
       |true=>rfl
       |false=>
        have h:=Hq.out;unfold Pl.ptrPut at h;rw[if_neg (by rw[ho];simp)] at h
        exact absurd h.symm Hnil.out,Hq.out⟩
      go_wp2_with (go_at_call 291;refine(Hput.out _ HLr.out).mono ?_;rintro e w4 ⟨rfl,hb4⟩;have Z4:=hid (Z.out.below hb4);have B4:=hid (btr B.out hb4);have P4:=hid (Pr.out.below hb4);clear c0 c1 c2 c3 c4 hb4;have r0:=Z4.out.get 0 rfl;have rg0:=Z4.out.free 0;have r1:=Z4.out.get 1 rfl;have rg1:=Z4.out.free 1;have r2:=Z4.out.get 2 rfl;have rg2:=Z4.out.free 2;have r3:=Z4.out.get 3 rfl;have rg3:=Z4.out.free 3;have r4:=Z4.out.get 4 rfl;have rg4:=Z4.out.free 4;have d0:w4.cell? ⟨w.heap.size+1,0,none⟩=some (.int .i64 (a1:Int)):=P4.out.get 0 rfl;have d1:w4.cell? ⟨w.heap.size+1,1,none⟩=some (.int .i64 (a2:Int)):=P4.out.get 1 rfl;have d2:w4.cell? ⟨w.heap.size+1,2,none⟩=some (.int .i64 (a3:Int)):=P4.out.get 2 rfl;have d3:w4.cell? ⟨w.heap.size+1,3,none⟩=some (.int .i64 (a4:Int)):=P4.out.get 3 rfl;have d4:w4.cell? ⟨w.heap.size+1,4,none⟩=some (.int .i64 (a5:Int)):=P4.out.get 4 rfl)
      refine bodyPost_ret (v:= .tuple #[vptr ⟨a1,a2,a3,a4,a5⟩,.bool true]) (by simp[results,AB,go_sem,vptr,r0,r1,r2,r3,r4]) rfl ?_;exact⟨Or.inl ⟨_,Hok.out,rfl⟩,(bset (bset (bset (bset (bset B4.out (A0 _) 0 _) (A0 _) 1 _) (A0 _) 2 _) (A0 _) 3 _) (A0 _) 4 _)⟩
     ·have hts2:(t==s)=false:=by rw[beq_eq_false_iff_ne];exact hts
      have hts3: ¬s=t:=fun e=>hts e.symm
      have Hf:AY (∀p,¬Pl.IsPtr s p):=hid (fun p hp=>by
       have:=Hs.out p hp;subst this
       exact hts (Hq.out.symm.trans hp.2))
      go_wp2_with (go_at_call 291;refine(Hput.out _ HLr.out).mono ?_;rintro e w4 ⟨rfl,hb4⟩;have Z4:=hid (Z.out.below hb4);have B4:=hid (btr B.out hb4);clear c0 c1 c2 c3 c4 hb4;have r0:=Z4.out.get 0 rfl;have rg0:=Z4.out.free 0;have r1:=Z4.out.get 1 rfl;have rg1:=Z4.out.free 1;have r2:=Z4.out.get 2 rfl;have rg2:=Z4.out.free 2;have r3:=Z4.out.get 3 rfl;have rg3:=Z4.out.free 3;have r4:=Z4.out.get 4 rfl;have rg4:=Z4.out.free 4)
      refine bodyPost_ret (v:= .tuple #[vptr hole,.bool false]) (by simp[results,AB,go_sem,vptr,hole,r0,r1,r2,r3,r4]) rfl ?_;exact⟨B7 ⟨Hf.out,rfl⟩,(bset (bset (bset (bset (bset B4.out (A0 _) 0 _) (A0 _) 1 _) (A0 _) 2 _) (A0 _) 3 _) (A0 _) 4 _)⟩
  ·have hA:((l.length:Int) !=5)=true:=by rw[bne_iff_ne];omega
   have Hf:=hid (Hnl.out h5);have r0:=Z3.out.get 0 rfl;have rg0:=Z3.out.free 0;have r1:=Z3.out.get 1 rfl;have rg1:=Z3.out.free 1;have r2:=Z3.out.get 2 rfl;have rg2:=Z3.out.free 2;have r3:=Z3.out.get 3 rfl;have rg3:=Z3.out.free 3;have r4:=Z3.out.get 4 rfl;have rg4:=Z3.out.free 4;clear h5
   go_wp2
   refine bodyPost_ret (v:= .tuple #[vptr hole,.bool false]) (by simp[results,AB,go_sem,vptr,hole,r0,r1,r2,r3,r4]) rfl ?_;exact⟨B7 ⟨Hf.out,rfl⟩,(bset (bset (bset (bset (bset B3.out (A0 _) 0 _) (A0 _) 1 _) (A0 _) 2 _) (A0 _) 3 _) (A0 _) 4 _)⟩
end Pm
end
section
open Go.RowKit
namespace Aw
variable{a b c:Int}{x y:Ae}{T T':AA}{P:Program}{α:Type}
abbrev rdR(rows:List (List D))(p:Nat):Blk:= .row 0 [.d (.sl true 1 rows),.d (dI p)]
def RdOk(rows:List (List D)):Prop:= ∀r∈rows,∃c:Nat,c<256/\r=[.v (.int .u8 c)]
theorem QpY{rows:List (List D)}(h:RdOk rows)(i:Nat): ∃c:Nat,c<256/\(i<rows.length->rows[i]? =some [.v (.int .u8 c)]):=by
 by_cases hi:i<rows.length
 ·obtain⟨c,h1,h2⟩:=h _ (AQ hi)
  grind
 grind
def QsK{dst:Option Tmp}{ty:AA}{pos:String}{after:Array Edge}{gd:Option (Nat×Bool)}{env:List (Nat×AV)}{H:List Blk}(hx:aval env x= .d (.v (.int .i64 a)))(hy:aval env y= .d (.v (.int .i64 b)))(hc:a -b=c)(h: -9223372036854775808<=a -b/\a -b<=9223372036854775807):
 Loc P ⟨dst,.binOp .sub T x y T',ty,pos,after,gd⟩ env H (.d (.v (.int .i64 c))) none:=hc▸Qhk hx hy h
def Qn3{dst:Option Tmp}{ty:AA}{pos:String}{after:Array Edge}{gd:Option (Nat×Bool)}{env:List (Nat×AV)}{H:List Blk}(hx:aval env x= .d (.v (.int .i64 a)))(hy:aval env y= .d (.v (.int .i64 b)))(hc:a%b=c)(ha:0<=a)(hb:0<b):
 Loc P ⟨dst,.binOp .rem T x y T',ty,pos,after,gd⟩ env H (.d (.v (.int .i64 c))) none:=hc▸Qgs hx hy ha hb
def Qn4{dst:Option Tmp}{ty:AA}{pos:String}{after:Array Edge}{gd:Option (Nat×Bool)}{env:List (Nat×AV)}{H:List Blk}(hx:aval env x= .d (.v (.int .i64 a)))(hy:aval env y= .d (.v (.int .i64 b)))(hc:a/b=c)(ha:0<=a/\a<=9223372036854775807)(hb:0<b):
 Loc P ⟨dst,.binOp .quo T x y T',ty,pos,after,gd⟩ env H (.d (.v (.int .i64 c))) none:=hc▸Qgt hx hy ha hb
def QcO(rows:List (List D))(i:Nat):Int:=match rows[i]? with
 |some [.v (.int _ c)]=>c
 |_=>0
def QcI(rows:List (List D))(p:Int):Int:=QcO rows (p%rows.length).toNat*131+QcO rows ((p*7+3)%rows.length).toNat*1117+p*29+p/rows.length*53
def QaO(rows:List (List D))(p:Nat)(n:Int):Int:=
 if n<1∨rows.length=0 then 0 else if p<rows.length then QcO rows p%n else Qch (QcI rows p) (QcI rows p/64)%n
theorem QrG{rows:List (List D)}{i c:Nat}(h:rows[i]? =some [.v (.int .u8 c)]):QcO rows i=c:=by grind [QcO]
def pkv_b{rows:List (List D)}(h:RdOk rows)(p:Nat)(n:Int):0<=QaO rows p n/\(QaO rows p n<n∨QaO rows p n=0):=by
 unfold QaO;split
 ·omega
 ·have hn:0<n:=by omega
  split
  ·exact⟨AC _ (by omega),.inl (A6 _ hn)⟩
  ·exact⟨AC _ (by omega),.inl (A6 _ hn)⟩
theorem Qp1{c:Nat}(h:c<256):Ay.wrap (c:Int)=c:=by grind [Pm.Qgm]
attribute [local irreducible] ASeq ADraw AWP Loc AStep Fg.PlanF Fg.Flts EndR
def ePick(rows:List (List D))(hr:RdOk rows)(p:Nat)(hp:p<=1000000)(n:Int)(hn:n<=1000000):
 DoesE A1 21 [.ptr 0 0 0,.d (dI n)] [rdR rows p] [.ptr 0 0 0] (fun x H=>x= .d (dI (QaO rows p n))/\H=[rdR rows (p+1)]):=by
 have hd:=Pm.hid (QaO.eq_def rows p n);have hmx:QcI rows p=QcO rows ((p:Int)%rows.length).toNat*131+QcO rows (((p:Int)*7+3)%rows.length).toNat*1117+(p:Int)*29+(p:Int)/rows.length*53:=rfl;generalize QaO rows p n=res at*;generalize QcI rows p=mx at*;obtain⟨c0,h0,r0⟩:=QpY hr (p:Int).toNat;obtain⟨c1,h1,r1⟩:=QpY hr ((p:Int)%rows.length).toNat;obtain⟨c2,h2,r2⟩:=QpY hr (((p:Int)*7+3)%rows.length).toNat;have w0:=Qp1 h0;have w1:=Qp1 h1;have w2:=Qp1 h2;have m1:0<rows.length->0<=(p:Int)%rows.length/\(p:Int)%rows.length<rows.length:=fun h=>⟨AC _ (by omega),A6 _ (by omega)⟩
 have m2:0<rows.length->0<=((p:Int)*7+3)%rows.length/\((p:Int)*7+3)%rows.length<rows.length:=fun h=>⟨AC _ (by omega),A6 _ (by omega)⟩
 have m3:0<rows.length->0<=(p:Int)/rows.length/\(p:Int)/rows.length<=p:=fun h=>⟨Int.ediv_nonneg (by omega) (by omega),Int.ediv_le_self _ (by omega)⟩
 by_cases hl:n<1∨rows.length=0
 ·clear r0 r1 r2 m1 m2 m3
  refine kH fun gvs=>?_
  repeat' first|refine kA ?_|refine kV ?_ ?_<;>intro q|fail
  all_goals first|refine Q1 1 (hx:=?_);rw[hd.out,if_pos hl];exact⟨rfl,rfl⟩|exfalso;simp only[beq_eq_false_iff_ne,decide_eq_false_iff_not,ne_eq] at*;omega
 replace m1:=m1 (by omega)
 replace m2:=m2 (by omega)
 replace m3:=m3 (by omega)
 generalize hk1:(p:Int)%rows.length=k1 at*;generalize hk2:((p:Int)*7+3)%rows.length=k2 at*;generalize hk3:(p:Int)/rows.length=k3 at*
 replace r1:=r1 (by omega)
 replace r2:=r2 (by omega)
 rw[QrG r1,QrG r2] at hmx;have hA:AY (p<rows.length->res=c0%n):=Pm.hid fun h=>by rw[hd.out,if_neg hl,if_pos h,QrG (i:=p) (r0 h)]
 have hB:AY (¬p<rows.length->res=Qch ((c1:Int)*131+(c2:Int)*1117+(p:Int)*29+k3*53) (((c1:Int)*131+(c2:Int)*1117+(p:Int)*29+k3*53)/64)%n):=Pm.hid fun h=>by rw[hd.out,if_neg hl,if_neg h,hmx]
 clear hd hmx;have hn1:1<=n:=by omega
 have hl1:0<rows.length:=by omega
 clear hl;refine kH fun gvs=>?_
 repeat' first|refine kS ?_|refine qS (QsK (c:=(p:Int)) rfl rfl (by omega) (by omega)) ?_|refine qS (QcV Ty.h rfl Ty.h rfl rfl rfl (by omega) (r0 (by simp only[decide_eq_true_eq] at*;omega))) ?_|refine qD (iy r1) ?_|refine qD (iy r2) ?_|refine qS (QdJ A4 AH rfl rfl w0) ?_|refine qD (QdJ A4 AH rfl rfl w1) ?_|refine qD (QdJ A4 AH rfl rfl w2) ?_|refine qD (Qn3 rfl rfl hk1 (by omega) (by omega)) ?_|refine qD (Qn3 rfl rfl hk2 (by omega) (by omega)) ?_|refine qD (Qn4 rfl rfl hk3 (by omega) (by omega)) ?_|refine qD (Qdu rfl rfl (by omega)) ?_|refine qS (Qgt rfl rfl (by omega) (by omega)) ?_|refine qS (loc_xor rfl rfl (by omega) (by omega)) ?_|refine qS (Qgs rfl rfl (xorI_nn _ _) (by omega)) ?_|refine qS (Qgs rfl rfl (by omega) (by omega)) ?_|refine kU ?_|refine kV ?_ ?_<;>intro q|fail
 all_goals first|exfalso;simp only[beq_iff_eq,decide_eq_true_eq] at*;omega|refine Q1 1 (hx:=?_);rw[hA.out (by simp only[decide_eq_true_eq] at*;omega)];exact⟨rfl,rfl⟩|refine Q1 1 (hx:=?_);rw[hB.out (by simp only[decide_eq_false_iff_not] at*;omega)];exact⟨rfl,rfl⟩
section
variable{ops:Array Oper}{Q:Exit->St->Prop}{l:List Oper}{n:Nat}{env:List (Nat×AV)}{H H':List Blk}{d:Tmp}{ty:AA}{pos:String}{after:Array Edge}{gd:Option (Nat×Bool)}{xs:Array Ae}{tys:Array AA}{rows:List (List D)}{p:Nat}{m:Int}
def aw_pk(k:Nat)(hr:RdOk rows)(hargs:xs.toList.map (aval env)=[.ptr k 0 0,.d (dI m)]:=by rfl)(hH:H[k]? =some (rdR rows p):=by rfl)(hp:p<=1000000:=by omega)(hm:m<=1000000:=by omega)
 (hw:awanted ops env ⟨some d,.call ⟨.value (.func 21),xs,tys⟩,ty,pos,after,gd⟩=some true:=by rfl) (hd:Nat.blt d n=true:=by rfl) (hg:gdOk ops n ⟨some d,.call ⟨.value (.func 21),xs,tys⟩,ty,pos,after,gd⟩=true:=by rfl)
 (hH': ∀R:List Blk->Prop,R H'->R (H.set k (rdR rows (p+1))):=by intro R hR;simp only[List.set_cons_zero,List.set_cons_succ];exact hR)
 (kk: ∀v:Nat,((v:Int)<m∨v=0)->ASeq A1 ops Q l ⟨n,(d,.d (dI v))::env,H'⟩):ASeq A1 ops Q (⟨some d,.call ⟨.value (.func 21),xs,tys⟩,ty,pos,after,gd⟩::l) ⟨n,env,H⟩:=by
 have e:=hH' (fun r=>r=H') rfl;obtain⟨h1,h2⟩:=pkv_b hr p m;refine QA [k] (ePick rows hr p hp m hm) Tryz.call21 (hargs:=hargs) (hks:=by simp[hH,Blk.ren,AV.renL,AV.ren]) (hnd:=by simp) (hw:=hw) (hd:=hd) (hg:=hg) (k:=?_);rintro _ _ ⟨rfl,rfl⟩;have:=kk (QaO rows p m).toNat (by omega);rw[Int.toNat_of_nonneg h1] at this;rw[<-e] at this;show ASeq _ _ _ _ ⟨_,_,H.set k (rdR rows (p+1))++[]⟩;rw[List.append_nil];exact this
end
def Qkp{p:α->Prop}{l:List α}{d:α}(h: ∀x∈l,p x)(hd:p d)(i:Nat):p (l.getD i d):=by
 rw[AL];cases h2:l[i]? with
 |none=>exact hd
 |some x=>exact h x (List.mem_of_getElem? h2)
def QdT{f:α->List D}(l:List α)(d:α){v n:Nat}(hl:l.length=n)(h:v<n):(l.map f)[(v:Int).toNat]? =some (f (l.getD v d)):=by
 rw[Int.toNat_natCast,Ai,AL,List.getElem?_eq_getElem (by omega)];rfl
def Qbv(x:Int):UInt8:=UInt8.ofNat (x%256).toNat
def QtN(x:Int):IntKind.u8.wrap x=((Qbv x).toNat:Int):=by
 have h1:=AC x (show(256:Int)≠0 by decide);have h2:=A6 x (show(0:Int)<256 by decide);show x%256=_;unfold Qbv;rw[UInt8.toNat_ofNat'];omega
def eOpen(rows:List (List D))(hr:RdOk rows):DoesE A1 18 [.d (.sl true 1 rows)] [] [] (fun x H=> ∃r,RdOk r/\x= .ptr 0 0 0/\H=[rdR r 0]):=by
 refine kH fun gvs=>?_
 repeat' first|refine kS ?_|refine qS (QfX rfl rfl rfl (by omega) (by simp only[decide_eq_true_eq] at*;omega)) ?_|refine kU ?_|refine kV ?_ ?_<;>intro q|fail
 all_goals first|refine Q1 1 (hx:=?_);exact⟨_,hr,rfl,rfl⟩|refine Q1 1 (hx:=?_);exact⟨_,fun r h=>hr r (List.mem_of_mem_take h),rfl,rfl⟩
def ePath(rows:List (List D))(hr:RdOk rows)(p:Nat)(hp:p<=900000):
 DoesE A1 35 [.ptr 0 0 0] [rdR rows p] [.ptr 0 0 0] (fun x H=> ∃s:List UInt8,s.length<=12/\x= .d (dS s)/\H=[rdR rows (p+2)]):=by
 refine kH fun gvs=>?_
 repeat' first|refine kS ?_|(refine aw_pk 0 hr (kk:=?_);intro v hv)|refine qS (Qd0 Ty.h rfl Ty.h) ?_|refine qS (QcV Ty.h rfl Ty.h rfl rfl rfl (by omega) (QdT (f:=fun s=>[dS s]) [[],[97],[47,47],[47,97,47],[47,65],[47,97,47,98,47,99,47,97,47,98],[47,97,98,99,100,101],[47,97,47,47,98]] [] (n:=8) rfl (by omega))) ?_|refine qS (QcV Ty.h rfl Ty.h rfl rfl rfl (by omega) (QdT (f:=fun s=>[dS s]) [[47,97],[47,98],[47,97,47,98],[47,97,47,99],[47,98,47,97],[47,99],[47,97,47,98,47,99],[47,99,47,97],[47,97,98],[47]] [] (n:=10) rfl (by omega))) ?_|refine kU ?_|refine kV ?_ ?_<;>intro q|fail
 all_goals first|refine Q1 1 (hx:=?_);exact⟨_,Qkp (p:=fun s:List UInt8=>s.length<=12) (by decide) (by decide) _,rfl,rfl⟩
def eRow(rows:List (List D))(hr:RdOk rows)(p:Nat)(hp:p<=900000):
 DoesE A1 157 [.ptr 0 0 0] [rdR rows p] [.ptr 0 0 0] (fun x H=> ∃z:Int,(-1<=z/\z<=64)/\x= .d (dI z)/\H=[rdR rows (p+2)]):=by
 refine kH fun gvs=>?_
 repeat' first|refine kS ?_|(refine aw_pk 0 hr (kk:=?_);intro v hv)|refine qS (Qd0 Ty.h rfl Ty.h) ?_|refine qS (QcV Ty.h rfl Ty.h rfl rfl rfl (by omega) (QdT (f:=fun z=>[dI z]) [-1,0,3,7,64,63] 0 (n:=6) rfl (by omega))) ?_|refine kU ?_|refine kV ?_ ?_<;>intro q|fail
 all_goals first|refine Q1 1 (hx:=?_);exact⟨_,Qkp (p:=fun z:Int=> -1<=z/\z<=64) (by decide) (by decide) _,rfl,rfl⟩|refine Q1 1 (hx:=?_);exact⟨_,by omega,rfl,rfl⟩
def eMany6(s:List UInt8)(n:Nat)(hs:s.length*n<=1000000)(hs1:s.length<=1000000)(hn:n<=1000000):DoesE A1 153 [.d (dS s),.d (dI n)] [] [] (fun x H=> ∃t:List UInt8,t.length<=1000000/\x= .d (dS t)/\H=[]):=by
 refine kH fun gvs=>?_
 repeat refine kA ?_
 refine Qo (fun m st=> ∃(n:Nat) (out s:List UInt8),m=n/\n<=1000000/\out.length+s.length*n<=1000000/\s.length<=2000000/\st=⟨20,[(5,.d (dS out)),(0,.d (dS s)),(1,.d (dI n)),(1000000,.gh [] gvs)],[]⟩) [5,0,1,1000000] 0 n
  ⟨n,[],s,rfl,hn,by simpa using hs,by omega,rfl⟩ (round:=?_)
 clear hs hs1 hn s n;rintro n st ⟨_,out,s,rfl,hn,hb,hs,rfl⟩
 repeat refine kG ?_
 cases q3:decide ((n:Int)>0)
 ·repeat refine kA ?_
  all_goals first|refine Q1 0 (hx:=?_);exact⟨_,by omega,rfl,rfl⟩
 have hn0:0<n:=by simp only[decide_eq_true_eq] at q3;omega
 have h1:s.length<=s.length*n:=Nat.le_mul_of_pos_right _ hn0
 have h2:s.length*n=2*(s.length*(n/2))+s.length*(n%2):=by
  conv=>lhs;rw[<-Nat.div_add_mod n 2]
  rw[Nat.mul_add,<-Ac,<-Ac,Nat.mul_comm s.length 2]
 have h3:(s++s).length*(n/2)=2*(s.length*(n/2)):=by rw[A2,<-Nat.two_mul,Ac]
 generalize s.length*(n/2)=X at*;have h4:((n:Int)/2).toNat=n/2:=by omega
 have h5:(n:Int)/2=((n/2:Nat):Int):=by omega
 repeat' first|refine kS ?_|refine qS (Qgs rfl rfl (by omega) (by omega)) ?_|refine qS (Qn4 rfl rfl h5 (by omega) (by omega)) ?_|refine qS (QcX rfl rfl (by omega)) ?_|refine kU ?_|refine kV ?_ ?_<;>intro q|fail
 all_goals first
  |(refine Qh (n/2) (by omega) ⟨n/2,out++s,s++s,rfl,by omega,?_,by simp;omega,?_⟩
    ·have:n%2=1:=by simp only[beq_iff_eq] at*;omega
     rw[this] at h2;rw[h3,A2];omega
    ·simp[keepE,go_sem];done)
  |(refine Qh (n/2) (by omega) ⟨n/2,out,s++s,rfl,by omega,by rw[h3];omega,by simp;omega,?_⟩
    simp[keepE,go_sem];done)
def QjG(l:List UInt8)(b:UInt8):rBy l++[[.v (.int .u8 b.toNat)]]=rBy (l++[b]):=by simp[rBy]
def TI(rows:List (List D))(p n many kind:Nat)(gvs:List Aa)(m:Nat)(st:St):Prop:= ∃(out:List UInt8) (g p':Nat),m=many -out.length/\out.length<=n/\p'<=p+2+2*out.length/\
    st=⟨72,[(5,.osl 1 g 0 out.length),(6,.d (dI many)),(7,.d (dI kind)),(0,.ptr 0 0 0),(1000000,.gh [.ptr 0 0 0] gvs)],[rdR rows p',.arr g 1 5 (rBy out)]⟩
theorem TI_step{rows:List (List D)}{p n many kind g p' k:Nat}{gvs:List Aa}{out:List UInt8}{b:UInt8}{st:St}(h1:out.length<n)(hk:k=many -(out.length+1))
 (hs:st=⟨72,[(5,.osl 1 g 0 (out.length+1)),(6,.d (dI many)),(7,.d (dI kind)),(0,.ptr 0 0 0),(1000000,.gh [.ptr 0 0 0] gvs)],[rdR rows p',.arr g 1 5 (rBy out++[[.v (.int .u8 b.toNat)]])]⟩:=by simp only[keepE,go_sem];rfl) (h2:p'<=p+2+2*out.length+1:=by omega):TI rows p n many kind gvs k st:=by
 refine⟨out++[b],g,p',by grind,by grind,by grind,?_⟩
 grind
def eText(rows:List (List D))(hr:RdOk rows)(p:Nat)(hp:p<=900000)(n:Nat)(hn:n<=1000):
 DoesE A1 20 [.ptr 0 0 0,.d (dI n)] [rdR rows p] [.ptr 0 0 0] (fun x H=> ∃(s:List UInt8) (p':Nat),s.length<=n/\p'<=p+2+2*n/\x= .d (dS s)/\H=[rdR rows p']):=by
 refine kH fun gvs=>?_
 repeat' first|refine kS ?_|(refine aw_pk 0 hr (kk:=?_);intro v hv)|refine kU ?_|fail
 rename_i many hmany;generalize v=kind at*;refine Qo (TI rows p n many kind gvs) [5,6,7,0,1000000] 2 many ⟨[],0,p+1+1,by simp,by simp,by simp,rfl⟩ (round:=?_);rintro m st ⟨out,g,p',rfl,hol,hp',rfl⟩
 repeat refine kG ?_
 cases q3:decide ((out.length:Int)<(many:Int))
 ·repeat' first|refine kS ?_|refine qS (QhN Aj A4 Tryz.underlying9 rfl rfl rfl) ?_|refine kU ?_|fail
  all_goals first|refine Q1 1 (hx:=?_);exact⟨out,p',hol,by omega,rfl,rfl⟩
 have hlt:out.length<many:=by simp only[decide_eq_true_eq] at q3;omega
 have hmn:many<=n:=by omega
 repeat' first|refine kS ?_|(refine aw_pk 0 hr (kk:=?_);intro v hv)|(refine QhH (QnO Aj A4 rfl rfl rfl (by decide)) (k:=?_);refine Qd1 (hX:=fun _ hR=>hR) (k:=?_))|refine qS (Qh9 Ty.h rfl Ty.h rfl (l:=[97,98,126,48,58,59,61]) rfl rfl (by simp only[AG,AJ];omega)) ?_|refine qS (QdJ AH A4 rfl rfl (QtN _)) ?_|refine qS (Qdu rfl rfl (by omega)) ?_|refine QV Ty.h rfl Ty.h (hb:=?_) (kk:=?_)|refine kU ?_|refine kV ?_ ?_<;>intro q|fail
 all_goals first|show((rBy out).length+1)*1<=140737488355328;rw[AW];omega|refine Qh (many -(out.length+1)) (by omega) (TI_step (out:=out) (by omega) rfl)|skip
 rename_i v0 hv0;have hb: ∃b:UInt8,Qbv (97+(v0:Int))=b:=⟨_,rfl⟩;obtain⟨b,hb⟩:=hb;rw[hb]
 refine Qo (fun m st=> ∃(k:Int) (o:List UInt8) (g:Nat),m=(k+1).toNat/\k<=6/\o.length<=n/\(0<=k/\o.length=out.length∨out.length<o.length)/\
  st=⟨72,[(9,.d (dI k)),(8,.d (dU b)),(5,.osl 1 g 0 o.length),(6,.d (dI many)),(7,.d (dI kind)),(0,.ptr 0 0 0),(1000000,.gh [.ptr 0 0 0] gvs)],[rdR rows (p'+1+1),.arr g 1 5 (rBy o)]⟩) [9,8,5,6,7,0,1000000] 2 (v+1)
  ⟨v,out,g,by omega,by omega,hol,.inl ⟨by omega,rfl⟩,rfl⟩ (round:=?_)
 rintro m st ⟨k,o,g,rfl,hk6,hol2,hpr,rfl⟩
 repeat refine kG ?_
 by_cases hc:0<=k/\o.length<many
 ·repeat' first|refine kS ?_|refine QV Ty.h rfl Ty.h (hb:=?_) (kk:=?_)|refine kU ?_|refine kV ?_ ?_<;>intro q|fail
  all_goals first|exfalso;simp only[decide_eq_false_iff_not] at*;omega|show((rBy o).length+1)*1<=140737488355328;rw[AW];omega|refine Qh k.toNat (by omega) ⟨k -1,o++[b],g+1,by omega,by omega,by rw[A2];simp only[AG,AJ];omega,.inr (by rw[A2];simp only[AG,AJ];omega),?_⟩;simp only[keepE,go_sem,<-QjG,A2];rfl
 ·repeat' first|refine kA ?_|refine kV ?_ ?_<;>intro q|fail
  all_goals first|exfalso;simp only[decide_eq_true_eq] at*;omega|refine Qh (many -o.length) (by simp only[decide_eq_false_iff_not,decide_eq_true_eq] at*;omega) ⟨o,g,p'+1+1,rfl,hol2,by simp only[decide_eq_false_iff_not,decide_eq_true_eq] at*;omega,?_⟩;simp[keepE,go_sem];done
