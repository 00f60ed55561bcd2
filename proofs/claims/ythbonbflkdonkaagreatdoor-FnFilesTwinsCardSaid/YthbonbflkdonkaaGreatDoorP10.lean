/- Of ftw_card; no condition. -/
import Derived.Test.YthbonbflkdonkaaGreatDoorP08
set_option linter.all false
set_option maxRecDepth 100000
set_option maxHeartbeats 4000000
open Go renaming TypeId->A6
open Go.Proofs.Tryz renaming prog->A1
open Go.RowKit.Below renaming refl->A4
open List renaming getElem?_eq_getElem->A0,range->A2,getD_eq_getElem?_getD->A3
open Nat renaming zero_add->A5
namespace Go.Proofs.YthbonbflkdonkaaGreatDoor
noncomputable section
section
open Go.RowKit
namespace Pl
variable{f i k:Nat}{b:UInt8}{p:Nat->Bool}
def QrZ{s:Str}(hf:f<=i)(hi:i<s.length)(hn:b∉(s.drop f).take (i -f))(hb:s[i]=b):
 cutB b (s.drop f)=(s.drop f).take (i -f)::cutB b (s.drop (i+1)):=by
 have h1:s.drop f=(s.drop f).take (i -f)++b::s.drop (i+1):=by
  conv=>lhs;rw[<-List.take_append_drop (i -f) (s.drop f)]
  rw[List.drop_drop,show f+(i -f)=i by omega,List.drop_eq_getElem_cons hi,hb]
 rw[h1,Qel _ _ _ hn,<-h1]
def Ql4{s:Str}(hf:f<=i)(hi:i<s.length)(hn:b∉(s.drop f).take (i -f))(hb:s[i]≠b):b∉(s.drop f).take (i+1 -f):=by
 have hlt:i -f<(s.drop f).length:=by rw[List.length_drop];omega
 rw[show i+1 -f=(i -f)+1 by omega,List.take_succ_eq_append_getElem hlt,List.mem_append,List.mem_singleton];rintro(h|h)
 ·exact hn h
 ·apply hb;rw[h,List.getElem_drop];congr 1;omega
def QdM(i:Nat)(n last:Int):Bool:=inR last 0 900&&inR n 0 last&& !(decide (n=0)&&decide (last≠0))&& !(!(inR i 8 63)&&decide (0<n))
def QdZ(refs last:List Int):Nat->Bool:=fun i=>QdM i (refs.getD i 0) (last.getD i 0)
def spaceOk(s:List Int×List Int):Bool:=decide (s.1.length=64)&&decide (s.2.length=64)&&(A2 64).all (QdZ s.1 s.2)
theorem Qdo(h:(A2 k).all p=true)(hk:p k=true):(A2 (k+1)).all p=true:=by grind
theorem Qdj{n:Nat}(hn:k<n)(hk:p k=false):(A2 n).all p=false:=by grind
end Pl
end
section
open Go.RowKit
namespace Pm
open Pl (dec dch inR Ptr hole ptrHole ptrOk)
theorem cutB_le'(b:UInt8): ∀(s:Str),∀x∈Pl.cutB b s,x.length<=s.length
 :=by intro l;induction l<;>grind [Pl.cutB]
def cutB_le{b:UInt8}{s:Str}{n:Nat}(h:s.length<=n): ∀x∈Pl.cutB b s,x.length<=n:=fun x hx=>Nat.le_trans (cutB_le' b s x hx) h
def PtrPost(s:Str)(w:World)(e:Ending)(w':World):Prop:=
 ((∃p,Pl.IsPtr s p/\e= .returned (.tuple #[vptr p,.bool true]))∨((∀p,¬Pl.IsPtr s p)/\e= .returned (.tuple #[vptr hole,.bool false])))/\Below w.heap.size w w'
end Pm
end
section
open Go.RowKit
namespace Aw
variable{f:FuncId}{ds:List D}{tys:Array A6}{xs:Array Operand}{R A:Prop}
abbrev dI(n:Int):D:= .v (.int .i64 n)
abbrev dB(b:Bool):D:= .v (.bool b)
abbrev dS(s:List UInt8):D:= .v (.string ⟨s.toArray⟩)
abbrev dPtr(p:Pl.Ptr):D:= .agg [dI p.pat,dI p.birth,dI p.size,dI p.sum,dI p.level]
def Qdt(p:Pl.Ptr):Pure A1 70 [dPtr p] (dB (Pl.ptrHole p)):=Qd5 rfl fun w _=>Pm.Qqy p w
def aSumOf(s:List UInt8)(h:s.length<=Pm.big):Pure A1 178 [dS s] (dI (Pl.sumOf s:Nat)):=Qd5 rfl fun w _=>(Pm.spSumOf s w h).mono fun e w' h=>⟨h.1,h.2▸A4 _ _⟩
def QaX(p:Pl.Ptr)(s:List UInt8):Bool:=Pl.ptrOk p&& !Pl.ptrHole p&&(p.size==(s.length:Int))&&(p.sum==((Pl.sumOf s:Nat):Int))
attribute [local irreducible] ASeq ADraw AWP Loc
def follows_mixed:A1.follows .mixedOrders=true:=Pm.follows_mixed
def cK{P:Program}(h: ∀args w,(callFunc f args).run P w= .ok (.enter f args) w:=by intros;kernel_rfl): ∀args w,(callFunc f args).run P w= .ok (.enter f args) w:=h
def lK{P:Program}{dst:Option Tmp}{ty:A6}{pos:String}{after:Array Edge}{gd:Option (Nat×Bool)}{env:List (Nat×AV)}{H:List Blk}{x:D}(hd:allD (xs.toList.map (aval env))=some ds)(h:Pure P f ds x)(hf: ∀args w,(callFunc f args).run P w= .ok (.enter f args) w:=by intros;kernel_rfl):Loc P ⟨dst,.call ⟨.value (.func f),xs,tys⟩,ty,pos,after,gd⟩ env H (.d x) none:=Qdr hf h hd
def kE{Q:Prop}(k:Q)(h:Q->R:=by intro k;refine Qg3 (by rfl) (by conv=>lhs;whnf;rfl) (by conv=>lhs;whnf;rfl) (by conv=>lhs;whnf;rfl) rfl ?_;simp only[parE,Nat.zero_add,Nat.reduceAdd];refine Qjj (Qeu ?_);(repeat(first|refine e1 (k:=?_)|refine e2 (k:=?_)|refine e0 (k:=?_)|fail));exact QfE k):R:=h k
def kX{Q:Prop}(k:Q)(h:Q->R:=by intro k;rintro _ _ ⟨rfl,rfl⟩;exact QdE (k:=k)):R:=h k
def kY{Q:Prop}(k:Q)(h:Q->R:=by intro k;rintro _ _ ⟨rfl,rfl⟩;exact Fk.aw_nrmM (k:=k)):R:=h k
def kZ{Q:Prop}(k:Q)(h:Q->R:=by intro k;rintro _ _ ⟨rfl,rfl⟩;exact QkS (k:=k)):R:=h k
def kN{Q:Prop}(k:Q)(h:Q->R:=by intro k;exact Qg3 (by rfl) (by conv=>lhs;whnf;rfl) (by conv=>lhs;whnf;rfl) (by conv=>lhs;whnf;rfl) rfl k):R:=h k
def kB{Q:Prop}(k:Q)(h:Q->R:=by intro k;refine Qg3 (by rfl) (by conv=>lhs;whnf;rfl) (by conv=>lhs;whnf;rfl) (by conv=>lhs;whnf;rfl) rfl ?_;simp only[parE,Nat.zero_add,Nat.reduceAdd];exact k):R:=h k
def kC{Q:Prop}(k:Q)(h:Q->R:=by intro k;refine QhH (by rfl) (by conv=>lhs;whnf;rfl) (by conv=>lhs;whnf;rfl) (by conv=>lhs;whnf;rfl) rfl ?_;simp only[parE,Nat.zero_add,Nat.reduceAdd];exact k):R:=h k
def kD{Q:Prop}(k:Q)(h:Q->R:=by intro k;refine QhH (by rfl) (by conv=>lhs;whnf;rfl) (by conv=>lhs;whnf;rfl) (by conv=>lhs;whnf;rfl) rfl ?_;simp only[parE,Nat.zero_add,Nat.reduceAdd];refine Qjj (Qeu ?_);(repeat(first|refine e1 (k:=?_)|refine e2 (k:=?_)|refine e0 (k:=?_)|fail));exact QfE k):R:=h k
def kF{Q:Prop}(k:Q)(h:Q->R:=by intro k;refine Qlx (by rfl) (by conv=>lhs;whnf;rfl) (by conv=>lhs;whnf;rfl) (by conv=>lhs;whnf;rfl) rfl ?_;simp only[parA,Nat.zero_add,Nat.reduceAdd];exact k):R:=h k
def kH{G:Type}{Q:G->Prop}(k: ∀g,Q g)(h:(∀g,Q g)->R:=by intro k;refine Qhg (by rfl) (by conv=>lhs;whnf;rfl) (by conv=>lhs;whnf;rfl) (by conv=>lhs;whnf;rfl) rfl rfl (fun gvs=>?_);have k:=k gvs;simp only[parA,gslot,Nat.zero_add,Nat.reduceAdd];refine Qjj (Qeu ?_);(repeat(first|refine e1 (k:=?_)|refine e2 (k:=?_)|refine e0 (k:=?_)|fail));exact QfE k):R:=h k
def kJ{G:Type}{Q:G->Prop}(k: ∀g,Q g)(h:(∀g,Q g)->R:=by intro k;refine Qhg (by rfl) (by conv=>lhs;whnf;rfl) (by conv=>lhs;whnf;rfl) (by conv=>lhs;whnf;rfl) rfl rfl (fun gvs=>?_);have k:=k gvs;simp only[parA,gslot,Nat.zero_add,Nat.reduceAdd];exact k):R:=h k
def kL{G:Type}{Q:G->Prop}(a:A)(k: ∀g,Q g)(h:A->(∀g,Q g)->R:=by intro a k;exact Qno (by rfl) (by conv=>lhs;whnf;rfl) (by conv=>lhs;whnf;rfl) (by conv=>lhs;whnf;rfl) rfl rfl a k):R:=h a k
def kA{Q:Prop}(k:Q)(h:Q->R:=by intro k;first|(show ASeq _ _ _ _ _;first|exact e1 (k:=k)|exact e0 (k:=k)|exact QfE k|exact Qjo k|exact Qho k|exact qS (lK rfl (by assumption)) k|(refine stepS (QiD rfl rfl ?_) (k:=k)<;>omega)|(refine stepS (Qdv Ty.h rfl Ty.h rfl rfl rfl rfl ?_ ?_) (k:=k)<;>omega)|exact stepS (QgU rfl rfl) (k:=k)|(refine stepS (Qhx rfl rfl ?_) (k:=k)<;>omega)|exact stepS (Qdp rfl rfl) (k:=k)|exact stepS (Qd8 rfl rfl) (k:=k)|exact stepS (Qdp (m:=[]) rfl rfl) (k:=k)|exact stepS (Qd8 (m:=[]) rfl rfl) (k:=k)|exact stepS (Qf4 TyBool.h rfl rfl) (k:=k)|exact stepS (QeI TyBool.h rfl rfl) (k:=k)|exact stepS2 (QiC Ty.h rfl Ty.h) (k:=k)|exact stepS2 (Qrg Ty.h rfl Ty.h rfl rfl) (k:=k)|exact Qo6 (kk:=k)|exact e2 (k:=k))|(show ADraw _ _ _ _ _;first|exact f1 (k:=k)|exact f0 (k:=k)|exact Qms k|exact QjY k|exact qD (lK rfl (by assumption)) k|(refine stepD (QiD rfl rfl ?_) (k:=k)<;>omega)|(refine stepD (Qdv Ty.h rfl Ty.h rfl rfl rfl rfl ?_ ?_) (k:=k)<;>omega)|exact stepD (QgU rfl rfl) (k:=k)|(refine stepD (Qhx rfl rfl ?_) (k:=k)<;>omega)|exact stepD (Qdp rfl rfl) (k:=k)|exact stepD (Qd8 rfl rfl) (k:=k)|exact stepD (Qdp (m:=[]) rfl rfl) (k:=k)|exact stepD (Qd8 (m:=[]) rfl rfl) (k:=k)|exact stepD (Qf4 TyBool.h rfl rfl) (k:=k)|exact stepD (QeI TyBool.h rfl rfl) (k:=k)|exact stepD2 (QiC Ty.h rfl Ty.h) (k:=k)|exact f2 (k:=k))|(show AWP _ _ _ _;first|exact Qjj k|exact Qeu k|exact Qsx follows_mixed (by kernel_rfl) (by kernel_rfl) k|exact QkW (ht:=k)|exact QkX (hf:=k)|exact QkO k|exact Qjh k|exact QkQ k)|(show thenA _ _ _ _;first|exact Qqa k|exact Qn3 k)|(show blockA _ _ _ _;first|exact Qmt k|exact QmE k|exact Qkd (h:=k))|exact Fg.aw_flt (k:=k)|exact Fg.aw_fltN k|exact Fg.aw_planFC k|exact Fg.aw_planFN k|exact Fk.aw_flt (k:=k)|exact Fk.aw_fltN k|exact Fk.aw_planC0 k|exact Fk.aw_planN0 k|exact Fk.aw_stepM k|exact Fk.aw_grew (k:=k)|exact Fk.aw_gs (k:=k)|exact QjW (kk:=k)|fail):R:=h k
def kS{Q:Prop}(k:Q)(h:Q->R:=by intro k;first|(show ASeq _ _ _ _ _;first|exact e1 (k:=k)|exact e0 (k:=k))|(show ADraw _ _ _ _ _;first|exact f1 (k:=k)|exact f0 (k:=k))|fail):R:=h k
def kU{Q:Prop}(k:Q)(h:Q->R:=by intro k;first|(show ASeq _ _ _ _ _;first|exact QfE k|exact Qjo k|exact Qho k|exact qS (lK rfl (by assumption)) k|(refine stepS (QiD rfl rfl ?_) (k:=k)<;>omega)|(refine stepS (Qdv Ty.h rfl Ty.h rfl rfl rfl rfl ?_ ?_) (k:=k)<;>omega)|exact stepS (QgU rfl rfl) (k:=k)|(refine stepS (Qhx rfl rfl ?_) (k:=k)<;>omega)|exact stepS (Qdp rfl rfl) (k:=k)|exact stepS (Qd8 rfl rfl) (k:=k)|exact stepS (Qdp (m:=[]) rfl rfl) (k:=k)|exact stepS (Qd8 (m:=[]) rfl rfl) (k:=k)|exact stepS (Qf4 TyBool.h rfl rfl) (k:=k)|exact stepS (QeI TyBool.h rfl rfl) (k:=k)|exact stepS2 (QiC Ty.h rfl Ty.h) (k:=k)|exact stepS2 (Qrg Ty.h rfl Ty.h rfl rfl) (k:=k)|exact Qo6 (kk:=k)|exact e2 (k:=k))|(show ADraw _ _ _ _ _;first|exact Qms k|exact QjY k|exact qD (lK rfl (by assumption)) k|(refine stepD (QiD rfl rfl ?_) (k:=k)<;>omega)|(refine stepD (Qdv Ty.h rfl Ty.h rfl rfl rfl rfl ?_ ?_) (k:=k)<;>omega)|exact stepD (QgU rfl rfl) (k:=k)|(refine stepD (Qhx rfl rfl ?_) (k:=k)<;>omega)|exact stepD (Qdp rfl rfl) (k:=k)|exact stepD (Qd8 rfl rfl) (k:=k)|exact stepD (Qdp (m:=[]) rfl rfl) (k:=k)|exact stepD (Qd8 (m:=[]) rfl rfl) (k:=k)|exact stepD (Qf4 TyBool.h rfl rfl) (k:=k)|exact stepD (QeI TyBool.h rfl rfl) (k:=k)|exact stepD2 (QiC Ty.h rfl Ty.h) (k:=k)|exact f2 (k:=k))|(show AWP _ _ _ _;first|exact Qjj k|exact Qeu k|exact Qsx follows_mixed (by kernel_rfl) (by kernel_rfl) k|exact QkW (ht:=k)|exact QkX (hf:=k)|exact QkO k|exact Qjh k|exact QkQ k)|(show thenA _ _ _ _;first|exact Qqa k|exact Qn3 k)|(show blockA _ _ _ _;first|exact Qmt k|exact QmE k|exact Qkd (h:=k))|exact Fg.aw_flt (k:=k)|exact Fg.aw_fltN k|exact Fg.aw_planFC k|exact Fg.aw_planFN k|exact Fk.aw_flt (k:=k)|exact Fk.aw_fltN k|exact Fk.aw_planC0 k|exact Fk.aw_planN0 k|exact Fk.aw_stepM k|exact Fk.aw_grew (k:=k)|exact Fk.aw_gs (k:=k)|exact QjW (kk:=k)|fail):R:=h k
def kV{B:Prop}(k:A)(j:B)(h:A->B->R:=by intro k j;first|exact aw_cond (ht:=k) (hf:=j)|((fail_if_success show ASeq _ _ _ _ ⟨_,(_,.d (.v (.bool true)))::_,_⟩);(fail_if_success show ASeq _ _ _ _ ⟨_,(_,.d (.v (.bool false)))::_,_⟩);exact splitS k j)|((fail_if_success show ADraw _ _ _ _ ⟨_,(_,.d (.v (.bool true)))::_,_⟩);(fail_if_success show ADraw _ _ _ _ ⟨_,(_,.d (.v (.bool false)))::_,_⟩);exact splitD k j)|fail):R:=h k j
def kR{Q:Prop}(k:Q)(h:Q->R:=by intro k;refine Qjj (Qeu ?_);(repeat(first|refine e1 (k:=?_)|refine e2 (k:=?_)|refine e0 (k:=?_)|fail));exact QfE k):R:=h k
def kG{Q:Prop}(k:Q)(h:Q->R:=by intro k;first|exact e1 (k:=k)|exact QfE k|exact Qjo k|exact Qho k|exact Qjj k|exact Qeu k|exact QkW (ht:=k)|exact QkX (hf:=k)|exact QkO k|exact Qn3 k|exact Qjh k|exact e2 (k:=k)|exact e0 (k:=k)|exact QkQ k|exact Qqa k|exact Qmt k|exact QmE k|exact Qkd (h:=k)|fail):R:=h k
section
variable{P:Program}{ops:Array Oper}{Q:Exit->St->Prop}{K:St->Prop}{l:List Oper}{n:Nat}{env:List (Nat×AV)}{H:List Blk}{d:Tmp}{op:Op}{ty:A6}{pos:String}{after:Array Edge}{gd:Option (Nat×Bool)}{x:AV}
def qS(hl:Loc P ⟨some d,op,ty,pos,after,gd⟩ env H x none)(k:ASeq P ops Q l ⟨n,(d,x)::env,H⟩)(hw:awanted ops env ⟨some d,op,ty,pos,after,gd⟩=some true:=by rfl)(hd:Nat.blt d n=true:=by rfl)(hg:gdOk ops n ⟨some d,op,ty,pos,after,gd⟩=true:=by rfl):ASeq P ops Q (⟨some d,op,ty,pos,after,gd⟩::l) ⟨n,env,H⟩:=stepS hl hw hd hg k
def qD(hl:Loc P ⟨some d,op,ty,pos,after,gd⟩ env H x none)(k:ADraw P ops K l ⟨n,(d,x)::env,H⟩)(hd:Nat.blt d n=true:=by rfl)(hw:awanted ops env ⟨some d,op,ty,pos,after,gd⟩=some true:=by rfl):ADraw P ops K (⟨some d,op,ty,pos,after,gd⟩::l) ⟨n,env,H⟩:=stepD hl hd hw k
def lC{x:D}(h:Pure P f ds x)(hf: ∀args w,(callFunc f args).run P w= .ok (.enter f args) w:=by intros;kernel_rfl)(hd:allD (xs.toList.map (aval env))=some ds:=by rfl):Loc P ⟨some d,.call ⟨.value (.func f),xs,tys⟩,ty,pos,after,gd⟩ env H (.d x) none:=Qdr hf h hd
theorem iy{dst:Option Tmp}{T e:A6}{F E:TyF}{u v:Operand}{κ:IntKind}{i:Int}{c:Bool}{rows:List (List D)}{r:List D}(hr:rows[i.toNat]? =some r)(hT:tyf P T=some F:=by exact Ty.h)(he:F.elem=some e:=by rfl)(hE:tyf P e=some E:=by exact Ty.h)(hn:E.size=n:=by rfl)(hu:aval env u= .d (.sl c n rows):=by rfl)(hv:aval env v= .d (.v (.int κ i)):=by rfl)(h0:0<=i:=by omega):Loc P ⟨dst,.indexAddr T u v,ty,pos,after,gd⟩ env H (.d (.pd r)) none:=by grind [Qdd]
end
def al6In(a b c:Int):Pure A1 68 [dI a,dI b,dI c] (dB (Pl.inR a b c)):=Qd5 rfl fun w _=>(Pm.l6In a b c w).mono fun _ _ h=>⟨h.1,h.2▸A4 _ _⟩
def al2Row(a:Int):Pure A1 128 [dI a] (dB (Pl.inR a 8 63)):=Qd5 rfl fun w _=>(Pm.spRow a w).mono fun _ _ h=>⟨h.1,h.2▸A4 _ _⟩
def Qkn(p:Pl.Ptr):Pl.ptrOk p=(Pl.ptrHole p||(Pl.inR p.pat 8 63&&Pl.inR p.birth 1 900&&Pl.inR p.size 1 128&&Pl.inR p.sum 0 99460728&&Pl.inR p.level 0 2)):=rfl
theorem aPtrOk(p:Pl.Ptr):Pure A1 69 [dPtr p] (dB (Pl.ptrOk p)):=by
 have hd:=Pm.hid (Qkn p);have c:=Qdt p;generalize Pl.ptrOk p=r at*;generalize Pl.ptrHole p=h at*;obtain⟨x1,x2,x3,x4,x5⟩:=p;simp only at hd;refine kN ?_;simp only[parE,dPtr,A5];refine kR ?_;refine Qa 0 (h:=?_)
 repeat' first|refine kS ?_|refine qS (Qdr cK (al2Row _) rfl) ?_|refine qS (Qdr cK (al6In _ _ _) rfl) ?_|refine kU ?_|refine kV ?_ ?_<;>intro q|fail
 all_goals exact Qb (hx:=congrArg dB (by rw[hd.out];simp_all))
theorem QoJ(p:Pl.Ptr)(s:List UInt8)(hs:s.length<=Pm.big):Pure A1 110 [dPtr p,dS s] (dB (QaX p s)):=by
 refine kN ?_;simp only[parE,dPtr,A5];refine kR ?_;refine Qa 0 (h:=?_)
 repeat' first|refine kS ?_|refine qD (lC (aPtrOk p)) ?_|refine qD (lC (Qdt p)) ?_|refine qD (lC (aSumOf s hs)) ?_|refine kU ?_|refine kV ?_ ?_<;>intro q|fail
 all_goals exact Qb (hx:=congrArg dB (by simp_all[QaX]))
abbrev dInts(l:List Int):D:= .sl false 1 (l.map fun n=>[dI n])
abbrev dStrs(l:List (List UInt8)):D:= .sl false 1 (l.map fun s=>[dS s])
abbrev dPtrs(l:List Pl.Ptr):D:= .sl false 5 (l.map fun p=>[dI p.pat,dI p.birth,dI p.size,dI p.sum,dI p.level])
abbrev dSpace(s:Pm.Space):D:= .agg [dInts s.1,dInts s.2]
theorem Qs{α:Type}{f:α->List D}{l:List α}{k:Nat}{x:α}(h:l[k]? =some x):(l.map f)[(k:Int).toNat]? =some (f x):=by grind
theorem Quo(s:Pm.Space)(h1:s.1.length<=Pm.big)(h2:s.2.length<=Pm.big):Pure A1 67 [dSpace s] (dB (Pl.spaceOk s)):=by
 obtain⟨refs,last⟩:=s;simp only[Pm.big] at h1 h2;refine kN ?_;simp only[parE,dSpace];refine kR ?_;refine Qa 0 (h:=?_)
 repeat refine kG ?_
 cases q1:((refs.length:Int) !=64);rotate_left
 ·repeat refine kG ?_
  exact Qb (hx:=congrArg dB (by simp at q1;simp[Pl.spaceOk];intros;omega))
 repeat refine kG ?_
 cases q2:((last.length:Int) !=64);rotate_left
 ·repeat refine kG ?_
  exact Qb (hx:=congrArg dB (by simp at q2;simp[Pl.spaceOk];intros;omega))
 repeat refine kG ?_
 simp at q1 q2;refine Qq (fun m s=> ∃k:Nat,k<=64/\m=64 -k/\(A2 k).all (Pl.QdZ refs last)=true/\s=⟨68,[(3,.d (dI k)),(1,.d (.pd [dInts refs,dInts last]))],[]⟩) [3,1] 0 64 ⟨0,by omega,rfl,rfl,rfl⟩ (round:=?_);rintro m s ⟨k,hk,rfl,hF,rfl⟩
 repeat refine kG ?_
 cases q3:decide ((k:Int)<64)
 ·repeat refine kG ?_
  have:k=64:=by simp at q3;omega
  subst this;exact Qb (hx:=congrArg dB (by simp[Pl.spaceOk,hF];omega))
 repeat refine kG ?_
 simp at q3;have hk':k<64:=by omega
 have hk1:k<refs.length:=by omega
 have hk2:k<last.length:=by omega
 have hr1:=Qs (f:=fun n=>[dI n]) (A0 hk1);have hr2:=Qs (f:=fun n=>[dI n]) (A0 hk2)
 have hrow:Pl.QdZ refs last k=Pl.QdM k refs[k] last[k]:=by
  unfold Pl.QdZ;rw[A3,A3,A0 hk1,A0 hk2];rfl
 generalize refs[k]=a at*;generalize last[k]=b at*;have T:Hid (Pl.QdM k a b=true->(A2 (k+1)).all (Pl.QdZ refs last)=true):=fun h=>Pl.Qdo hF (hrow.trans h)
 have F:Hid (Pl.QdM k a b=false->Pl.spaceOk (refs,last)=false):=fun h=>by simp[Pl.spaceOk,Pl.Qdj hk' (hrow.trans h)]
 clear hrow hF
 repeat' first|refine kS ?_|refine qD (Qdr cK (al6In _ _ _) rfl) ?_|refine qD (Qdr cK (al2Row _) rfl) ?_|refine qD (iy hr1) ?_|refine qD (iy hr2) ?_|refine kU ?_|refine kV ?_ ?_<;>intro q|fail
 all_goals clear hr1 hr2
 all_goals first|exact Qb (hx:=congrArg dB (F.out (by simp_all[Pl.QdM])).symm)|exact Qg (64 -(k+1)) (by omega) ⟨k+1,by omega,rfl,T.out (by simp_all[Pl.QdM]),rfl⟩
