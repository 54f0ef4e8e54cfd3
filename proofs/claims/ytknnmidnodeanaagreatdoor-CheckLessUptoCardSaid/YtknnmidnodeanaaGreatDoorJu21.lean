import Derived.Test.YtknnmidnodeanaaGreatDoorJu19
import Derived.Test.YtknnmidnodeanaaGreatDoorJu20
set_option maxHeartbeats 16000000
set_option maxRecDepth 8000
namespace Go.Proofs.YtknnmidnodeanaaGreatDoor
open Go Go.RowKit Own
open Go.Lib (hid)
abbrev TScp:TypeId:=68
abbrev TMp:TypeId:=66
abbrev TAy:TypeId:=42
def MapB (w:World)(M:Nat)(l:List (List UInt8×Value)):Prop:=MapS w M l∧∃es clock,w.heap[M]?=some (.map es clock)∧∀e∈es.toList,e.born<clock
theorem MapB.of_same {w w':World}{M:Nat}{l:List (List UInt8×Value)}(h:MapB w M l)(hb:w'.heap[M]?=w.heap[M]?):MapB w' M l:=by
 obtain⟨h1,es,c,h2,h3⟩:=h;exact⟨h1.of_same hb,es,c,hb.trans h2,h3⟩
def ToldAt (w:World)(M:Nat)(s:Sc):Prop:=∃l,MapB w M l∧∀nm,mgetS l nm=if told s nm=0 then none else some (.int .i64 (told s nm))
theorem ToldAt.of_same {w w':World}{M:Nat}{s:Sc}(h:ToldAt w M s)(hb:w'.heap[M]?=w.heap[M]?):ToldAt w' M s:=by
 obtain⟨l,h1,h2⟩:=h;exact⟨l,h1.of_same hb,h2⟩
theorem ToldAt.lt {w:World}{M:Nat}{s:Sc}(h:ToldAt w M s):M<w.heap.size:=by obtain⟨l,h1,-⟩:=h;exact h1.1.lt
theorem zero_what (w:World):(zeroValue 97).run Tryz.prog w=.ok (.int .i64 0) w:=by kernel_rfl
theorem under_map:Tryz.prog.underlying TMp=some (.map TStr 97):=by kernel_rfl
theorem under_str:Tryz.prog.underlying TStr=some .string:=by kernel_rfl
theorem ToldAt.look {w:World}{M:Nat}{s:Sc}(h:ToldAt w M s)(nm:List UInt8):(Instr.lookup TMp (.map (some M)) (strV nm) false).run Tryz.prog w=.ok (.int .i64 (told s nm)) w:=by
 obtain⟨l,h1,h2⟩:=h;rw[h1.1.look under_map under_str nm _ (zero_what w),h2 nm];by_cases h0:told s nm=0
 ·rw[if_pos h0,h0];rfl
 ·rw[if_neg h0];rfl
def ayV (a:List UInt8×Int):List Value:=[strV a.1,.int .i64 a.2]
def varsV (s:Sc):List Value:=s.vars.map strV
def arrsV (s:Sc):List Value:=s.arrays.flatMap ayV
def ScAt (w:World)(B M:Nat)(F:Nat→Prop)(s:Sc):Prop:=∃pv cv pa ca,w.heap[B]?=some (.cells #[.map (some M),.slice pv s.vars.length cv,.slice pa s.arrays.length ca,.int .i64 s.calls] TScp (0,0))∧M<B∧ToldAt w M s∧
 w.ownsRow (B+1) TStr 1 (.slice pv s.vars.length cv) s.vars.length (varsV s)∧w.ownsRow (B+1) TAy 2 (.slice pa s.arrays.length ca) s.arrays.length (arrsV s)∧(∀k,Of pv k→¬Of pa k)∧F B∧F M∧(∀k,Of pv k→F k)∧∀k,Of pa k→F k
theorem ScAt.keep {w w':World}{B M:Nat}{F E:Nat→Prop}{s:Sc}(h:ScAt w B M F s)(k:BA E w w')(hE:∀b,F b→¬E b):ScAt w' B M F s:=by
 obtain⟨pv,cv,pa,ca,hB,hlt,hM,hv,ha,hd,f1,f2,f3,f4⟩:=h;have hbl:=(AG.1 hB).1;refine⟨pv,cv,pa,ca,(k.block B hbl (hE B f1)).trans hB,hlt,hM.of_same (k.block M (by omega) (hE M f2)),?_,?_,hd,f1,f2,f3,f4⟩
 ·refine DK hv fun b hb=>?_;have hb':Of pv b:=CL.1 hb;refine k.block b ?_ (hE b (f3 b hb'));rcases hv.2 with⟨h1,-⟩|⟨g,cap,cur,h1,-,h2,-⟩
  ·rw[h1]at hb;cases hb
  ·rw[h1]at hb;have e:g=b:=by simpa [Value.ownBlock]using hb
   rw[←e];exact(AG.1 h2).1
 ·refine DK ha fun b hb=>?_;have hb':Of pa b:=CL.1 hb;refine k.block b ?_ (hE b (f4 b hb'));rcases ha.2 with⟨h1,-⟩|⟨g,cap,cur,h1,-,h2,-⟩
  ·rw[h1]at hb;cases hb
  ·rw[h1]at hb;have e:g=b:=by simpa [Value.ownBlock]using hb
   rw[←e];exact(AG.1 h2).1
theorem ScAt.stay {w w':World}{B M:Nat}{F:Nat→Prop}{s:Sc}(h:ScAt w B M F s)(k:BA (fun _=>False) w w'):ScAt w' B M F s:=h.keep k fun _ _ e=>e
theorem ScAt.look {w:World}{B M:Nat}{F:Nat→Prop}{s:Sc}(h:ScAt w B M F s)(nm:List UInt8):(Instr.lookup TMp (.map (some M)) (strV nm) false).run Tryz.prog w=.ok (.int .i64 (told s nm)) w:=by
 obtain⟨pv,cv,pa,ca,hB,hlt,hM,-⟩:=h;exact hM.look nm
theorem ScAt.map {w:World}{B M:Nat}{F:Nat→Prop}{s:Sc}(h:ScAt w B M F s):w.cell? ⟨B,0,none⟩=some (.map (some M)):=by
 obtain⟨pv,cv,pa,ca,hB,-⟩:=h;simp[World.cell?,hB]
def endF:Option Fl→Ending
 |some f=>.panicked (fwC f.err f.line f.col)
 |none=>.returned (.tuple #[])
def sBad (b:Bool):Loud:={ val:=fun _ _=>.tuple #[],post:=fun _ _ _=>b=false }
theorem DD {w0:World}{M:Nat→Prop}{X:List PanicEntry→World→Prop}{o:Oper}{a:Act}{av ea:List Nat}{F:Nat→World→Prop}{Fp:Nat→Nat→Prop}(b:Bool)(er li co:Int)
  (hrun:∀w,(execOp a.eval o).run Tryz.prog w=.ok (.enter 40 #[.bool b,.int .i64 er,.int .i64 li,.int .i64 co]) w) (hX:∀w,BA M w0 w→b=true→X (fwC er li co) w):OwnX.CU Tryz.prog w0 M X o a (sBad b) av ea F Fp:=
 ⟨⟨default,trivial⟩,fun _ _ _ _ _ _ _ _ h=>h,fun w h1 h2 _=>by
  unfold Oper.wp;rw[hrun w];refine(bad_any2 b w er li co).mono ?_;rintro e w' ⟨rfl,rfl⟩
  cases b
  ·exact⟨default,trivial,rfl,BA.refl _ _,fun b h=>h.elim,rfl⟩
  ·exact⟨_,rfl,hX _ h1 rfl⟩⟩
def badB (k:Int)(t:Nat):Bool:=(k==2 && (t:Int) != 1) || (k==3 && (t:Int) != 2)
theorem badB_iff (k:Int)(t:Nat):badB k t=true↔(k=2∧t≠1)∨(k=3∧t≠2):=by
 unfold badB;simp only[Bool.or_eq_true,Bool.and_eq_true,beq_iff_eq,bne_iff_ne];constructor
 ·rintro (⟨h1,h2⟩|⟨h1,h2⟩)
  ·exact .inl ⟨h1,by omega⟩
  ·exact .inr ⟨h1,by omega⟩
 ·rintro (⟨h1,h2⟩|⟨h1,h2⟩)
  ·exact .inl ⟨h1,by omega⟩
  ·exact .inr ⟨h1,by omega⟩
theorem exFL_app (s:Sc):∀a b:List Gx,exFL s (a++b)=match exFL s a with|some f=>some f|none=>exFL s b
 | [],b=>by
  have h:exFL s []=none:=by unfold exFL;rfl
  rw[List.nil_append,h]
 | x::a,b=>by
  rw[List.cons_append]
  have h1:∀l,exFL s (x::l)=match xkF s x with|some f=>some f|none=>exFL s l:=fun l=>by
   conv=>lhs;unfold exFL
   rfl
  rw[h1,h1]
  cases xkF s x with
  |some f=>rfl
  |none=>exact exFL_app s a b
theorem exFL_one (s:Sc)(x:Gx):exFL s [x]=xkF s x:=by
 unfold exFL;unfold exFL
 cases xkF s x<;>rfl
theorem exFL_take (s:Sc){l:List Gx}{i:Nat}(h:i<l.length)(h0:exFL s (l.take i)=none):exFL s (l.take (i+1))=xkF s l[i]:=by
 rw[List.take_succ_eq_append_getElem h,exFL_app,h0];exact exFL_one s _
theorem exFL_hit (s:Sc){l:List Gx}{i:Nat}{f:Fl}(h:i<l.length)(h0:exFL s (l.take i)=none)(h1:xkF s l[i]=some f):exFL s l=some f:=by
 have h2:=exFL_take s h h0;rw[h1]at h2;have h3:=exFL_app s (l.take (i+1)) (l.drop (i+1));rw[List.take_append_drop,h2]at h3;exact h3
theorem exprN_any:∀(n:Nat) (x:Gx),FA x≤n→n≤1099511627776→∀(w:World) (B M:Nat) (F:Nat→Prop) (s:Sc) (S:Nat→Prop) (vs:List Value),ScAt w B M F s→GAt w S vs x→
    Calls Tryz.prog 54 #[.pointer (some ⟨B,0,none⟩),.agg vs.toArray] w fun e w'=>e=endF (xkF s x)∧BA (fun _=>False) w w':=by
  intro n
  induction n with
  |zero=>intro x hx;cases x;unfold FA at hx;omega
  | succ n ih=>
    intro x hx hn w B M F s S vs hsc hex;have HIH:=hid ih;obtain⟨xk,xo,xn,xm,xl,xc,kids⟩:=x;have hu:=hex;unfold GAt at hu;obtain⟨p,cap,rfl,hk⟩:=hu;obtain⟨S0,hS0⟩:∃S,strV xm=.string S:=⟨_,rfl⟩;have hsz:CV kids≤n:=by unfold FA at hx;omega
    rw[hS0];obtain⟨V,C,hV,hC,hb,hk0,hs0⟩:=BD w (.cells #[.int .i64 xk,.int .i64 xo,.int .i64 xn,.string S0,.slice p kids.length cap,.int .i64 xl,.int .i64 xc] TEx);obtain⟨n0,n1,n2,n3,n4,n5,n6,-⟩:=blk7 hb;have hscV:=hsc.stay hk0;obtain⟨t,ht⟩:∃t:Nat,told s xm=t:=⟨_,rfl⟩;have HKI:=hid (hk.keep hk0 fun _ _ e=>e);have HK0:=hid hk0;have HSZ:=hid hsz;have HN:=hid hn;have HSC:=hid hscV;have hkl:=glen_size kids;have HKL:=hid hkl
    have hE:xkF s (.mk xk xo xn xm xl xc kids)=if badB xk t=true then some ⟨6,xl,xc⟩ else exFL s kids:=by
      unfold xkF;rw[ht];by_cases h:badB xk t=true
      · rw[if_pos h,if_pos ((badB_iff xk t).1 h)]
      · rw[if_neg h,if_neg fun e=>h ((badB_iff xk t).2 e)]
    obtain⟨E,hEE⟩:∃E,(if badB xk t=true then some (⟨6,xl,xc⟩:Fl) else exFL s kids)=E:=⟨_,rfl⟩;rw[hE,hEE];have HE1:=hid (show badB xk t=true→E=some ⟨6,xl,xc⟩from fun h=>by rw[←hEE,if_pos h]);have HE0:=hid (show badB xk t=false→E=exFL s kids from fun h=>by rw[←hEE,h,if_neg NT]);have HD:=hid (BA.drew (fun _=>False) V)
    have HF:=hid (show ∀w',BA (fun _=>False) V.drew w'→w'.cell? ⟨C,0,none⟩=some (.int .i64 xk)∧w'.cell? ⟨C,3,none⟩=some (.string S0)∧w'.cell? ⟨C,5,none⟩=some (.int .i64 xl)∧w'.cell? ⟨C,6,none⟩=some (.int .i64 xc)∧w'.cell? ⟨B,0,none⟩=some (.map (some M))∧(Instr.lookup TMp (.map (some M)) (.string S0) false).run Tryz.prog w'=.ok (.int .i64 t) w' from fun w' hk=>by
      have q:=HD.out.trans hk;have hs:=hscV.stay q;refine⟨q.stay n0,q.stay n3,q.stay n5,q.stay n6,hs.map,?_⟩;rw[←hS0,hs.look xm,ht])
    clear hk hx hex hk0 hs0 hb ih hn hsz hkl hsc hscV hE hEE ht;go_enter Tryz.func54,Tryz.ntmps54;go_upto_region 1 with fail;rw[←hV,←hC];clear hV hC hS0;go_cut [38]from 6 to 38 (fun v38 wx=>badB xk t=false∧BA (fun _=>False) V wx)
    case first=>
      by_cases h2:xk=2
      · subst h2;obtain⟨b,hb⟩:∃b,((t:Int) != 1)=b:=⟨_,rfl⟩;have HBB:=hid (show badB 2 t=b by unfold badB;rw[hb];simp)
        cases b
        · refine OwnX.CN (fun ch w'=>ch=fwC 6 xl xc∧badB 2 t=true∧BA (fun _=>False) V w') (fun ch a' w' hd hx=>by obtain⟨rfl,hb,hk⟩:=hx;exact⟨hd.1,by rw[HE1.out hb];rfl,HK0.out.trans hk⟩) (by kernel_rfl) DL2 (fun _=>[]) (fun _=>[]) [32] (by kernel_rfl) (fun i=>if i=32 then some (sBad (badB 2 t)) else none) ?_
          iterate 32 (first
            |(apply OwnX.BZ rfl;simp only[Act.put,LS])
            |( apply OwnX.BC rfl rfl;focus (intro w' hk;obtain⟨y0,y3,y5,y6,ym,yl⟩:=HF.out w' hk;go_simp;with_reducible rfl)
               simp only[Act.put,LS]))
          refine OwnX.BE rfl rfl (DD (badB 2 t) 6 xl xc (fun w=>by rw[HBB.out];kernel_rfl) fun w' hk hb=>⟨rfl,hb,HD.out.trans hk⟩) fun g _=>?_;refine OwnX.BP ?_;intro W4 hk9 hF hG;have hb0:badB 2 t=false:=(hF 32 (by simp)).1;clear hF hG;simp only[sBad,Act.put,LS];go_wp2_with fail
          go_meet
          exact⟨hb0,HD.out.trans hk9⟩
        · refine OwnX.CN (fun ch w'=>ch=fwC 6 xl xc∧badB 2 t=true∧BA (fun _=>False) V w') (fun ch a' w' hd hx=>by obtain⟨rfl,hb,hk⟩:=hx;exact⟨hd.1,by rw[HE1.out hb];rfl,HK0.out.trans hk⟩) (by kernel_rfl) DL2 (fun _=>[]) (fun _=>[]) [32] (by kernel_rfl) (fun i=>if i=32 then some (sBad (badB 2 t)) else none) ?_
          iterate 32 (first
            |(apply OwnX.BZ rfl;simp only[Act.put,LS])
            |( apply OwnX.BC rfl rfl;focus (intro w' hk;obtain⟨y0,y3,y5,y6,ym,yl⟩:=HF.out w' hk;go_simp;with_reducible rfl)
               simp only[Act.put,LS]))
          refine OwnX.BE rfl rfl (DD (badB 2 t) 6 xl xc (fun w=>by rw[HBB.out];kernel_rfl) fun w' hk hb=>⟨rfl,hb,HD.out.trans hk⟩) fun g _=>?_;refine OwnX.BP ?_;intro W4 hk9 hF hG;have hb0:badB 2 t=false:=(hF 32 (by simp)).1;clear hF hG;simp only[sBad,Act.put,LS];go_wp2_with fail
          go_meet
          exact⟨hb0,HD.out.trans hk9⟩
      · by_cases h3:xk=3
        · subst h3;obtain⟨b,hb⟩:∃b,((t:Int) != 2)=b:=⟨_,rfl⟩;have HBB:=hid (show badB 3 t=b by unfold badB;rw[hb];simp)
          cases b
          · refine OwnX.CN (fun ch w'=>ch=fwC 6 xl xc∧badB 3 t=true∧BA (fun _=>False) V w') (fun ch a' w' hd hx=>by obtain⟨rfl,hb,hk⟩:=hx;exact⟨hd.1,by rw[HE1.out hb];rfl,HK0.out.trans hk⟩) (by kernel_rfl) DL2 (fun _=>[]) (fun _=>[]) [32] (by kernel_rfl) (fun i=>if i=32 then some (sBad (badB 3 t)) else none) ?_
            iterate 32 (first
              |(apply OwnX.BZ rfl;simp only[Act.put,LS])
              |( apply OwnX.BC rfl rfl;focus (intro w' hk;obtain⟨y0,y3,y5,y6,ym,yl⟩:=HF.out w' hk;go_simp;with_reducible rfl)
                 simp only[Act.put,LS]))
            refine OwnX.BE rfl rfl (DD (badB 3 t) 6 xl xc (fun w=>by rw[HBB.out];kernel_rfl) fun w' hk hb=>⟨rfl,hb,HD.out.trans hk⟩) fun g _=>?_;refine OwnX.BP ?_;intro W4 hk9 hF hG;have hb0:badB 3 t=false:=(hF 32 (by simp)).1;clear hF hG;simp only[sBad,Act.put,LS];go_wp2_with fail
            go_meet
            exact⟨hb0,HD.out.trans hk9⟩
          · refine OwnX.CN (fun ch w'=>ch=fwC 6 xl xc∧badB 3 t=true∧BA (fun _=>False) V w') (fun ch a' w' hd hx=>by obtain⟨rfl,hb,hk⟩:=hx;exact⟨hd.1,by rw[HE1.out hb];rfl,HK0.out.trans hk⟩) (by kernel_rfl) DL2 (fun _=>[]) (fun _=>[]) [32] (by kernel_rfl) (fun i=>if i=32 then some (sBad (badB 3 t)) else none) ?_
            iterate 32 (first
              |(apply OwnX.BZ rfl;simp only[Act.put,LS])
              |( apply OwnX.BC rfl rfl;focus (intro w' hk;obtain⟨y0,y3,y5,y6,ym,yl⟩:=HF.out w' hk;go_simp;with_reducible rfl)
                 simp only[Act.put,LS]))
            refine OwnX.BE rfl rfl (DD (badB 3 t) 6 xl xc (fun w=>by rw[HBB.out];kernel_rfl) fun w' hk hb=>⟨rfl,hb,HD.out.trans hk⟩) fun g _=>?_;refine OwnX.BP ?_;intro W4 hk9 hF hG;have hb0:badB 3 t=false:=(hF 32 (by simp)).1;clear hF hG;simp only[sBad,Act.put,LS];go_wp2_with fail
            go_meet
            exact⟨hb0,HD.out.trans hk9⟩
        · have HBB:=hid (show badB xk t=false by
            rw[←Bool.not_eq_true,badB_iff];omega)
          have b2:(xk==2)=false:=by rw[BF];exact h2
          have b3:(xk==3)=false:=by rw[BF];exact h3
          clear h2 h3;refine OwnX.CN (fun ch w'=>ch=fwC 6 xl xc∧badB xk t=true∧BA (fun _=>False) V w') (fun ch a' w' hd hx=>by obtain⟨rfl,hb,hk⟩:=hx;exact⟨hd.1,by rw[HE1.out hb];rfl,HK0.out.trans hk⟩) (by kernel_rfl) DL2 (fun _=>[]) (fun _=>[]) [32] (by kernel_rfl) (fun i=>if i=32 then some (sBad (badB xk t)) else none) ?_
          iterate 32 (first
            |(apply OwnX.BZ rfl;simp only[Act.put,LS])
            |( apply OwnX.BC rfl rfl;focus (intro w' hk;obtain⟨y0,y3,y5,y6,ym,yl⟩:=HF.out w' hk;go_simp;with_reducible rfl)
               simp only[Act.put,LS]))
          refine OwnX.BE rfl rfl (DD (badB xk t) 6 xl xc (fun w=>by rw[HBB.out];kernel_rfl) fun w' hk hb=>⟨rfl,hb,HD.out.trans hk⟩) fun g _=>?_;refine OwnX.BP ?_;intro W4 hk9 hF hG;have hb0:badB xk t=false:=(hF 32 (by simp)).1;clear hF hG;simp only[sBad,Act.put,LS];go_wp2_with fail
          go_meet
          exact⟨hb0,HD.out.trans hk9⟩
    case rest=>
      obtain⟨hbad,hkx⟩:=hcut;have HIF:=hid (HE0.out hbad);have n4:=hkx.stay n4;have HKX:=hid hkx;clear n0 n1 n2 n3 n5 n6 hbad hkx HF HE0 HE1;go_wp2_with fail;go_loopw [42] (fun v42 wr=>∃i:Nat,v42=.int .i64 i∧i≤kids.length∧exFL s (kids.take i)=none∧BA (fun _=>False) V wr) (fun v _=>kids.length - (intOf v).toNat)
      case atStart=>exact⟨0,rfl,Nat.zero_le _,by simp[exFL],HKX.out⟩
      case round=>
        obtain⟨i,rfl,hi,h0,hk⟩:=hrel;have HK:=hid hk;have H0:=hid h0;by_cases hlt:i<kids.length
        · have hlti:(i:Int)<kids.length:=by omega
          have hi0:(0:Int)≤i:=by omega
          have hWi:IntKind.i64.wrap ((i:Int)+1)=(i:Int)+1:=IntWalk.i64_in _ (by have:=HKL.out;have:=HSZ.out;have:=HN.out;omega);obtain⟨g,o,vs,hp,hc,hex⟩:=gkids_get (HKI.out.keep hk fun _ _ e=>e) i hlt;subst hp;rw[Nat.zero_add]at hc;obtain⟨yk,yo,yn,yS,yp,ym,yc,yl,ycl,rfl⟩:=g_form hex;have x0:wr.cell? ⟨g,o+i * 7,none⟩=some (.int .i64 yk):=hc 0 _ rfl;have x1:=hc 1 _ rfl;have x2:=hc 2 _ rfl;have x3:=hc 3 _ rfl;have x4:=hc 4 _ rfl;have x5:=hc 5 _ rfl;have x6:=hc 6 _ rfl;obtain⟨W,C,hW,hC,hcb,hkc,hsc⟩:=BD wr (.cells #[.int .i64 yk,.int .i64 yo,.int .i64 yn,.string yS,.slice yp ym yc,.int .i64 yl,.int .i64 ycl] TEx);have hme:=gsize_mem hlt;have HCA:=hid (HIH.out kids[i] (by have:=HSZ.out;omega) (by have:=HN.out;omega) W B M F s S _ (HSC.out.stay (hk.trans hkc)) (hex.keep hkc fun _ _ e=>e));have HKC:=hid hkc;obtain⟨m0,m1,m2,m3,m4,m5,m6,-⟩:=blk7 hcb;have HTK:=hid (exFL_take s hlt h0);have HHT:=hid (fun f=>exFL_hit (f:=f) s hlt h0);obtain⟨r,hr⟩:∃r,xkF s kids[i]=r:=⟨_,rfl⟩;rw[hr]at HCA HTK HHT;clear hc hex hk hsc hcb hme hkc hr h0
          cases r with
          | none=>
            simp only[endF]at HCA;go_upto_region 5 with fail;rw[←hW,←hC];clear hW hC x0 x1 x2 x3 x4 x5 x6;go_wp2_with (go_at_call 54;refine HCA.out.mono ?_;rintro e w5 ⟨rfl,hk5⟩;have HK5:=hid hk5;clear hk5);exact⟨⟨i+1,by simp,by omega,HTK.out,(HK.out.trans HKC.out).trans HK5.out⟩,by simp only[intOf];omega⟩
          | some f=>
            simp only[endF]at HCA;go_upto_region 5 with fail;rw[←hW,←hC];clear hW hC x0 x1 x2 x3 x4 x5 x6;go_wp2_with (go_at_call 54;refine HCA.out.mono ?_;rintro e w5 ⟨rfl,hk5⟩;have HK5:=hid hk5;clear hk5);exact⟨rfl,by rw[HIF.out,HHT.out f rfl];rfl,HK0.out.trans ((HK.out.trans HKC.out).trans HK5.out)⟩
        · have hnl:¬(i:Int)<kids.length:=by omega
          have e:i=kids.length:=by omega
          rw[e,List.take_length]at h0;have HX0:=hid h0;clear hk e h0;go_wp2_with fail
          go_end0
          exact⟨by rw[HIF.out,HX0.out];rfl,HK0.out.trans HK.out⟩
theorem modify_last {α:Type}(es:Array α)(x:α)(f:α→α):(es.push x).modify es.size f=es.push (f x):=by
 apply Array.ext_getElem?;intro i;rw[Array.getElem?_modify,Array.getElem?_push,Array.getElem?_push];by_cases h:es.size=i
 ·rw[if_pos h,if_pos h.symm,if_pos h.symm];rfl
 ·rw[if_neg h,if_neg (fun e=>h e.symm),if_neg (fun e=>h e.symm)]
theorem map_enter {P:Program}{w:World}{M:Nat}{l:List (List UInt8×Value)}{nm:List UInt8}{mt kt e:TypeId}(ht:P.underlying mt=some (.map kt e))(hk:P.underlying kt=some .string)(z:Value)(hz:∀w,(zeroValue e).run P w=.ok z w)(v:Value)
  (h:MapB w M l) (hn:mgetS l nm=none):∃(o0 o1 o2:Obj) (c:Nat),w.heap[M]?=some o0∧
  (∀w':World,w'.heap[M]?=some o0→∃w'',(Instr.mapEntry mt (.map (some M)) (strV nm)).run P w'=.ok (.tuple #[z,.int .i64 c]) w''∧w''.heap[M]?=some o1∧BA (fun k=>k=M) w' w'')∧
  (∀w':World,w'.heap[M]?=some o1→∃w'',(Instr.entryStore mt (.map (some M)) (.int .i64 c) v).run P w'=.ok () w''∧w''.heap[M]?=some o2∧BA (fun k=>k=M) w' w'')∧
  ∀w':World,w'.heap[M]?=some o2→MapB w' M (l++[(nm,v)]):=by
 obtain⟨⟨h1,es,c,h2,h3⟩,es',c',h2',h4⟩:=h;rw[h2]at h2';simp only[Option.some.injEq,Obj.map.injEq]at h2';obtain⟨rfl,rfl⟩:=h2'
 have hm:mixS nm l 0=none:=by
  unfold mgetS at hn;simpa using hn
 have hf:=findNow_mixS nm es.toList l 0 h3;rw[hm]at hf;refine⟨.map es c,.map (es.push { key:=strV nm,val:=z,born:=c }) (c+1),.map (es.push { key:=strV nm,val:=v,born:=c }) (c+1),c,h2,fun w' hw=>?_,fun w' hw=>?_,fun w' hw=>?_⟩
 ·have hr:=MapKept.run_findKey (w:=w') hk hf;have hc:=MapKept.run_checkKey (w:=w') (k:=strV nm) hk (by simp[MapKept.IsKey,strV]) false 9999;refine⟨{ w' with heap:=w'.heap.setIfInBounds M (.map (es.push { key:=strV nm,val:=z,born:=c }) (c+1)) },?_,(MapKept.heap_set hw).1,heap_putS _ _ _⟩;simp[Instr.mapEntry,run_underlying ht,MapKept.run_getObj_map hw,Result.andThen,hc,hr,hz,MapKept.run_setObj_map _ hw,goInt]
 ·have hfi:(es.push { key:=strV nm,val:=z,born:=c }).findIdx? (fun e=>(e.born:Int)==(c:Int))=some es.size:=by
   rw[Array.findIdx?_push]
   have h0:es.findIdx? (fun e=>(e.born:Int)==(c:Int))=none:=by
    rw[Array.findIdx?_eq_none_iff];intro x hx;have:=h4 x (by simpa using hx);rw[BF];omega
   rw[h0];simp
  refine⟨{ w' with heap:=w'.heap.setIfInBounds M (.map (es.push { key:=strV nm,val:=v,born:=c }) (c+1)) },?_,(MapKept.heap_set hw).1,heap_putS _ _ _⟩;simp[Instr.entryStore,MapKept.run_getObj_map hw,Result.andThen,asInt,asIntOf,hfi,MapKept.run_setObj_map _ hw,modify_last]
 ·refine⟨⟨?_,_,_,hw,by simp[h3]⟩,_,_,hw,fun x hx=>?_⟩
  ·have:=mset_nodupS h1 nm v;unfold msetS at this;rw[hm]at this;exact this
  ·simp only[Array.toList_push,List.mem_append,List.mem_singleton]at hx;rcases hx with hx|rfl
   ·have:=h4 x hx;omega
   ·show c<c+1;omega
end Go.Proofs.YtknnmidnodeanaaGreatDoor
