import Derived.Test.YtknnmidnodeanaaGreatDoorJu24
set_option maxHeartbeats 32000000
set_option maxRecDepth 4000
namespace Go.Proofs.YtknnmidnodeanaaGreatDoor
open Go Go.RowKit Own
open Go.Lib (hid)
attribute [local go_sem] Oper.semAt_some
def ThrP (w:World)(r:Except Fl Sc)(e:Ending)(w':World):Prop:=BA (fun _=>False) w w'∧match r with
 |.error f=>e=.panicked (fwC f.err f.line f.col)
 |.ok s=>∃B M,e=.returned (.pointer (some ⟨B,0,none⟩))∧ScAt w' B M (fun b=>w.heap.size≤b) s
theorem ThrP.err {w:World}{f:Fl}{w':World}(hk:BA (fun _=>False) w w'):ThrP w (.error f) (.panicked (fwC f.err f.line f.col)) w':=⟨hk,rfl⟩
theorem ThrP.ok {w:World}{s:Sc}{w':World}(B M:Nat)(hk:BA (fun _=>False) w w')(h:ScAt w' B M (fun b=>w.heap.size≤b) s):ThrP w (.ok s) (.returned (.pointer (some ⟨B,0,none⟩))) w':=⟨hk,B,M,rfl,h⟩
theorem through_any (p:Gp)(hl:p.conts.length≤1099511627776)(i:Nat)(hi:i<p.threads.length)(hsz:BI p.threads[i]≤1000000000)(w:World)(S:Nat→Prop)(pv:Value)(hp:PAt w S pv p):
    Calls Tryz.prog 43 #[pv,.int .i64 i] w fun e w'=>ThrP w (thrF p.conts p.threads[i]) e w':=by
  have hp0:=pat_in hp;obtain⟨p1,c1,p2,c2,rfl,hc,hth⟩:=id hp0;obtain⟨g,o,q,cq,hpp,hcell,hsk⟩:=gths_get hth i hi;subst hpp;obtain⟨N,hN⟩:∃N:Int,(p.pool:Int)=N:=⟨_,rfl⟩;obtain⟨n1,hn1⟩:∃n,p.conts.length=n:=⟨_,rfl⟩;obtain⟨n2,hn2⟩:∃n,p.threads.length=n:=⟨_,rfl⟩;have hii:(i:Int)<n2:=by omega
  have hi0:(0:Int)≤i:=by omega
  obtain⟨l,hll⟩:∃l,p.threads[i]=l:=⟨_,rfl⟩;rw[hll]at hcell hsk hsz;rw[hN,hn1,hn2]at hp0;rw[hN,hn1,hn2,hll];obtain⟨V1,C1,hV1,hC1,hb1,hk1,hs1⟩:=BD w (.cells #[.int .i64 N,.slice p1 n1 c1,.slice (some ⟨g,o,none⟩) n2 c2] TPr0);obtain⟨V2,M,hV2,hM,hb2,hk2,hs2⟩:=BD V1 (.map #[] 0);obtain⟨V3,B,hV3,hB,hb3,hk3,hs3⟩:=BD V2 (.cells #[.map (some M),.slice none 0 0,.slice none 0 0,.int .i64 0] TScp);obtain⟨V4,Cs,hV4,hCs,hb4,hk4,hs4⟩:=BD V3 (.cells #[.pointer (some ⟨B,0,none⟩)] TSp);obtain⟨V5,Be,hV5,hBe,hb5,hk5,hs5⟩:=BD V4 (.cells #[.slice q l.length cq] TLs);obtain⟨V6,D,hV6,hD,hb6,hk6,hs6⟩:=BD V5 (.deferred (some []));have h34:=(hk1.trans hk2).trans (hk3.trans hk4);obtain⟨m0,m1,m2,-⟩:=BS ((hk2.trans (hk3.trans hk4)).blk hb1);have hcl4:=h34.stay hcell;have hmk:=run_makeMapS (P:=Tryz.prog) 66;have HEA:=hid (each_any V4 q l.length cq);have hA:w.heap.size≤C1∧C1<M∧M<B∧B<Cs∧Cs<Be∧Be<D∧V6.heap.size=D+1:=by omega
  have hMB:M+1=B:=by omega
  have hBC:B+1=Cs:=by omega
  have hLD:V5.heap.size+1=V6.heap.size:=by omega
  have HC1:=hid ((hk2.trans (hk3.trans hk4)).blk hb1);have HM4:=hid ((hk3.trans hk4).blk hb2);clear hb1 hk1 hk2 hk3 hs1 hs2 hs3 hs4 hs5 hs6 hc hth hp;refine Rf.calls_of Tryz.func43 rfl ?_;simp only[Tryz.ntmps43,List.size_toArray,LC,List.length_nil,Nat.reduceAdd,Nat.reduceSub,Array.replicate_succ,Array.replicate_zero,List.push_toArray,List.append_toArray,List.nil_append,List.cons_append];refine Rf.wpB_seq (Rf.wpB_of (n:=1) rfl ?_)
  gi_wp2
  rw[←hV1,←hC1];clear hV1 hC1;refine Rf.wpB_seq (Rf.wpB_of (n:=1) rfl ?_)
  gi_wp2
  rw[←hV2,←hM,hMB,hBC,←hV3,←hV4];clear hV2 hM hV3 hB hV4 hCs hmk;refine Rf.wpB_seq (Rf.wpB_seq (Rf.wpB_of (n:=1) rfl ?_))
  gi_wp2_with ((first|gi_at_call 53|(refine⟨trivial,?_⟩;gi_at_call 53));refine((callsIn_wide (n:=_)).2 HEA.out).mono ?_;rintro e w5 ⟨rfl,rfl⟩)
  rw[←hV5,←hBe];refine Rf.wpB_block (Rf.wpB_range rfl (gf:=70) (lb:=#[.pointer (some ⟨Be,0,none⟩)]) rfl (enters_of Tryz.func70 (by kernel_rfl) rfl) ?_);generalize hrc:Rf.rec _ _ _ _ _ _ LoopState.ready none=rdy;obtain⟨V7,L,hV7,hL,hb7,hk7,hs7⟩:=BD V6 (.loop rdy);have hDL:D+1=L:=by omega
  rw[←hV6,←hD,←hV7,hDL];have h17:V4.heap.size≤V5.heap.size∧V5.heap.size≤V6.heap.size:=⟨hk5.size,hk6.size⟩;have hk57:=hk5.trans (hk6.trans hk7);have hk37:=hk4.trans hk57;have hw7:=h34.trans hk57;have hord:w.heap.size≤C1∧C1<M∧M<B∧B<Cs∧Cs<Be∧Be<D∧D<L∧L<V7.heap.size:=by omega
  have HORD:=hid hord
  have htj:TJ p N p1 n1 c1 (some ⟨g,o,none⟩) n2 c2 (fun b=>S b∧b<w.heap.size) B M L D C1 Cs rdy V7 (fun b=>b=M∨b=B∨b=L) ⟨[],[],0⟩:=by
    refine⟨⟨fun b=>b=M∨b=B,⟨none,0,none,0,hk37.blk hb3,hord.2.2.1,⟨[],⟨⟨by simp,#[],0,(hk57.blk HM4.out),rfl⟩,#[],0,(hk57.blk HM4.out),by simp⟩,fun nm=>by simp[mgetS,mixS,told]⟩,World.ownsRow_nil _ _ _ _,World.ownsRow_nil _ _ _ _,fun k h=>(Of.none_iff h).elim,.inr rfl,.inl rfl,fun k h=>(Of.none_iff h).elim,fun k h=>(Of.none_iff h).elim⟩,by omega,fun b hb=>hb.imp id .inl⟩,
      ⟨by decide,by decide⟩,fun b hb=>by omega,.inr (.inr rfl),hb7,⟨hk7.blk hb6,by omega⟩,⟨hk57.blk HC1.out,by omega⟩,⟨hk57.blk hb4,by omega⟩,CG hp0 hw7,fun b hb=>⟨by have h0:=hb.2;omega,by have h0:=hb.2;omega⟩⟩
  have HRND:RoundsF p.conts L (TJ p N p1 n1 c1 (some ⟨g,o,none⟩) n2 c2 (fun b=>S b∧b<w.heap.size) B M L D C1 Cs rdy):=by
    intro s G x W T vs hj hx hTG hxs hcal m;have hL0:=hj.rc;rw[←hrc]at hL0;obtain⟨k,nm,sz,op,val,into,cont,xs,thn,els,li,co⟩:=x;have hx0:=hx;unfold SAt at hx;obtain⟨px,cx,pt,ct,pe,ce,rfl,hx1,-⟩:=hx;obtain⟨S1,hS1⟩:∃S,strV nm=.string S:=⟨_,rfl⟩;obtain⟨S2,hS2⟩:∃S,strV val=.string S:=⟨_,rfl⟩;obtain⟨S3,hS3⟩:∃S,strV into=.string S:=⟨_,rfl⟩;obtain⟨S4,hS4⟩:∃S,strV cont=.string S:=⟨_,rfl⟩;rw[hS1,hS2,hS3,hS4]at hx0;rw[hS1,hS2,hS3,hS4];refine Rf.yield_at trivial ⟨_,Tryz.func43⟩ rfl hL0 ?_;rw[hrc];generalize hrb:Rf.rec _ _ _ _ _ _ LoopState.busy none=bsy;obtain⟨W1,Cx,hW1,hCx,hcb,hkc,hsc⟩:=BD W (.cells #[.int .i64 k,.string S1,.int .i64 sz,.int .i64 op,.string S2,.string S3,.string S4,.slice px xs.length cx,.slice pt thn.length ct,.slice pe els.length ce,.int .i64 li,.int .i64 co] TSm);have hdd:∀k:Nat,(Fence.wide.depth.isSome=true→1≤k):=fun k h=>by simp[Fence.wide]at h
    have HL2:=hid hl;have HORD2:=hid hord;clear hV5 hBe hV6 hD hV7 hL hDL hMB hBC hLD htj hw7 hk37 hk57 h17 hs7 hb7 hk7 hord HEA hA h34 hp0 hrc hrb hL0 hk6 hk5 hk4 hb6 hb5 hb4 hb3 HC1 HM4 hsk hcell hcl4 m0 m1 m2 hn1 hn2 hN hi0 hii hi hll hsz
    gi_wp2
    rw[←hW1,←hCx];clear hW1;refine⟨hkc.blk hj.rc,?_⟩;obtain⟨V,hV⟩:∃V,W1.putObj L (.loop bsy)=V:=⟨_,rfl⟩;rw[hV];have hkV1:BA (fun b=>b=L) W1 V:=by rw[←hV];exact BA.putObj W1 L _
    have hLW:L<W.heap.size:=hj.lt L hj.gl;have hLV:V.heap[L]?=some (.loop bsy):=by rw[←hV];exact World.putObj_heap_same (by omega)
    have hkWV:BA (fun b=>b=L) W V:=(hkc.mono fun _ e=>e.elim).trans hkV1;obtain⟨e0,e1,e2,e3,e4,e5,e6,e7,e8,e9,e10,e11⟩:=BK ((hkV1.block Cx (by omega) (by omega)).trans hcb);have hnl:∀b,¬G b→b≠L:=fun b h e=>h (by rw[e];exact hj.gl);have hCsV:V.heap[Cs]?=_:=(hkWV.block Cs (AG.1 hj.bs.1).1 (hnl _ hj.bs.2)).trans hj.bs.1;have hC1V:V.heap[C1]?=_:=(hkWV.block C1 (AG.1 hj.bx.1).1 (hnl _ hj.bx.2)).trans hj.bx.1;obtain⟨m0,m1,m2,-⟩:=BS hC1V;have y0:V.cell? ⟨Cs,0,none⟩=some (.pointer (some ⟨B,0,none⟩)):=by simp[World.cell?,hCsV]
    obtain⟨E,hsc0,hEL,hEG⟩:=hj.gs;have hscV:ScAt V B M E s:=hsc0.keep hkWV fun b hb e=>hEL (by rw[←show b=L from e];exact hb);have hxV:=hx1.keep hkWV fun b hb e=>hnl b (hTG b hb) e;have hx0V:=hx0.keep hkWV fun b hb e=>hnl b (hTG b hb) e;have hpV:=pat_keep hj.pat hkWV fun b hb e=>hnl b (hj.dis b hb).1 e;have hxl:=glen_size xs
    have HERR:=hid (show ∀W' f,BA (fun b=>E b) V W'→stF p.conts s (.mk k nm sz op val into cont xs thn els li co)=.error f→StepJ (TJ p N p1 n1 c1 (some ⟨g,o,none⟩) n2 c2 (fun b=>S b∧b<w.heap.size) B M L D C1 Cs rdy) (.bool true) W G (stF p.conts s (.mk k nm sz op val into cont xs thn els li co)) (.panicked (fwC f.err f.line f.col)) W' from fun W' f hk hf=>
      ⟨(hkWV.mono fun b e=>by rw[e];exact hj.gl).trans (hk.mono hEG),by rw[hf]⟩)
    have HEND:=hid (fun (V2 V3:World) (s':Sc)=>round_end (V:=V) (V2:=V2) (V3:=V3) (E:=E) (s':=s') (x:=.mk k nm sz op val into cont xs thn els li co) hj ⟨hEL,hEG⟩ hkWV);have HLV:=hid hLV;have HSC:=hid hscV;have HXV:=hid hxV;have HX0:=hid hx0V;have HPV:=hid hpV;have HEL:=hid hEL;have HOK:=hid hj.ok;have HSZ:=hid (show CV xs≤1099511627776 by have h9:=hxs;unfold CO at h9;omega);have HCAL:=hid hcal;have HXL:=hid hxl;have HY00:=hid y0;have HB12:=hid (And.intro e0 (And.intro e1 (And.intro e10 e11)));have HT:=hid (show ∀b,T b→¬E b from fun b hb h=>hTG b hb (hEG b h));have HSP:=hid (show ∀b,(S b∧b<w.heap.size)→¬E b from fun b hb h=>(hj.dis b hb).1 (hEG b h));have HLL:=hid (show L<V.heap.size from(AG.1 hLV).1);clear hj hx0 hx1 hTG hxs hcal hcb hkc hsc hkV1 hLW hLV hkWV hV hnl hCsV hC1V hsc0 hEL hEG hscV hxV hx0V hpV hxl hCx
    gi_wp2
    gi_loopw [22] (fun v22 wr=>∃j:Nat,v22=.int .i64 j∧j≤xs.length∧exFL s (xs.take j)=none∧BA (fun _=>False) V wr) (fun v _=>xs.length - (intOf v).toNat)
    case atStart=>exact⟨0,rfl,Nat.zero_le _,by simp[exFL],BA.refl _ _⟩
    case round=>
      obtain⟨j,rfl,hj,h0,hk⟩:=hrel;have HK:=hid hk;have H0:=hid h0;have z0:=hk.stay y0;by_cases hlt:j<xs.length
      · have hlti:(j:Int)<xs.length:=by omega
        have hj0:(0:Int)≤j:=by omega
        have hWi:IntKind.i64.wrap ((j:Int)+1)=(j:Int)+1:=IntWalk.i64_in _ (by have:=HXL.out;have:=HSZ.out;omega);obtain⟨g9,o9,us,hp,hc,hex⟩:=gkids_get (HXV.out.keep hk fun _ _ e=>e) j hlt;subst hp;rw[Nat.zero_add]at hc;obtain⟨yk,yo,yn,yS,yp,ym,yc,yl,ycl,rfl⟩:=g_form hex;have x0:wr.cell? ⟨g9,o9+j * 7,none⟩=some (.int .i64 yk):=hc 0 _ rfl;have x1:=hc 1 _ rfl;have x2:=hc 2 _ rfl;have x3:=hc 3 _ rfl;have x4:=hc 4 _ rfl;have x5:=hc 5 _ rfl;have x6:=hc 6 _ rfl;obtain⟨X,C,hX,hC,hcb,hkc,hsc⟩:=BD wr (.cells #[.int .i64 yk,.int .i64 yo,.int .i64 yn,.string yS,.slice yp ym yc,.int .i64 yl,.int .i64 ycl] TEx);have hme:=gsize_mem hlt;have HCA:=hid (exprN_any _ xs[j] (Nat.le_refl _) (by have:=HSZ.out;omega) X B M E s T _ (HSC.out.stay (hk.trans hkc)) (hex.keep hkc fun _ _ e=>e));have HKC:=hid hkc;obtain⟨n0,n1,n2,n3,n4,n5,n6,-⟩:=blk7 hcb;have zz:=hkc.stay z0;have HTK:=hid (exFL_take s hlt h0);have HHT:=hid (fun f=>exFL_hit (f:=f) s hlt h0);obtain⟨r,hr⟩:∃r,xkF s xs[j]=r:=⟨_,rfl⟩;rw[hr]at HCA HTK HHT;clear hc hex hk hsc hcb hme hkc hr h0 e0 e1 e2 e3 e4 e5 e6 e7 e8 e9 e10 e11 m0 m1 m2 y0
        cases r with
        | none=>
          simp only[endF]at HCA
          gi_upto_region 7 with fail
          rw[←hX,←hC];clear hX hC x0 x1 x2 x3 x4 x5 x6 z0
          gi_wp2_with ((refine⟨trivial,hdd _,?_⟩;gi_at_call 54);refine(CallsIn.inRound L ((callsIn_wide (n:=_)).2 HCA.out)).mono ?_;rintro e w5 ⟨rfl,hk5⟩;have HK5:=hid hk5;clear hk5)
          exact⟨⟨j+1,by simp,by omega,HTK.out,(HK.out.trans HKC.out).trans HK5.out⟩,by simp only[intOf];omega⟩
        | some f=>
          simp only[endF]at HCA
          gi_upto_region 7 with fail
          rw[←hX,←hC];clear hX hC x0 x1 x2 x3 x4 x5 x6 z0
          gi_wp2_with ((refine⟨trivial,hdd _,?_⟩;gi_at_call 54);refine(CallsIn.inRound L ((callsIn_wide (n:=_)).2 HCA.out)).mono ?_;rintro e w5 ⟨rfl,hk5⟩;have HK5:=hid hk5;clear hk5)
          exact HERR.out _ f (((HK.out.trans HKC.out).trans HK5.out).mono fun _ e=>e.elim) (by rw[stF_mk,HHT.out f rfl])
      · have hnl:¬(j:Int)<xs.length:=by omega
        have e:j=xs.length:=by omega
        rw[e,List.take_length]at h0;have hst:=stF_mk p.conts s k nm sz op val into cont xs thn els li co;rw[h0]at hst;have HST:=hid hst;have a0:=hk.stay e0;have a1:=hk.stay e1;have a2:=hk.stay e2;have a3:=hk.stay e3;have a4:=hk.stay e4;have a5:=hk.stay e5;have a6:=hk.stay e6;have a7:=hk.stay e7;have a8:=hk.stay e8;have a9:=hk.stay e9;have a10:=hk.stay e10;have a11:=hk.stay e11;have q0:=hk.stay m0;have q1:=hk.stay m1;have q2:=hk.stay m2;have hLr:=hk.blk HLV.out;have HLR:=hid hLr;have HSR:=hid (HSC.out.stay hk);clear hst h0 e hk hLr e0 e1 e2 e3 e4 e5 e6 e7 e8 e9 e10 e11 m0 m1 m2 y0;have HY0:=HY00;by_cases h12:k=1∨k=2
        · rcases h12 with rfl|rfl
          · have HCA:=hid (show Calls Tryz.prog 55 #[.pointer (some ⟨B,0,none⟩),.agg #[.int .i64 N,.slice p1 n1 c1,.slice (some ⟨g,o,none⟩) n2 c2],.agg #[.int .i64 1,.string S1,.int .i64 sz,.int .i64 op,.string S2,.string S3,.string S4,.slice px xs.length cx,.slice pt thn.length ct,.slice pe els.length ce,.int .i64 li,.int .i64 co]] wr fun e w'=>StepF wr B M E (DZ p.conts s 1 sz li co nm) e w' from by
              have h9:=tell_any p HL2.out 1 sz op li co nm val into cont xs thn els (by omega) wr B M E s _ T _ _ HOK.out HSR.out (CG HPV.out HK.out) (HX0.out.keep HK.out fun _ _ e=>e);exact h9)
            have HQ:=hid (show stF p.conts s (.mk 1 nm sz op val into cont xs thn els li co)=DZ p.conts s 1 sz li co nm from by rw[HST.out];exact if_pos (by decide));obtain⟨r,hr⟩:∃r,stF p.conts s (.mk 1 nm sz op val into cont xs thn els li co)=r:=⟨_,rfl⟩;rw[HQ.out]at hr;rw[hr]at HCA;have HR:=hid (HQ.out.trans hr);clear hr
            cases r with
            | error f=>
              gi_wp2_with ((refine⟨trivial,hdd _,?_⟩;gi_at_call 55);refine(CallsIn.inRound L ((callsIn_wide (n:=_)).2 HCA.out)).mono ?_;rintro e w5 ⟨hk5,he5⟩;have HK5:=hid hk5;have he5:e=.panicked (fwC f.err f.line f.col):=he5;subst he5;clear hk5)
              exact HERR.out _ f ((HK.out.mono fun _ e=>e.elim).trans HK5.out) HR.out
            | ok s2=>
              gi_wp2_with ((refine⟨trivial,hdd _,?_⟩;gi_at_call 55);refine(CallsIn.inRound L ((callsIn_wide (n:=_)).2 HCA.out)).mono ?_;rintro e w5 ⟨hk5,he5⟩;have HK5:=hid hk5;obtain⟨he6,hs5⟩:=(show e=.returned (.tuple #[])∧ScAt w5 B M (fun b=>E b∨wr.heap.size≤b) s2 from he5);subst he6;have HS5:=hid hs5;clear hs5;clear hk5)
              exact⟨(HK5.out.block L (by have:=HK.out.size;have:=HLL.out;omega) HEL.out).trans HLR.out,HEND.out _ _ s2 HK.out HR.out ⟨HK5.out,rfl,HS5.out⟩⟩
          · have HCA:=hid (show Calls Tryz.prog 55 #[.pointer (some ⟨B,0,none⟩),.agg #[.int .i64 N,.slice p1 n1 c1,.slice (some ⟨g,o,none⟩) n2 c2],.agg #[.int .i64 2,.string S1,.int .i64 sz,.int .i64 op,.string S2,.string S3,.string S4,.slice px xs.length cx,.slice pt thn.length ct,.slice pe els.length ce,.int .i64 li,.int .i64 co]] wr fun e w'=>StepF wr B M E (DZ p.conts s 2 sz li co nm) e w' from by
              have h9:=tell_any p HL2.out 2 sz op li co nm val into cont xs thn els (by omega) wr B M E s _ T _ _ HOK.out HSR.out (CG HPV.out HK.out) (HX0.out.keep HK.out fun _ _ e=>e);exact h9)
            have HQ:=hid (show stF p.conts s (.mk 2 nm sz op val into cont xs thn els li co)=DZ p.conts s 2 sz li co nm from by rw[HST.out];exact if_pos (by decide));obtain⟨r,hr⟩:∃r,stF p.conts s (.mk 2 nm sz op val into cont xs thn els li co)=r:=⟨_,rfl⟩;rw[HQ.out]at hr;rw[hr]at HCA;have HR:=hid (HQ.out.trans hr);clear hr
            cases r with
            | error f=>
              gi_wp2_with ((refine⟨trivial,hdd _,?_⟩;gi_at_call 55);refine(CallsIn.inRound L ((callsIn_wide (n:=_)).2 HCA.out)).mono ?_;rintro e w5 ⟨hk5,he5⟩;have HK5:=hid hk5;have he5:e=.panicked (fwC f.err f.line f.col):=he5;subst he5;clear hk5)
              exact HERR.out _ f ((HK.out.mono fun _ e=>e.elim).trans HK5.out) HR.out
            | ok s2=>
              gi_wp2_with ((refine⟨trivial,hdd _,?_⟩;gi_at_call 55);refine(CallsIn.inRound L ((callsIn_wide (n:=_)).2 HCA.out)).mono ?_;rintro e w5 ⟨hk5,he5⟩;have HK5:=hid hk5;obtain⟨he6,hs5⟩:=(show e=.returned (.tuple #[])∧ScAt w5 B M (fun b=>E b∨wr.heap.size≤b) s2 from he5);subst he6;have HS5:=hid hs5;clear hs5;clear hk5)
              exact⟨(HK5.out.block L (by have:=HK.out.size;have:=HLL.out;omega) HEL.out).trans HLR.out,HEND.out _ _ s2 HK.out HR.out ⟨HK5.out,rfl,HS5.out⟩⟩
        · by_cases h3:k=3
          · subst h3
            gi_upto_region 14 with fail
            obtain⟨t,ht⟩:∃t:Nat,told s nm=t:=⟨_,rfl⟩
            have HLK:=hid (show ∀w',BA (fun _=>False) V w'→w'.cell? ⟨Cx,1,none⟩=some (.string S1)∧w'.cell? ⟨Cx,10,none⟩=some (.int .i64 li)∧w'.cell? ⟨Cx,11,none⟩=some (.int .i64 co)∧w'.cell? ⟨Cs,0,none⟩=some (.pointer (some ⟨B,0,none⟩))∧w'.cell? ⟨B,0,none⟩=some (.map (some M))∧(Instr.lookup TMp (.map (some M)) (.string S1) false).run Tryz.prog w'=.ok (.int .i64 t) w' from fun w' hk=>by
              have hs:=HSC.out.stay hk;exact⟨hk.stay HB12.out.2.1,hk.stay HB12.out.2.2.1,hk.stay HB12.out.2.2.2,hk.stay HY0.out,hs.map,by rw[←hS1,←ht];exact hs.look nm⟩)
            obtain⟨b,hb⟩:∃b,((t:Int) != 1)=b:=⟨_,rfl⟩
            have HQE:=hid (show b=true→stF p.conts s (.mk 3 nm sz op val into cont xs thn els li co)=.error ⟨6,li,co⟩from fun h=>by
              rw[HST.out];rw[h,bne_iff_ne]at hb;have h8:(if told s nm≠1 then (.error ⟨6,li,co⟩:Except Fl Sc) else .ok s)=.error ⟨6,li,co⟩:=if_pos (by rw[ht];omega);exact h8)
            have HQK:=hid (show b=false→stF p.conts s (.mk 3 nm sz op val into cont xs thn els li co)=.ok s from fun h=>by
              rw[HST.out];rw[h]at hb;have h9:(t:Int)=1:=by simpa using hb
              have h8:(if told s nm≠1 then (.error ⟨6,li,co⟩:Except Fl Sc) else .ok s)=.ok s:=if_neg (by rw[ht];omega);exact h8)
            clear ht a0 a1 a2 a3 a4 a5 a6 a7 a8 a9 a10 a11 q0 q1 q2 z0;refine region_own0 (fun ch w'=>ch=fwC 6 li co∧b=true∧BA (fun _=>False) V w') (fun ch a' w' hd hx=>by obtain⟨rfl,h9,hk⟩:=hx;exact⟨hd.1,HERR.out w' ⟨6,li,co⟩ (hk.mono fun _ e=>e.elim) (HQE.out h9)⟩) (by kernel_rfl) (by simp) (fun a w h=>h) (fun i=>[[],[0],[0,1],[0,1,2],[],[4],[0,1,2,3,4,5],[0,1,2,3,4,5,6],[],[8],[],[10],[0,1,2,3,4,5,6,7,8,9,10,11]].getD i []) (fun _=>[]) (fun _=>[]) [12] (by kernel_rfl) (fun i=>if i=12 then some (sBad b) else none) ?_
            iterate 12 (first
              |(apply OwnX.BZ rfl;simp only[Act.put,LS])
              |( apply OwnX.BC rfl rfl;focus (intro w' hk;have hq:=(HK.out.trans (BA.drew (fun _=>False) wr)).trans hk;obtain⟨v1,v10,v11,v0,vb,vl⟩:=HLK.out w' hq;go_simp;with_reducible rfl)
                 simp only[Act.put,LS]))
            refine OwnX.BE rfl rfl (DD b 6 li co (fun w=>by rw[←hb];kernel_rfl) fun w' hk hb=>⟨rfl,hb,(HK.out.trans (BA.drew (fun _=>False) _)).trans hk⟩) fun g _=>?_;refine OwnX.BP ?_;intro W4 hk9 hF hG;have hb0:b=false:=(hF 12 (by simp)).1;have HK4:=hid ((HK.out.trans (BA.drew (fun _=>False) _)).trans hk9);clear hF hG hk9;simp only[sBad,Act.put,LS]
            gi_wp2_with fail
            exact⟨HK4.out.blk HLV.out,HEND.out _ _ s HK4.out (HQK.out hb0) ⟨BA.refl _ _,rfl,(HSC.out.stay HK4.out).mono fun _ h=>.inl h⟩⟩
          · by_cases h4:k=4
            · subst h4
              gi_upto_region 16 with fail
              obtain⟨t,ht⟩:∃t:Nat,told s nm=t:=⟨_,rfl⟩
              have HLK:=hid (show ∀w',BA (fun _=>False) V w'→w'.cell? ⟨Cx,1,none⟩=some (.string S1)∧w'.cell? ⟨Cx,10,none⟩=some (.int .i64 li)∧w'.cell? ⟨Cx,11,none⟩=some (.int .i64 co)∧w'.cell? ⟨Cs,0,none⟩=some (.pointer (some ⟨B,0,none⟩))∧w'.cell? ⟨B,0,none⟩=some (.map (some M))∧(Instr.lookup TMp (.map (some M)) (.string S1) false).run Tryz.prog w'=.ok (.int .i64 t) w' from fun w' hk=>by
                have hs:=HSC.out.stay hk;exact⟨hk.stay HB12.out.2.1,hk.stay HB12.out.2.2.1,hk.stay HB12.out.2.2.2,hk.stay HY0.out,hs.map,by rw[←hS1,←ht];exact hs.look nm⟩)
              obtain⟨b,hb⟩:∃b,((t:Int) != 2)=b:=⟨_,rfl⟩
              have HQE:=hid (show b=true→stF p.conts s (.mk 4 nm sz op val into cont xs thn els li co)=.error ⟨6,li,co⟩from fun h=>by
                rw[HST.out];rw[h,bne_iff_ne]at hb;have h8:(if told s nm≠2 then (.error ⟨6,li,co⟩:Except Fl Sc) else .ok s)=.error ⟨6,li,co⟩:=if_pos (by rw[ht];omega);exact h8)
              have HQK:=hid (show b=false→stF p.conts s (.mk 4 nm sz op val into cont xs thn els li co)=.ok s from fun h=>by
                rw[HST.out];rw[h]at hb;have h9:(t:Int)=2:=by simpa using hb
                have h8:(if told s nm≠2 then (.error ⟨6,li,co⟩:Except Fl Sc) else .ok s)=.ok s:=if_neg (by rw[ht];omega);exact h8)
              clear ht a0 a1 a2 a3 a4 a5 a6 a7 a8 a9 a10 a11 q0 q1 q2 z0;refine region_own0 (fun ch w'=>ch=fwC 6 li co∧b=true∧BA (fun _=>False) V w') (fun ch a' w' hd hx=>by obtain⟨rfl,h9,hk⟩:=hx;exact⟨hd.1,HERR.out w' ⟨6,li,co⟩ (hk.mono fun _ e=>e.elim) (HQE.out h9)⟩) (by kernel_rfl) (by simp) (fun a w h=>h) (fun i=>[[],[0],[0,1],[0,1,2],[],[4],[0,1,2,3,4,5],[0,1,2,3,4,5,6],[],[8],[],[10],[0,1,2,3,4,5,6,7,8,9,10,11]].getD i []) (fun _=>[]) (fun _=>[]) [12] (by kernel_rfl) (fun i=>if i=12 then some (sBad b) else none) ?_
              iterate 12 (first
                |(apply OwnX.BZ rfl;simp only[Act.put,LS])
                |( apply OwnX.BC rfl rfl;focus (intro w' hk;have hq:=(HK.out.trans (BA.drew (fun _=>False) wr)).trans hk;obtain⟨v1,v10,v11,v0,vb,vl⟩:=HLK.out w' hq;go_simp;with_reducible rfl)
                   simp only[Act.put,LS]))
              refine OwnX.BE rfl rfl (DD b 6 li co (fun w=>by rw[←hb];kernel_rfl) fun w' hk hb=>⟨rfl,hb,(HK.out.trans (BA.drew (fun _=>False) _)).trans hk⟩) fun g _=>?_;refine OwnX.BP ?_;intro W4 hk9 hF hG;have hb0:b=false:=(hF 12 (by simp)).1;have HK4:=hid ((HK.out.trans (BA.drew (fun _=>False) _)).trans hk9);clear hF hG hk9;simp only[sBad,Act.put,LS]
              gi_wp2_with fail
              exact⟨HK4.out.blk HLV.out,HEND.out _ _ s HK4.out (HQK.out hb0) ⟨BA.refl _ _,rfl,(HSC.out.stay HK4.out).mono fun _ h=>.inl h⟩⟩
            · by_cases h9:k=9
              · subst h9
                have HCA:=hid (show Calls Tryz.prog 56 #[.pointer (some ⟨B,0,none⟩),.agg #[.int .i64 N,.slice p1 n1 c1,.slice (some ⟨g,o,none⟩) n2 c2],.agg #[.int .i64 9,.string S1,.int .i64 sz,.int .i64 op,.string S2,.string S3,.string S4,.slice px xs.length cx,.slice pt thn.length ct,.slice pe els.length ce,.int .i64 li,.int .i64 co]] wr fun e w'=>StepF wr B M E (clF p.conts s op li co val into cont) e w' from by
                  have h9:=call_any p HL2.out 9 sz op li co nm val into cont xs thn els wr B M E s _ T _ _ HSP.out (by have:=HCAL.out;omega) HSR.out (CG HPV.out HK.out) (HX0.out.keep HK.out fun _ _ e=>e);exact h9)
                have HQ:=hid (show stF p.conts s (.mk 9 nm sz op val into cont xs thn els li co)=clF p.conts s op li co val into cont from by rw[HST.out];rfl);obtain⟨r,hr⟩:∃r,stF p.conts s (.mk 9 nm sz op val into cont xs thn els li co)=r:=⟨_,rfl⟩;rw[HQ.out]at hr;rw[hr]at HCA;have HR:=hid (HQ.out.trans hr);clear hr
                cases r with
                | error f=>
                  gi_wp2_with ((refine⟨trivial,hdd _,?_⟩;gi_at_call 56);refine(CallsIn.inRound L ((callsIn_wide (n:=_)).2 HCA.out)).mono ?_;rintro e w5 ⟨hk5,he5⟩;have HK5:=hid hk5;have he5:e=.panicked (fwC f.err f.line f.col):=he5;subst he5;clear hk5)
                  exact HERR.out _ f ((HK.out.mono fun _ e=>e.elim).trans HK5.out) HR.out
                | ok s2=>
                  gi_wp2_with ((refine⟨trivial,hdd _,?_⟩;gi_at_call 56);refine(CallsIn.inRound L ((callsIn_wide (n:=_)).2 HCA.out)).mono ?_;rintro e w5 ⟨hk5,he5⟩;have HK5:=hid hk5;obtain⟨he6,hs5⟩:=(show e=.returned (.tuple #[])∧ScAt w5 B M (fun b=>E b∨wr.heap.size≤b) s2 from he5);subst he6;have HS5:=hid hs5;clear hs5;clear hk5)
                  exact⟨(HK5.out.block L (by have:=HK.out.size;have:=HLL.out;omega) HEL.out).trans HLR.out,HEND.out _ _ s2 HK.out HR.out ⟨HK5.out,rfl,HS5.out⟩⟩
              · have HQ:=hid (show stF p.conts s (.mk k nm sz op val into cont xs thn els li co)=.ok s from by rw[HST.out];exact(if_neg h12).trans ((if_neg h3).trans ((if_neg h4).trans (if_neg h9))));have b1:(k==1)=false:=by rw[BF];omega
                have b2:(k==2)=false:=by rw[BF];omega
                have b3:(k==3)=false:=by rw[BF];omega
                have b4:(k==4)=false:=by rw[BF];omega
                have b9:(k==9)=false:=by rw[BF];omega
                clear h12 h3 h4 h9
                gi_wp2
                exact⟨HLR.out,HEND.out _ _ s HK.out HQ.out ⟨BA.refl _ _,rfl,HSR.out.mono fun _ h=>.inl h⟩⟩
  have HW:=hid (walk_any p.conts L _ TJ.stay (fun W G s h=>h.lt) HRND _ l (Nat.le_refl _) (by omega) ⟨[],[],0⟩ _ V7 (fun b=>S b∧b<w.heap.size) q cq htj (hsk.keep hw7 fun _ _ e=>e) (fun b hb=>⟨by have h0:=hb.2;omega,by have h0:=hb.2;omega⟩) (by show 0+BI l≤_;omega));have HWK:=hid hw7;clear HRND htj hrc;refine each1_any V7 L Be q l.length cq (hk6.trans hk7 |>.blk hb5) _ (HW.out.mono ?_);rintro e W ⟨hk,he⟩;obtain⟨r,hr⟩:∃r,CK p.conts ⟨[],[],0⟩ (CI l)=r:=⟨_,rfl⟩;have hthr:thrF p.conts l=r:=hr;rw[hr]at he;have hkW:BA (fun _=>False) w W:=DL hw7 hk fun b hb=>.inr (by omega)
  cases r with
  | error f=>
    refine .inl ⟨_,he,?_⟩;have hD7:W.heap[D]?=some (.deferred (some [])):=(hk.block D (by omega) (by omega)).trans (hk7.blk hb6);refine⟨by simp,.inl ⟨D,_,rfl,run_takeDeferred hD7,?_⟩⟩;show ThrP w (thrF p.conts l) (.panicked (fwC f.err f.line f.col)) _;rw[hthr];exact ThrP.err (DL hkW (BA.putObj W D (.deferred none)) fun b hb=>.inr (by rw[show b=D from hb];omega))
  | ok s'=>
    obtain⟨he,G',hj,hg⟩:=he;refine .inr ⟨he,hj.rc,?_⟩;obtain⟨E,hsc,hEL,hEG⟩:=hj.gs;generalize hX:W.putObj L _=X;have hP:BA (fun b=>b=L) W X:=by rw[←hX];exact BA.putObj W L _
    have hDX:X.heap[D]?=some (.deferred (some [])):=(hP.block D (by have:=hk.size;omega) (by omega)).trans hj.dd.1
    have hcs:X.cell? ⟨Cs,0,none⟩=some (.pointer (some ⟨B,0,none⟩)):=by
      have h0:X.heap[Cs]?=_:=(hP.block Cs (by have:=hk.size;omega) (by omega)).trans hj.bs.1;simp[World.cell?,h0]
    have HFIN:=hid (show ThrP w (thrF p.conts l) (.returned (.pointer (some ⟨B,0,none⟩))) (X.putObj D (.deferred none)) by
      rw[hthr];have hk1:=DL hkW hP fun b hb=>.inr (by rw[show b=L from hb];omega);refine ThrP.ok B M (DL hk1 (BA.putObj X D (.deferred none)) fun b hb=>.inr (by rw[show b=D from hb];omega)) ?_;have hE:∀b,E b→w.heap.size≤b:=fun b hb=>(hg b (hEG b hb)).elim (fun h=>by omega) fun h=>by omega
      refine((hsc.keep hP fun b hb e=>hEL (by rw[←show b=L from e];exact hb)).keep (BA.putObj X D (.deferred none)) fun b hb e=>?_).mono hE;exact hj.dd.2 (by rw[←show b=D from e];exact hEG b hb))
    have HDX:=hid hDX;clear hV5 hBe hV6 hD hV7 hL hDL hMB hBC hLD hX hP hDX hj hsc hEL hEG hg hk hkW he hr hthr hk5 hk6 hk7 hk4 hk57 hk37 hw7 hb3 hb4 hb5 hb6 hb7 hs7 h34 h17 hord hA hp0 hsk;refine Rf.wpB_of (n:=1) rfl ?_
    gi_wp2
    refine⟨by simp,.inl ⟨D,_,rfl,run_takeDeferred HDX.out,?_⟩⟩;refine⟨_,results_tmp rfl _ _ _,?_⟩;exact HFIN.out
def aside2 (n m:Nat)(x:Obj)(base:Nat)(T:TypeId)(size:Nat)(v:Value)(k:Nat)(xs:List Value)(j:Nat)(w:World):Prop:=
 if j=n then w.heap[m]?=some x else if j=n+1 then w.ownsRow base T size v k xs else True
def aside2Fp (n m:Nat)(v:Value)(j b:Nat):Prop:=(j=n∧b=m)∨(j=n+1∧v.ownBlock=some b)
theorem wp_own2 {P:Program}{l:List Oper}{Q:Exit→Act→World→Prop}{id:Nat}{a:Act}{w:World}(hm:P.follows .mixedOrders=true)
  (m:Nat) (x:Obj) (hx:w.heap[m]?=some x) (base:Nat) (T:TypeId) (size:Nat) (v:Value) (k:Nat) (xs:List Value) (hrow:w.ownsRow base T size v k xs) (hlt:m<base)
  (D av ea:Nat→List Nat) (keep:List Nat) (hok:okB l.toArray D av ea keep=true) (sp:Nat→Option Loud)
  (hlex:Lex P l.toArray w.drew (fun b=>b=m∨v.ownBlock=some b) sp av ea (fun a F Fp=>Done w.drew (fun b=>b=m∨v.ownBlock=some b) Q keep a F Fp) l 0 a (aside2 l.length m x base T size v k xs) (aside2Fp l.length m v)):(Code.region id l.toArray true).wp P Q a w:=by
 refine wp_own_lit hm D av ea keep hok sp _ _ _ ?_ ?_ ?_ ?_ hlex
 ·intro j hj;have hj':j<l.length:=by simpa using hj
  funext w';unfold aside2;rw[if_neg (by omega),if_neg (by omega)]
 ·intro j hj;have hj':j<l.length:=by simpa using hj
  funext b;unfold aside2Fp
  exact propext ⟨fun h=>by rcases h with h|h<;>omega,fun h=>h.elim⟩
 ·intro j hj;refine⟨fun w1 w2 _ _ _ h hk=>?_,?_,fun b hb=>?_⟩
  ·unfold aside2 at hk ⊢;by_cases h1:j=l.length
   ·rw[if_pos h1]at hk ⊢;rw[←hk];exact h m (.inl ⟨h1,rfl⟩)
   ·rw[if_neg h1]at hk ⊢;by_cases h2:j=l.length+1
    ·rw[if_pos h2]at hk ⊢;exact DK hk fun b hb=>h b (.inr ⟨h2,hb⟩)
    ·rw[if_neg h2];trivial
  ·unfold aside2;by_cases h1:j=l.length
   ·rw[if_pos h1];exact hx
   ·rw[if_neg h1];by_cases h2:j=l.length+1
    ·rw[if_pos h2];exact hrow
    ·rw[if_neg h2];trivial
  ·rcases hb with⟨_,hb⟩|⟨_,hb⟩
   ·refine⟨?_,.inl hb⟩;rw[hb];rcases Nat.lt_or_ge m w.heap.size with h' | h'
    ·exact h'
    ·rw[Array.getElem?_eq_none h']at hx;cases hx
   ·exact⟨(hrow.lt b hb).2,.inr hb⟩
 ·intro i j _ _ hij b h1 h2;rcases h1 with⟨a1,a2⟩|⟨a1,a2⟩<;>rcases h2 with⟨b1,b2⟩|⟨b1,b2⟩
  ·omega
  ·have:=(hrow.lt b b2).1;omega
  ·have:=(hrow.lt b a2).1;omega
  ·omega
def sApp (base:Nat)(T:TypeId)(size n:Nat)(xs:List Value)(lo:Nat)(A:World→Nat→Nat→List Value→Prop):Loud:={ ok:=fun _ g=>lo≤g.b,val:=fun _ g=>.slice g.p (n+1) g.c,fp:=fun _ g k=>Of g.p k∨(g.b≤k∧k<g.d),post:=fun _ g w=>(∀k,Of g.p k→¬(g.b≤k∧k<g.d))∧∃us,w.ownsRow base T size (.slice g.p (n+1) g.c) (n+1) (xs++us)∧A w g.b g.d us }
def sOneM (E:TypeId):Loud:={ val:=fun _ g=>.slice (some ⟨g.b,0,none⟩) 1 1,fp:=fun _ g k=>k=g.b,post:=fun args g w=>∀vs,args.getD 0 undef=.agg vs→w.heap[g.b]?=some (.cells vs E (0,0)) }
section
variable {P : Program}{w0 : World}{M : Nat→Prop}{o : Oper}{a : Act}{av ea : List Nat}{F : Nat→World→Prop}{Fp : Nat→Nat→Prop}
theorem loud_oneM (E:TypeId)(vs:Array Value)(hu:(BM o a).getD 0 undef=.agg vs)(hrun:∀w,(execOp a.eval o).run P w=.ok (.value (.slice (some ⟨w.heap.size,0,none⟩) 1 1)) (w.alloc (.cells vs E))):CU P w0 M o a (sOneM E) av ea F Fp:=by
 refine BY ⟨default,trivial⟩ (fun g _ w w' _ _ _ h k u hu=>(h g.b rfl).trans (k u hu)) fun w _ _ _=>?_;refine⟨w.alloc (.cells vs E),{ b:=w.heap.size },trivial,.inl (hrun w),BA.alloc _ _ _,fun b hb=>?_,fun u' hu'=>?_⟩
 ·have hb:b=w.heap.size:=hb;subst hb;exact⟨.inl (Nat.le_refl _),by simp⟩
 ·rw[hu]at hu'
  cases hu';exact heap_alloc_new w _
theorem loud_appendM (base lo:Nat)(T t:TypeId)(z:Value)(size bytes:Nat)(ht:P.underlying t=some (.slice T))(hinfo:(P.info? T).map (fun i=>(i.zero,i.size,i.bytes))=some (some z,size,bytes))(hzs:z.cells.size=size)(hsz:0<size)
  (x y:Operand) (ho:o.op=.call { callee:=.builtin .append,args:=#[x,y],argTypes:=#[t,t] }) (v:Value) (n:Nat) (xs us:List Value) (b3 d3 b4:Nat) (A:World→Nat→Nat→List Value→Prop) (hA:∀w w' b d us,A w b d us→(∀k,b≤k→k<d→w'.heap[k]?=w.heap[k]?)→A w' b d us)
  (hx:a.eval x=v) (hy:a.eval y=.slice (some ⟨b4,0,none⟩) 1 1) (hl:us.length=size) (h1:∀u∈us,u.oneCell'=true) (hn:n+1≤maxLen) (hb:(n+1) * bytes≤140737488355328) (hbase:base≤w0.heap.size) (hlo:lo≤b3)
  (j1:Nat) (hj1a:j1∈av) (hj1e:j1∈ea) (hF1:∀w,F j1 w→w.ownsRow base T size v n xs) (hp1:∀b,v.ownBlock=some b→Fp j1 b)
  (j3:Nat) (hj3a:j3∈av) (hj3e:j3∈ea) (hne:j3≠j1) (hF3:∀w,F j3 w→A w b3 d3 us) (hp3:∀b,(b3≤b∧b<d3)→Fp j3 b)
  (j4:Nat) (hj4a:j4∈av) (hF4:∀w,F j4 w→w.heap[b4]?=some (.cells us.toArray T (0,0))):CU P w0 M o a (sApp base T size n xs lo A) av ea F Fp:=by
 obtain⟨i0,hi,hz,hsize,hby⟩:∃i0,P.info? T=some i0∧i0.zero=some z∧i0.size=size∧i0.bytes=bytes:=by
  cases hi:P.info? T with
  |none=>rw[hi]at hinfo;cases hinfo
  | some i0=>
   rw[hi]at hinfo;simp only[Option.map_some,Option.some.injEq,Prod.mk.injEq]at hinfo;exact⟨i0,rfl,hinfo.1,hinfo.2.1,hinfo.2.2⟩
 refine BY ⟨{ b:=lo },Nat.le_refl _⟩ (fun g _ w1 w2 _ _ _ h k=>?_) fun w hw hav hdis=>?_
 ·obtain⟨hno,us,h2,h3⟩:=k;exact⟨hno,us,DK h2 fun b hb=>h b (.inl (CL.1 hb)),hA _ _ _ _ _ h3 fun b hb1 hb2=>h b (.inr ⟨hb1,hb2⟩)⟩
 ·have hrow:=hF1 w (hav j1 hj1a).1;have hst:=hF3 w (hav j3 hj3a).1;have hsrc:=hF4 w (hav j4 hj4a).1
  obtain⟨v',w',r1,r2,r3,-,r5⟩:=run_append_own_at (P:=P) (w:=w) base t o.type T i0 z size bytes ht hi hz hsize hby hzs hsz v n xs hrow ⟨b4,0,none⟩ 1 1 us (by rw[hl];omega)
   (fun j u hj=>by
    rw[add_off];exact BH hsrc (by simpa using hj)) h1 hn hb (Nat.le_trans hbase hw.size)
  obtain⟨p,c,rfl⟩:∃p c,v'=.slice p (n+1) c:=by
   rcases r2.2 with⟨rfl,h0⟩|⟨g,cap,cur,rfl,-⟩
   ·exact absurd h0 (by omega)
   ·exact⟨_,_,rfl⟩
  have kg:BA (fun b=>v.ownBlock=some b) w w':=BA.grown r3 fun b hb=>hb;refine⟨w',{ p:=p,c:=c,b:=b3,d:=d3 },hlo,.inl ?_,kg.mono fun b hb=>⟨j1,hj1e,hp1 b hb⟩,fun b hb=>?_,fun k hk hkb=>?_,us,r2,hA _ _ _ _ _ hst fun b hb1 hb2=>kg.block b ((hav j3 hj3a).2 b (hp3 b ⟨hb1,hb2⟩)).1 fun e=>hdis j3 hj3a j1 hj1a hne b (hp3 b ⟨hb1,hb2⟩) (hp1 b e)⟩
  ·unfold execOp;simp only[ho,resolve,invoke,builtin,Sem.run_bind,Sem.run_pure,Result.andThen_ok,List.map_toArray,List.map_cons,List.map_nil,hx,hy,r1,sApp]
  ·rcases hb with hb|hb
   ·refine⟨?_,(r2.lt b (CL.2 hb)).2⟩;have hb':=CL (n:=n+1) (c:=c).2 hb;rcases r5 with r5|r5
    ·rw[r5]at hb';exact .inr ⟨j1,hj1e,hp1 b hb'⟩
    ·rw[r5]at hb';have:w.heap.size=b:=Option.some.inj hb';exact .inl (by omega)
   ·exact⟨.inr ⟨j3,hj3e,hp3 b hb⟩,Nat.lt_of_lt_of_le ((hav j3 hj3a).2 b (hp3 b hb)).1 kg.size⟩
  ·have hk2:=CL (n:=n+1) (c:=c).2 hk;rcases r5 with r5|r5
   ·rw[r5]at hk2;exact hdis j3 hj3a j1 hj1a hne k (hp3 k hkb) (hp1 k hk2)
   ·rw[r5]at hk2;have h1:w.heap.size=k:=Option.some.inj hk2;have h2:=((hav j3 hj3a).2 k (hp3 k hkb)).1;omega
end
end Go.Proofs.YtknnmidnodeanaaGreatDoor
namespace Go.Proofs.YtknnmidnodeanaaGreatDoor.OwnX
open Go Go.RowKit Own
open Go.Lib (hid)
theorem wp_own3 {P:Program}{l:List Oper}{Q:Exit→Act→World→Prop}{id:Nat}{a:Act}{w:World}(X:List PanicEntry→World→Prop)(hX:∀ch a' w',Fr l.toArray a a'→X ch w'→Q (.panic ch) a' w')(hm:P.follows .mixedOrders=true)
  (m1 m2:Nat) (x1 x2:Obj) (hx1:w.heap[m1]?=some x1) (hx2:w.heap[m2]?=some x2) (hne:m1<m2) (base:Nat) (T:TypeId) (size:Nat) (v:Value) (k:Nat) (xs:List Value) (hrow:w.ownsRow base T size v k xs) (hlt:m2<base)
  (D av ea:Nat→List Nat) (keep:List Nat) (hok:okB l.toArray D av ea keep=true) (sp:Nat→Option Loud)
  (hlex:Lex P l.toArray w.drew (fun b=>b=m1∨b=m2∨v.ownBlock=some b) X sp av ea (fun a F Fp=>Done w.drew (fun b=>b=m1∨b=m2∨v.ownBlock=some b) Q keep a F Fp) l 0 a (aside3 l.length m1 m2 x1 x2 base T size v k xs) (aside3Fp l.length m1 m2 v)):(Code.region id l.toArray true).wp P Q a w:=by
 have lt:∀{m:Nat}{x:Obj},w.heap[m]?=some x→m<w.heap.size:=fun h=>(AG.1 h).1;refine wp_own_lit X hX hm D av ea keep hok sp _ _ _ ?_ ?_ ?_ ?_ hlex
 ·intro j hj;have hj':j<l.length:=by simpa using hj
  funext w';unfold aside3;rw[if_neg (by omega),if_neg (by omega),if_neg (by omega)]
 ·intro j hj;have hj':j<l.length:=by simpa using hj
  funext b;unfold aside3Fp
  exact propext ⟨fun h=>by rcases h with h|h|h<;>omega,fun h=>h.elim⟩
 ·intro j hj;refine⟨fun w1 w2 _ _ _ h hk=>?_,?_,fun b hb=>?_⟩
  ·unfold aside3 at hk ⊢;by_cases e1:j=l.length
   ·rw[if_pos e1]at hk ⊢;rw[←hk];exact h m1 (.inl ⟨e1,rfl⟩)
   ·rw[if_neg e1]at hk ⊢;by_cases e2:j=l.length+1
    ·rw[if_pos e2]at hk ⊢;rw[←hk];exact h m2 (.inr (.inl ⟨e2,rfl⟩))
    ·rw[if_neg e2]at hk ⊢;by_cases e3:j=l.length+2
     ·rw[if_pos e3]at hk ⊢;exact DK hk fun b hb=>h b (.inr (.inr ⟨e3,hb⟩))
     ·rw[if_neg e3];trivial
  ·unfold aside3;by_cases e1:j=l.length
   ·rw[if_pos e1];exact hx1
   ·rw[if_neg e1];by_cases e2:j=l.length+1
    ·rw[if_pos e2];exact hx2
    ·rw[if_neg e2];by_cases e3:j=l.length+2
     ·rw[if_pos e3];exact hrow
     ·rw[if_neg e3];trivial
  ·rcases hb with⟨_,hb⟩|⟨_,hb⟩|⟨_,hb⟩
   ·exact⟨by rw[hb];exact lt hx1,.inl hb⟩
   ·exact⟨by rw[hb];exact lt hx2,.inr (.inl hb)⟩
   ·exact⟨(hrow.lt b hb).2,.inr (.inr hb)⟩
 ·intro i j _ _ hij b h1 h2;rcases h1 with⟨a1,a2⟩|⟨a1,a2⟩|⟨a1,a2⟩<;>rcases h2 with⟨b1,b2⟩|⟨b1,b2⟩|⟨b1,b2⟩
  ·omega
  ·omega
  ·have:=(hrow.lt b b2).1;omega
  ·omega
  ·omega
  ·have:=(hrow.lt b b2).1;omega
  ·have:=(hrow.lt b a2).1;omega
  ·have:=(hrow.lt b a2).1;omega
  ·omega
end Go.Proofs.YtknnmidnodeanaaGreatDoor.OwnX
namespace Go.Proofs.YtknnmidnodeanaaGreatDoor
open Go Go.RowKit Own
open Go.Lib (hid)
abbrev TLp:TypeId:=57
theorem assert_flaw (W:World)(v:Value)(xT:TypeId):(Instr.typeAssert (.iface 81 v) xT 81 true).run Tryz.prog W=.ok (.tuple #[v,.bool true]) W:=by kernel_rfl
theorem catch_flaw (B6 B7:Nat)(x6:Value)(z0 z1 z2 er li co:Int)(older:List PanicEntry)(w:World)
  (h6:w.heap[B6]?=some (.cells #[x6] TLp (0,0)))
  (h7:w.heap[B7]?=some (.cells #[.int .i64 z0,.int .i64 z1,.int .i64 z2] TFa (0,0))) (hne:B6<B7):
  CallsD Tryz.prog 39 #[.pointer (some ⟨B6,0,none⟩),.pointer (some ⟨B7,0,none⟩)] (.panicking ({ v:=fwV er li co,recovered:=false }::older)) w fun e u' w'=>e=.returned (.tuple #[])∧u'=.panicking ({ v:=fwV er li co,recovered:=true }::older)∧
   w'.heap[B6]?=some (.cells #[.slice none 0 0] TLp (0,0))∧w'.heap[B7]?=some (.cells #[.int .i64 er,.int .i64 li,.int .i64 co] TFa (0,0))∧BA (fun b=>b=B6∨b=B7) w w':=by
 obtain⟨V,B3,hV,hB3,hb3,hk1,hs1⟩:=BD w (.cells #[.int .i64 er,.int .i64 li,.int .i64 co] TFw);have HK:=hid hk1;have HB3:=hid hb3;have HB6:=hid (hk1.blk h6);have HB7:=hid (hk1.blk h7);have HNE:=hid hne
 have HN:=hid (show B6<B3∧B7<B3 by
  have a1:=(AG.1 h6).1;have a2:=(AG.1 h7).1;omega)
 clear h6 h7 hne hb3 hk1 hs1;refine callsD_of_wpS Tryz.func39 rfl fun c₀ cs hu=>?_;apply wpS_seq;apply wpS_region;simp[wpOpsS,go_sem,recoverD,hu,Tryz.ntmps39,Exit.thenS];refine wpS_of_wp ?_;simp only[Array.setIfInBounds,Array.replicate];simp only[fwV,TFw,TFa,TLp]at hu ⊢;have hta:=assert_flaw;go_upto_region 7 with fail;rw[←hV,←hB3];clear hV hB3 hta
 refine wp_ownB (by kernel_rfl) B6 B7 _ _ HB6.out HB7.out (Nat.ne_of_lt HNE.out) (fun i=>[[],[0],[],[0,1,2]].getD i []) (fun i=>if i=2 then [4] else if i=3 then [5] else []) (fun i=>if i=2 then [4] else if i=3 then [5] else []) [2,3] (by kernel_rfl)
  (fun i=>if i=2 then some (CT B6 0 TLp #[x6]) else if i=3 then some (sPut B7 TFa) else none) ?_
 refine BC rfl rfl (v:=.pointer (some ⟨B3,0,none⟩)) (fun w' hk=>by
  have hb:=((BA.drew (fun b=>b=B6∨b=B7) V).trans hk).blkE HB3.out (fun e=>by have:=HN.out;omega);obtain⟨x0,x1,x2,-⟩:=BS hb;go_simp<;>rfl) ?_
 refine BC rfl rfl (v:=.agg #[.int .i64 er,.int .i64 li,.int .i64 co]) (fun w' hk=>by
  have hb:=((BA.drew (fun b=>b=B6∨b=B7) V).trans hk).blkE HB3.out (fun e=>by have:=HN.out;omega);obtain⟨x0,x1,x2,-⟩:=BS hb;go_simp<;>rfl) ?_
 simp only[Act.put,LS];refine BE rfl rfl (CS B6 0 TLp #[x6] (.slice none 0 0) (BV rfl rfl) (fun w u hc hf=>by go_simp<;>rfl) 4 (by decide) (by decide) (fun w h=>h) (.inl ⟨rfl,rfl⟩) (by show 0<1;decide)) fun g2 _=>?_;simp only[CT,Act.put];refine BE rfl rfl (loud_put B7 TFa TFa #[.int .i64 er,.int .i64 li,.int .i64 co] _ (.tmp 1) (.tmp 12) rfl rfl rfl 5 (by decide) (by decide) (fun w h=>h) (.inr ⟨rfl,rfl⟩) rfl (by kernel_rfl) (by simp[Value.oneCell'])) fun g3 _=>?_;simp only[Act.put];refine BP ?_;intro w9 hk9 hF _;have f2:w9.heap[B6]?=some (.cells #[.slice none 0 0] TLp (0,0)):=(hF 2 (by decide)).1 _ (BV rfl rfl);have f3:w9.heap[B7]?=some (.cells #[.int .i64 er,.int .i64 li,.int .i64 co] TFa (0,0)):=(hF 3 (by decide)).1 _ (BV rfl rfl);have hkM:=(BA.drew (fun b=>b=B6∨b=B7) V).trans hk9;have hkW:=(HK.out.mono (E':=fun b=>b=B6∨b=B7) fun _ e=>e.elim).trans hkM;clear hk9 hF hkM;go_wp2_with fail;exact⟨rfl,_,rfl,.tuple #[],by simp[results,Tryz.results39,go_sem],rfl,rfl,f2,f3,hkW⟩
theorem catch_nil (a b:Addr)(w:World):
  CallsD Tryz.prog 39 #[.pointer (some a),.pointer (some b)] .returning w fun e u' w'=>e=.returned (.tuple #[])∧u'=.returning∧w'=w:=by
 refine callsD_of_wpS Tryz.func39 rfl fun c₀ cs hu=>?_;apply wpS_seq;apply wpS_region;simp[wpOpsS,go_sem,recoverD,hu,Tryz.ntmps39,Exit.thenS];refine wpS_of_wp ?_;simp only[Array.setIfInBounds,Array.replicate];go_wp2_with fail
 cases c₀
 simp_all [bodyPostS,results,Tryz.results39]
end Go.Proofs.YtknnmidnodeanaaGreatDoor
